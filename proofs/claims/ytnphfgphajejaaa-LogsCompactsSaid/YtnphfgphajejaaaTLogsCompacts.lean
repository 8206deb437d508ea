import Derived.Test.YtnphfgphajejaaaC48
import Derived.Test.YtnphfgphajejaaaTLogsPuts
set_option linter.unusedSimpArgs false
set_option linter.unusedVariables false
namespace Go.Proofs
open Go.Pv
set_option maxRecDepth 100000

theorem compE_inv {h : Hrd} {i : Int} {s : List Int} (e : compE h i s = 0) : hardB h = true ∧ (h.base < i ∧ i ≤ lastI h ∧ i ≤ 1099511627776) ∧ ¬ 16384 < s.length := by
  unfold compE at e
  by_cases h1 : hardB h = true
  · rw [if_pos h1] at e
    by_cases h2 : h.base < i ∧ i ≤ lastI h ∧ i ≤ 1099511627776
    · rw [if_pos h2] at e
      by_cases h3 : 16384 < s.length
      · rw [if_pos h3] at e; omega
      · exact ⟨h1, h2, h3⟩
    · rw [if_neg h2] at e; omega
  · rw [if_neg h1] at e; omega

set_option maxHeartbeats 4000000 in
theorem l_LogsCompacts (a : Hrd) (hbI : isI a.base) (i : Int) (hi : isI i) (s : List Int) (k : Int) (hkI : isI k) : Ctr Try.prog 28 [.ag a.enc, iv i, .sl 1 (s.map encB), iv k] (bv true) [] := by
  refine spec_of_body mixed Try.func28 rfl (by kernel_rfl) (by kernel_rfl) ?_; conv => whnf
  ((try ((refine Exists.intro none ?_); (conv => whnf))); first | ((with_reducible refine call_by (c_Heavy09 a) ?_); conv => whnf))
  ((first | (with_reducible refine split_dec (fun h => ?_) (fun h => ?_)) | (with_reducible refine split_beq (fun h => ?_) (fun h => ?_)) | (with_reducible refine split_bne (fun h => ?_) (fun h => ?_)) | (with_reducible refine split_not (fun h => ?_) (fun h => ?_)) | (with_reducible refine split_beqS (fun h => ?_) (fun h => ?_)) | (with_reducible refine split_intro (fun h => ?_) (fun h => ?_))) <;> conv => whnf)
  · exact exit_plain rfl rfl
  obtain ⟨hal, has⟩ := heavyH_len h
  clear h
  ((first | (with_reducible refine split_dec (fun h => ?_) (fun h => ?_)) | (with_reducible refine split_beq (fun h => ?_) (fun h => ?_)) | (with_reducible refine split_bne (fun h => ?_) (fun h => ?_)) | (with_reducible refine split_not (fun h => ?_) (fun h => ?_)) | (with_reducible refine split_beqS (fun h => ?_) (fun h => ?_)) | (with_reducible refine split_intro (fun h => ?_) (fun h => ?_))) <;> conv => whnf)
  · exact exit_plain rfl rfl
  have hsl : s.length ≤ 32768 := by simp only [List.length_map] at h; omega
  clear h
  ((try ((refine Exists.intro none ?_); (conv => whnf))); first | ((with_reducible refine call_by (c_looked09 a) ?_); conv => whnf))
  cases hL : lookedB a with
  | false =>
    conv => whnf
    exact exit_plain rfl rfl
  | true =>
  conv => whnf
  simp only [lookedB, decide_eq_true_eq] at hL
  have k1 := c_CompactW a (by omega) hbI i hi s (by omega)
  by_cases e : compE a i s = 0
  · rw [(res_ok e).2.2] at k1
    obtain ⟨hB, ⟨h1, h2, h3⟩, h4⟩ := compE_inv e
    obtain ⟨hA, hC, hS, hR⟩ := hardB_A hB
    have hla : lastI a = a.base + a.log.length := lastI_sum hL.1 (by omega)
    obtain ⟨q, hq⟩ : ∃ q : Nat, i = a.base + q := ⟨(i - a.base).toNat, by omega⟩
    have hql : q ≤ a.log.length := by omega
    have hf : force a i = fwd a (lastI a) q := by rw [hq]; exact force_at hL (by omega) hql (by omega)
    have ex : compH a i s = cutH a q (fwd a (lastI a) q).1 s := by
      unfold compH cutH
      rw [hf, termAt_nat hq hql, show (i - a.base).toNat = q by omega, hq]
    rw [ex] at k1
    have x1 : lastI (cutH a q (fwd a (lastI a) q).1 s) = lastI a := cut_lastI hL.1 (by omega) hql _ _
    have x2 : lastT (cutH a q (fwd a (lastI a) q).1 s) = lastT a := cut_lastT hql _ _
    have x3 : hardB (cutH a q (fwd a (lastI a) q).1 s) = true := cut_hard hB (by omega) hql (by omega) (fwd_conf hC hR _ _ hql) (by omega)
    have x4 : (force (cutH a q (fwd a (lastI a) q).1 s) (lastI a)).1 = (force a (lastI a)).1 := by
      unfold force
      rw [show (cutH a q (fwd a (lastI a) q).1 s).log.length = a.log.length - q from List.length_drop, fwd_cut hL.1 (by omega) (by omega) (by omega) (by omega)]
      rw [show q + (a.log.length - q) = a.log.length by omega]
    have x5 : fromL (cutH a q (fwd a (lastI a) q).1 s) (i + 1) 200 = fromL a (i + 1) 200 := by rw [hq]; exact cut_from (by omega)
    have x6 : i ≤ k → termAt (cutH a q (fwd a (lastI a) q).1 s) k = termAt a k := fun hk => cut_term hql (by omega)
    have x7 : k < i → termAt (cutH a q (fwd a (lastI a) q).1 s) k = -1 := fun hk => cut_term_no (by omega)
    have xl : (cutH a q (fwd a (lastI a) q).1 s).log.length ≤ 200 := by
      show (a.log.drop q).length ≤ 200
      rw [List.length_drop]; omega
    have xb : (cutH a q (fwd a (lastI a) q).1 s).base = i := hq.symm
    have xs : (cutH a q (fwd a (lastI a) q).1 s).snap = s := rfl
    generalize cutH a q (fwd a (lastI a) q).1 s = x at *
    have ma : a.log.length ≤ maxLen := smallM (by omega)
    have mx : x.log.length ≤ maxLen := smallM (by omega)
    have c1 := c_Last x mx
    rw [x1, x2] at c1
    have c2 := c_lConf x mx (lastI a)
    have cc : Ctr Try.prog 56 [.ag (force a (lastI a)).1.enc, .ag (force x (lastI a)).1.enc] (bv true) [] := by rw [x4]; exact s_Conf _
    have c3 := c_lCheck x mx
    rw [x3] at c3
    simp only [if_true] at c3
    have cb : Ctr Try.prog 136 [.sl 1 (x.snap.map encB), .sl 1 (s.map encB)] (bv true) [] := by rw [xs]; exact s_Bytes s (smallM (by omega))
    have hbx : isI x.base := by rw [xb]; exact hi
    have t1 := c_Term x mx hbx k hkI
    have t2 := c_Term a ma hbI k hkI
    have f1 := c_lFromV x (by omega) hbx (i + 1) (by unfold isI; omega) 200
    have f2 := c_lFromV a (by omega) hbI (i + 1) (by unfold isI; omega) 200
    rw [x5] at f1
    have fl := fromL_len a (i + 1) 200
    have cs := s_Entries (fromL a (i + 1) 200) (smallM (by omega))
    have e1 : IntKind.i64.wrap (i + 1) = i + 1 := wrap_id (by omega) (by omega)
    ((try ((refine Exists.intro none ?_); (conv => whnf))); first | ((with_reducible refine call_by (k1) ?_); conv => whnf))
    (refine Exists.intro _ (And.intro rfl (And.intro (by intro q _; simp only [List.length_nil]; omega) (And.intro (by intro i hi; exact absurd hi (Nat.not_lt_zero i)) ?_))); conv => whnf)
    ((try ((refine Exists.intro none ?_); (conv => whnf))); first | ((with_reducible refine call_by (c_Last a ma) ?_); conv => whnf))
    ((try ((refine Exists.intro none ?_); (conv => whnf))); first | ((with_reducible refine call_by (c1) ?_); conv => whnf))
    ((try ((refine Exists.intro none ?_); (conv => whnf))); first | ((with_reducible refine call_by (c_lConf a ma (lastI a)) ?_); conv => whnf))
    ((try ((refine Exists.intro none ?_); (conv => whnf))); first | ((with_reducible refine call_by (c2) ?_); conv => whnf))
    repeat' ((first | (with_reducible refine split_et rfl ?_) | (with_reducible refine split_bf rfl ?_) | (with_reducible refine split_t (beq_self_eq_true _) ?_) | (with_reducible refine split_f (bne_self_eq_false _) ?_)); conv => whnf)
    ((try ((refine Exists.intro none ?_); (conv => whnf))); first | ((with_reducible refine call_by (cc) ?_); conv => whnf))
    ((try ((refine Exists.intro none ?_); (conv => whnf))); first | ((with_reducible refine call_by (c3) ?_); conv => whnf))
    ((first | (first | (with_reducible refine split_dt (by assumption) ?_) | (with_reducible refine split_df (by assumption) ?_) | (with_reducible refine split_et (by assumption) ?_) | (with_reducible refine split_ef (by assumption) ?_) | (with_reducible refine split_bt (by assumption) ?_) | (with_reducible refine split_bf (by assumption) ?_) | (with_reducible refine split_nt (by assumption) ?_) | (with_reducible refine split_nf (by assumption) ?_) | (with_reducible refine split_t (by assumption) ?_) | (with_reducible refine split_f (by assumption) ?_)) | (first | (with_reducible refine split_dec (fun h => ?_) (fun h => ?_)) | (with_reducible refine split_beq (fun h => ?_) (fun h => ?_)) | (with_reducible refine split_bne (fun h => ?_) (fun h => ?_)) | (with_reducible refine split_not (fun h => ?_) (fun h => ?_)) | (with_reducible refine split_beqS (fun h => ?_) (fun h => ?_)) | (with_reducible refine split_intro (fun h => ?_) (fun h => ?_)))) <;> conv => whnf)
    ((try ((refine Exists.intro none ?_); (conv => whnf))); first | ((with_reducible refine call_by (cb) ?_); conv => whnf))
    ((first | (with_reducible refine split_dec (fun h => ?_) (fun h => ?_)) | (with_reducible refine split_beq (fun h => ?_) (fun h => ?_)) | (with_reducible refine split_bne (fun h => ?_) (fun h => ?_)) | (with_reducible refine split_not (fun h => ?_) (fun h => ?_)) | (with_reducible refine split_beqS (fun h => ?_) (fun h => ?_)) | (with_reducible refine split_intro (fun h => ?_) (fun h => ?_))) <;> conv => whnf)
    · rw [x6 (by omega)] at t1
      ((try ((refine Exists.intro none ?_); (conv => whnf))); first | ((with_reducible refine call_by (t1) ?_); conv => whnf))
      ((try ((refine Exists.intro none ?_); (conv => whnf))); first | ((with_reducible refine call_by (t2) ?_); conv => whnf))
      ((first | (with_reducible refine split_et rfl ?_) | (with_reducible refine split_bf rfl ?_) | (with_reducible refine split_t (beq_self_eq_true _) ?_) | (with_reducible refine split_f (bne_self_eq_false _) ?_)); conv => whnf)
      ((first | (with_reducible refine split_dec (fun h => ?_) (fun h => ?_)) | (with_reducible refine split_beq (fun h => ?_) (fun h => ?_)) | (with_reducible refine split_bne (fun h => ?_) (fun h => ?_)) | (with_reducible refine split_not (fun h => ?_) (fun h => ?_)) | (with_reducible refine split_beqS (fun h => ?_) (fun h => ?_)) | (with_reducible refine split_intro (fun h => ?_) (fun h => ?_))) <;> conv => whnf)
      · exfalso; omega
      rw [e1]
      ((try ((refine Exists.intro none ?_); (conv => whnf))); first | ((with_reducible refine call_by (f1) ?_); conv => whnf))
      (refine Exists.intro _ (And.intro rfl (And.intro (by intro q _; simp only [List.length_nil]; omega) (And.intro (by intro i hi; exact absurd hi (Nat.not_lt_zero i)) ?_))); conv => whnf)
      refine Exists.intro none ?_
      conv => whnf
      rw [e1]
      ((try ((refine Exists.intro none ?_); (conv => whnf))); first | ((with_reducible refine call_by (f2) ?_); conv => whnf))
      (refine Exists.intro _ (And.intro rfl (And.intro (by intro q _; simp only [List.length_nil]; omega) (And.intro (by intro i hi; exact absurd hi (Nat.not_lt_zero i)) ?_))); conv => whnf)
      ((try ((refine Exists.intro none ?_); (conv => whnf))); first | ((with_reducible refine call_by (cs) ?_); conv => whnf))
      ((try ((refine Exists.intro none ?_); (conv => whnf))); first | ((with_reducible refine call_by (c_wakes09) ?_); conv => whnf))
      exact exit_plain rfl rfl
    · rw [x7 (by omega)] at t1
      ((first | (with_reducible refine split_dec (fun h => ?_) (fun h => ?_)) | (with_reducible refine split_beq (fun h => ?_) (fun h => ?_)) | (with_reducible refine split_bne (fun h => ?_) (fun h => ?_)) | (with_reducible refine split_not (fun h => ?_) (fun h => ?_)) | (with_reducible refine split_beqS (fun h => ?_) (fun h => ?_)) | (with_reducible refine split_intro (fun h => ?_) (fun h => ?_))) <;> conv => whnf)
      · ((try ((refine Exists.intro none ?_); (conv => whnf))); first | ((with_reducible refine call_by (t1) ?_); conv => whnf))
        rw [e1]
        ((try ((refine Exists.intro none ?_); (conv => whnf))); first | ((with_reducible refine call_by (f1) ?_); conv => whnf))
        (refine Exists.intro _ (And.intro rfl (And.intro (by intro q _; simp only [List.length_nil]; omega) (And.intro (by intro i hi; exact absurd hi (Nat.not_lt_zero i)) ?_))); conv => whnf)
        refine Exists.intro none ?_
        conv => whnf
        rw [e1]
        ((try ((refine Exists.intro none ?_); (conv => whnf))); first | ((with_reducible refine call_by (f2) ?_); conv => whnf))
        (refine Exists.intro _ (And.intro rfl (And.intro (by intro q _; simp only [List.length_nil]; omega) (And.intro (by intro i hi; exact absurd hi (Nat.not_lt_zero i)) ?_))); conv => whnf)
        ((try ((refine Exists.intro none ?_); (conv => whnf))); first | ((with_reducible refine call_by (cs) ?_); conv => whnf))
        ((try ((refine Exists.intro none ?_); (conv => whnf))); first | ((with_reducible refine call_by (c_wakes09) ?_); conv => whnf))
        exact exit_plain rfl rfl
      · exfalso; omega
  · rw [(res_no e).2.2] at k1
    ((try ((refine Exists.intro none ?_); (conv => whnf))); first | ((with_reducible refine call_by (k1) ?_); conv => whnf))
    ((first | (first | (with_reducible refine split_dt (by assumption) ?_) | (with_reducible refine split_df (by assumption) ?_) | (with_reducible refine split_et (by assumption) ?_) | (with_reducible refine split_ef (by assumption) ?_) | (with_reducible refine split_bt (by assumption) ?_) | (with_reducible refine split_bf (by assumption) ?_) | (with_reducible refine split_nt (by assumption) ?_) | (with_reducible refine split_nf (by assumption) ?_) | (with_reducible refine split_t (by assumption) ?_) | (with_reducible refine split_f (by assumption) ?_)) | (first | (with_reducible refine split_dec (fun h => ?_) (fun h => ?_)) | (with_reducible refine split_beq (fun h => ?_) (fun h => ?_)) | (with_reducible refine split_bne (fun h => ?_) (fun h => ?_)) | (with_reducible refine split_not (fun h => ?_) (fun h => ?_)) | (with_reducible refine split_beqS (fun h => ?_) (fun h => ?_)) | (with_reducible refine split_intro (fun h => ?_) (fun h => ?_)))) <;> conv => whnf)
    ((try ((refine Exists.intro none ?_); (conv => whnf))); first | ((with_reducible refine call_by (c_wakes09) ?_); conv => whnf))
    exact exit_plain rfl rfl

theorem told_LogsCompacts (qs : List PV) (h : ArgsOf Try.prog [32, 3, 29, 3] qs) : Ctr Try.prog 28 qs (bv true) [] := by
  obtain ⟨p1, qs, rfl, h1, h⟩ := argsOf_cons h
  obtain ⟨p2, qs, rfl, h2, h⟩ := argsOf_cons h
  obtain ⟨p3, qs, rfl, h3, h⟩ := argsOf_cons h
  obtain ⟨p4, qs, rfl, h4, h⟩ := argsOf_cons h
  obtain rfl := argsOf_nil h
  obtain ⟨a, rfl, ha⟩ := arg_Hrd h1
  obtain ⟨i, rfl, hi⟩ := arg_i h2
  obtain ⟨s, rfl, _⟩ := arg_bytes h3
  obtain ⟨k, rfl, hk⟩ := arg_i h4
  exact l_LogsCompacts a ha.2.2.1 i hi s k hk
end Go.Proofs
