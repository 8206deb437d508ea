import Derived.Test.YtnphfgphajejaaaC48
import Derived.Test.YtnphfgphajejaaaTLogsPuts
set_option linter.unusedSimpArgs false
set_option linter.unusedVariables false
namespace Go.Proofs
open Go.Pv
set_option maxRecDepth 100000

theorem instE_inv {h : Hrd} {i t : Int} {c : Conf} {s : List Int} (e : instE h i t c s = 0) : hardB h = true ∧ ((h.base < i ∧ i ≤ 1099511627776) ∧ (1 ≤ t ∧ t ≤ h.term ∧ h.baseTerm ≤ t)) ∧ confB c = true ∧ ¬ 16384 < s.length := by
  unfold instE at e
  by_cases h1 : hardB h = true
  · rw [if_pos h1] at e
    by_cases h2 : (h.base < i ∧ i ≤ 1099511627776) ∧ (1 ≤ t ∧ t ≤ h.term ∧ h.baseTerm ≤ t)
    · rw [if_pos h2] at e
      by_cases h3 : confB c = true
      · rw [if_pos h3] at e
        by_cases h4 : 16384 < s.length
        · rw [if_pos h4] at e; omega
        · exact ⟨h1, h2, h3, h4⟩
      · rw [if_neg h3] at e; omega
    · rw [if_neg h2] at e; omega
  · rw [if_neg h1] at e; omega
theorem inst_fits {h : Hrd} {i t : Int} {c : Conf} {s : List Int} {q : Nat} (hi : i = h.base + q) (hq : q ≤ h.log.length) (hf : fits h i t = true) : instH h i t c s = cutH h q c s := by
  have ht : behind h.log h.baseTerm q = t := by
    unfold fits at hf
    simp only [Bool.and_eq_true, beq_iff_eq] at hf
    rw [← hf.2, termAt_nat hi hq]
  unfold instH cutH
  rw [hf, if_pos rfl, show (i - h.base).toNat = q by omega, ht, hi]
theorem inst_new {h : Hrd} {i t : Int} {c : Conf} {s : List Int} (hh : hardB h = true) (h1 : (h.base < i ∧ i ≤ 1099511627776) ∧ (1 ≤ t ∧ t ≤ h.term ∧ h.baseTerm ≤ t)) (hc : confB c = true) (hs : s.length ≤ 16384) : hardB ⟨h.term, h.vote, i, t, c, s, []⟩ = true := by
  obtain ⟨hA, _, _, _⟩ := hardB_A hh
  have hb := hA.b
  unfold hardB
  rw [dec_true (show HardA ⟨h.term, h.vote, i, t, c, s, []⟩ from ⟨hA.t, hA.v, by show 0 ≤ i ∧ i ≤ _; omega, by show 0 ≤ t ∧ t ≤ h.term; omega, by show t = 0 ↔ i = 0; omega⟩)]
  simp only [hc, Bool.and_true, Bool.true_and, decide_eq_true_eq, rowB]
  exact ⟨hs, .inl (by omega)⟩

set_option maxHeartbeats 4000000 in
theorem l_LogsInstalls (a : Hrd) (hbI : isI a.base) (i : Int) (hi : isI i) (t : Int) (c : Conf) (s : List Int) : Ctr Try.prog 27 [.ag a.enc, iv i, iv t, .ag c.enc, .sl 1 (s.map encB)] (bv true) [] := by
  refine spec_of_body mixed Try.func27 rfl (by kernel_rfl) (by kernel_rfl) ?_; conv => whnf
  ((try ((refine Exists.intro none ?_); (conv => whnf))); first | ((with_reducible refine call_by (c_Heavy09 a) ?_); conv => whnf))
  ((first | (with_reducible refine split_dec (fun h => ?_) (fun h => ?_)) | (with_reducible refine split_beq (fun h => ?_) (fun h => ?_)) | (with_reducible refine split_bne (fun h => ?_) (fun h => ?_)) | (with_reducible refine split_not (fun h => ?_) (fun h => ?_)) | (with_reducible refine split_beqS (fun h => ?_) (fun h => ?_)) | (with_reducible refine split_intro (fun h => ?_) (fun h => ?_))) <;> conv => whnf)
  · exact exit_plain rfl rfl
  obtain ⟨hal, has⟩ := heavyH_len h
  clear h
  ((first | (with_reducible refine split_dec (fun h => ?_) (fun h => ?_)) | (with_reducible refine split_beq (fun h => ?_) (fun h => ?_)) | (with_reducible refine split_bne (fun h => ?_) (fun h => ?_)) | (with_reducible refine split_not (fun h => ?_) (fun h => ?_)) | (with_reducible refine split_beqS (fun h => ?_) (fun h => ?_)) | (with_reducible refine split_intro (fun h => ?_) (fun h => ?_))) <;> conv => whnf)
  · exact exit_plain rfl rfl
  have hsl : s.length ≤ 32768 := by simp only [List.length_map] at h; omega
  clear h
  ((try ((refine Exists.intro none ?_); (conv => whnf))); first | ((with_reducible refine call_by (c_looked09 a) ?_); conv => whnf))
  cases hL : lookedB a with
  | false =>
    conv => whnf
    exact exit_plain rfl rfl
  | true =>
  conv => whnf
  simp only [lookedB, decide_eq_true_eq] at hL
  have ma : a.log.length ≤ maxLen := smallM (by omega)
  have k1 := c_InstallW a (by omega) hbI i hi t c s (by omega)
  have kF := c_Fits a ma hbI i hi t
  ((try ((refine Exists.intro none ?_); (conv => whnf))); first | ((with_reducible refine call_by (kF) ?_); conv => whnf))
  by_cases e : instE a i t c s = 0
  · rw [(res_ok e).2.2] at k1
    obtain ⟨hB, h1, h2, h3⟩ := instE_inv e
    have hla : lastI a = a.base + a.log.length := lastI_sum hL.1 (by omega)
    have e1 : IntKind.i64.wrap (i + 1) = i + 1 := wrap_id (by omega) (by omega)
    obtain ⟨q, hq⟩ : ∃ q : Nat, i = a.base + q := ⟨(i - a.base).toNat, by omega⟩
    have cb := s_Bytes s (smallM (by omega))
    have ccf := s_Conf c
    cases hf : fits a i t with
    | true =>
      have hql : q ≤ a.log.length := by have := fits_in (by omega) hf h1.1.1; omega
      have hx := inst_fits (c := c) (s := s) hq hql hf
      have hbt : (cutH a q c s).baseTerm = t := by rw [← hx]; rfl
      rw [hx] at k1
      have x1 : lastI (cutH a q c s) = lastI a := cut_lastI hL.1 (by omega) hql _ _
      have x2 : lastT (cutH a q c s) = lastT a := cut_lastT hql _ _
      have x3 : hardB (cutH a q c s) = true := cut_hard hB (by omega) hql (by omega) h2 (by omega)
      have x5 : fromL (cutH a q c s) (i + 1) 200 = fromL a (i + 1) 200 := by rw [hq]; exact cut_from (by omega)
      have xl : (cutH a q c s).log.length ≤ 200 := by
        show (a.log.drop q).length ≤ 200
        rw [List.length_drop]; omega
      have xb : (cutH a q c s).base = i := hq.symm
      have xs : (cutH a q c s).snap = s := rfl
      have xc : (cutH a q c s).baseConf = c := rfl
      have xt : (cutH a q c s).term = a.term := rfl
      have xv : (cutH a q c s).vote = a.vote := rfl
      generalize cutH a q c s = x at *
      have mx : x.log.length ≤ maxLen := smallM (by omega)
      have c1 := c_Last x mx
      rw [x1, x2] at c1
      have c3 := c_lCheck x mx
      rw [x3] at c3
      simp only [if_true] at c3
      have hbx : isI x.base := by rw [xb]; exact hi
      have f1 := c_lFromV x (by omega) hbx (i + 1) (by unfold isI; omega) 200
      have f2 := c_lFromV a (by omega) hbI (i + 1) (by unfold isI; omega) 200
      rw [x5] at f1
      have fl := fromL_len a (i + 1) 200
      have cs := s_Entries (fromL a (i + 1) 200) (smallM (by omega))
      have cb' : Ctr Try.prog 136 [.sl 1 (x.snap.map encB), .sl 1 (s.map encB)] (bv true) [] := by rw [xs]; exact cb
      have cc' : Ctr Try.prog 56 [.ag x.baseConf.enc, .ag c.enc] (bv true) [] := by rw [xc]; exact ccf
      ((try ((refine Exists.intro none ?_); (conv => whnf))); first | ((with_reducible refine call_by (k1) ?_); conv => whnf))
      (refine Exists.intro _ (And.intro rfl (And.intro (by intro q _; simp only [List.length_nil]; omega) (And.intro (by intro i hi; exact absurd hi (Nat.not_lt_zero i)) ?_))); conv => whnf)
      ((try ((refine Exists.intro none ?_); (conv => whnf))); first | ((with_reducible refine call_by (c_Last a ma) ?_); conv => whnf))
      ((try ((refine Exists.intro none ?_); (conv => whnf))); first | ((with_reducible refine call_by (c1) ?_); conv => whnf))
      ((try ((refine Exists.intro none ?_); (conv => whnf))); first | ((with_reducible refine call_by (c3) ?_); conv => whnf))
      ((first | (first | (with_reducible refine split_dt (by assumption) ?_) | (with_reducible refine split_df (by assumption) ?_) | (with_reducible refine split_et (by assumption) ?_) | (with_reducible refine split_ef (by assumption) ?_) | (with_reducible refine split_bt (by assumption) ?_) | (with_reducible refine split_bf (by assumption) ?_) | (with_reducible refine split_nt (by assumption) ?_) | (with_reducible refine split_nf (by assumption) ?_) | (with_reducible refine split_t (by assumption) ?_) | (with_reducible refine split_f (by assumption) ?_)) | (first | (with_reducible refine split_dec (fun h => ?_) (fun h => ?_)) | (with_reducible refine split_beq (fun h => ?_) (fun h => ?_)) | (with_reducible refine split_bne (fun h => ?_) (fun h => ?_)) | (with_reducible refine split_not (fun h => ?_) (fun h => ?_)) | (with_reducible refine split_beqS (fun h => ?_) (fun h => ?_)) | (with_reducible refine split_intro (fun h => ?_) (fun h => ?_)))) <;> conv => whnf)
      ((first | (first | (with_reducible refine split_dt (by assumption) ?_) | (with_reducible refine split_df (by assumption) ?_) | (with_reducible refine split_et (by assumption) ?_) | (with_reducible refine split_ef (by assumption) ?_) | (with_reducible refine split_bt (by assumption) ?_) | (with_reducible refine split_bf (by assumption) ?_) | (with_reducible refine split_nt (by assumption) ?_) | (with_reducible refine split_nf (by assumption) ?_) | (with_reducible refine split_t (by assumption) ?_) | (with_reducible refine split_f (by assumption) ?_)) | (first | (with_reducible refine split_dec (fun h => ?_) (fun h => ?_)) | (with_reducible refine split_beq (fun h => ?_) (fun h => ?_)) | (with_reducible refine split_bne (fun h => ?_) (fun h => ?_)) | (with_reducible refine split_not (fun h => ?_) (fun h => ?_)) | (with_reducible refine split_beqS (fun h => ?_) (fun h => ?_)) | (with_reducible refine split_intro (fun h => ?_) (fun h => ?_)))) <;> conv => whnf)
      ((try ((refine Exists.intro none ?_); (conv => whnf))); first | ((with_reducible refine call_by (cc') ?_); conv => whnf))
      ((try ((refine Exists.intro none ?_); (conv => whnf))); first | ((with_reducible refine call_by (cb') ?_); conv => whnf))
      ((first | (first | (with_reducible refine split_dt (by assumption) ?_) | (with_reducible refine split_df (by assumption) ?_) | (with_reducible refine split_et (by assumption) ?_) | (with_reducible refine split_ef (by assumption) ?_) | (with_reducible refine split_bt (by assumption) ?_) | (with_reducible refine split_bf (by assumption) ?_) | (with_reducible refine split_nt (by assumption) ?_) | (with_reducible refine split_nf (by assumption) ?_) | (with_reducible refine split_t (by assumption) ?_) | (with_reducible refine split_f (by assumption) ?_)) | (first | (with_reducible refine split_dec (fun h => ?_) (fun h => ?_)) | (with_reducible refine split_beq (fun h => ?_) (fun h => ?_)) | (with_reducible refine split_bne (fun h => ?_) (fun h => ?_)) | (with_reducible refine split_not (fun h => ?_) (fun h => ?_)) | (with_reducible refine split_beqS (fun h => ?_) (fun h => ?_)) | (with_reducible refine split_intro (fun h => ?_) (fun h => ?_)))) <;> conv => whnf)
      ((first | (first | (with_reducible refine split_dt (by assumption) ?_) | (with_reducible refine split_df (by assumption) ?_) | (with_reducible refine split_et (by assumption) ?_) | (with_reducible refine split_ef (by assumption) ?_) | (with_reducible refine split_bt (by assumption) ?_) | (with_reducible refine split_bf (by assumption) ?_) | (with_reducible refine split_nt (by assumption) ?_) | (with_reducible refine split_nf (by assumption) ?_) | (with_reducible refine split_t (by assumption) ?_) | (with_reducible refine split_f (by assumption) ?_)) | (first | (with_reducible refine split_dec (fun h => ?_) (fun h => ?_)) | (with_reducible refine split_beq (fun h => ?_) (fun h => ?_)) | (with_reducible refine split_bne (fun h => ?_) (fun h => ?_)) | (with_reducible refine split_not (fun h => ?_) (fun h => ?_)) | (with_reducible refine split_beqS (fun h => ?_) (fun h => ?_)) | (with_reducible refine split_intro (fun h => ?_) (fun h => ?_)))) <;> conv => whnf)
      ((first | (with_reducible refine split_et rfl ?_) | (with_reducible refine split_bf rfl ?_) | (with_reducible refine split_t (beq_self_eq_true _) ?_) | (with_reducible refine split_f (bne_self_eq_false _) ?_)); conv => whnf)
      rw [e1]
      ((try ((refine Exists.intro none ?_); (conv => whnf))); first | ((with_reducible refine call_by (f1) ?_); conv => whnf))
      (refine Exists.intro _ (And.intro rfl (And.intro (by intro q _; simp only [List.length_nil]; omega) (And.intro (by intro i hi; exact absurd hi (Nat.not_lt_zero i)) ?_))); conv => whnf)
      refine Exists.intro none ?_
      conv => whnf
      rw [e1]
      ((try ((refine Exists.intro none ?_); (conv => whnf))); first | ((with_reducible refine call_by (f2) ?_); conv => whnf))
      (refine Exists.intro _ (And.intro rfl (And.intro (by intro q _; simp only [List.length_nil]; omega) (And.intro (by intro i hi; exact absurd hi (Nat.not_lt_zero i)) ?_))); conv => whnf)
      ((try ((refine Exists.intro none ?_); (conv => whnf))); first | ((with_reducible refine call_by (cs) ?_); conv => whnf))
      ((try ((refine Exists.intro none ?_); (conv => whnf))); first | ((with_reducible refine call_by (c_wakes09) ?_); conv => whnf))
      exact exit_plain rfl rfl
    | false =>
      have hx : instH a i t c s = ⟨a.term, a.vote, i, t, c, s, []⟩ := by unfold instH; rw [hf, if_neg (by decide)]
      rw [hx] at k1
      have x3 := inst_new hB h1 h2 (show s.length ≤ 16384 by omega)
      have x1 : lastI ⟨a.term, a.vote, i, t, c, s, []⟩ = i := rfl
      have x2 : lastT ⟨a.term, a.vote, i, t, c, s, []⟩ = t := rfl
      have c1 := c_Last ⟨a.term, a.vote, i, t, c, s, []⟩ (by simp)
      rw [x1, x2] at c1
      have c3 := c_lCheck ⟨a.term, a.vote, i, t, c, s, []⟩ (by simp)
      rw [x3] at c3
      simp only [if_true] at c3
      ((try ((refine Exists.intro none ?_); (conv => whnf))); first | ((with_reducible refine call_by (k1) ?_); conv => whnf))
      (refine Exists.intro _ (And.intro rfl (And.intro (by intro q _; simp only [List.length_nil]; omega) (And.intro (by intro i hi; exact absurd hi (Nat.not_lt_zero i)) ?_))); conv => whnf)
      ((try ((refine Exists.intro none ?_); (conv => whnf))); first | ((with_reducible refine call_by (c_Last a ma) ?_); conv => whnf))
      ((try ((refine Exists.intro none ?_); (conv => whnf))); first | ((with_reducible refine call_by (c1) ?_); conv => whnf))
      ((try ((refine Exists.intro none ?_); (conv => whnf))); first | ((with_reducible refine call_by (c3) ?_); conv => whnf))
      ((first | (with_reducible refine split_et rfl ?_) | (with_reducible refine split_bf rfl ?_) | (with_reducible refine split_t (beq_self_eq_true _) ?_) | (with_reducible refine split_f (bne_self_eq_false _) ?_)); conv => whnf)
      ((first | (with_reducible refine split_et rfl ?_) | (with_reducible refine split_bf rfl ?_) | (with_reducible refine split_t (beq_self_eq_true _) ?_) | (with_reducible refine split_f (bne_self_eq_false _) ?_)); conv => whnf)
      ((try ((refine Exists.intro none ?_); (conv => whnf))); first | ((with_reducible refine call_by (ccf) ?_); conv => whnf))
      ((try ((refine Exists.intro none ?_); (conv => whnf))); first | ((with_reducible refine call_by (cb) ?_); conv => whnf))
      ((first | (with_reducible refine split_et rfl ?_) | (with_reducible refine split_bf rfl ?_) | (with_reducible refine split_t (beq_self_eq_true _) ?_) | (with_reducible refine split_f (bne_self_eq_false _) ?_)); conv => whnf)
      ((first | (with_reducible refine split_et rfl ?_) | (with_reducible refine split_bf rfl ?_) | (with_reducible refine split_t (beq_self_eq_true _) ?_) | (with_reducible refine split_f (bne_self_eq_false _) ?_)); conv => whnf)
      ((first | (with_reducible refine split_et rfl ?_) | (with_reducible refine split_bf rfl ?_) | (with_reducible refine split_t (beq_self_eq_true _) ?_) | (with_reducible refine split_f (bne_self_eq_false _) ?_)); conv => whnf)
      ((first | (with_reducible refine split_et rfl ?_) | (with_reducible refine split_bf rfl ?_) | (with_reducible refine split_t (beq_self_eq_true _) ?_) | (with_reducible refine split_f (bne_self_eq_false _) ?_)); conv => whnf)
      ((try ((refine Exists.intro none ?_); (conv => whnf))); first | ((with_reducible refine call_by (c_wakes09) ?_); conv => whnf))
      exact exit_plain rfl rfl
  · rw [(res_no e).2.2] at k1
    ((try ((refine Exists.intro none ?_); (conv => whnf))); first | ((with_reducible refine call_by (k1) ?_); conv => whnf))
    ((first | (first | (with_reducible refine split_dt (by assumption) ?_) | (with_reducible refine split_df (by assumption) ?_) | (with_reducible refine split_et (by assumption) ?_) | (with_reducible refine split_ef (by assumption) ?_) | (with_reducible refine split_bt (by assumption) ?_) | (with_reducible refine split_bf (by assumption) ?_) | (with_reducible refine split_nt (by assumption) ?_) | (with_reducible refine split_nf (by assumption) ?_) | (with_reducible refine split_t (by assumption) ?_) | (with_reducible refine split_f (by assumption) ?_)) | (first | (with_reducible refine split_dec (fun h => ?_) (fun h => ?_)) | (with_reducible refine split_beq (fun h => ?_) (fun h => ?_)) | (with_reducible refine split_bne (fun h => ?_) (fun h => ?_)) | (with_reducible refine split_not (fun h => ?_) (fun h => ?_)) | (with_reducible refine split_beqS (fun h => ?_) (fun h => ?_)) | (with_reducible refine split_intro (fun h => ?_) (fun h => ?_)))) <;> conv => whnf)
    ((try ((refine Exists.intro none ?_); (conv => whnf))); first | ((with_reducible refine call_by (c_wakes09) ?_); conv => whnf))
    exact exit_plain rfl rfl

theorem told_LogsInstalls (qs : List PV) (h : ArgsOf Try.prog [32, 3, 3, 23, 29] qs) : Ctr Try.prog 27 qs (bv true) [] := by
  obtain ⟨p1, qs, rfl, h1, h⟩ := argsOf_cons h
  obtain ⟨p2, qs, rfl, h2, h⟩ := argsOf_cons h
  obtain ⟨p3, qs, rfl, h3, h⟩ := argsOf_cons h
  obtain ⟨p4, qs, rfl, h4, h⟩ := argsOf_cons h
  obtain ⟨p5, qs, rfl, h5, h⟩ := argsOf_cons h
  obtain rfl := argsOf_nil h
  obtain ⟨a, rfl, ha⟩ := arg_Hrd h1
  obtain ⟨i, rfl, hi⟩ := arg_i h2
  obtain ⟨t, rfl, _⟩ := arg_i h3
  obtain ⟨c, rfl, _⟩ := arg_Conf h4
  obtain ⟨s, rfl, _⟩ := arg_bytes h5
  exact l_LogsInstalls a ha.2.2.1 i hi t c s
end Go.Proofs
