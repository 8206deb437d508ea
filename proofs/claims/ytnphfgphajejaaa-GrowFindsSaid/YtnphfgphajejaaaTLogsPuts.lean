import Derived.Test.YtnphfgphajejaaaC41
set_option linter.unusedSimpArgs false
set_option linter.unusedVariables false
namespace Go.Proofs
open Go.Pv
set_option maxRecDepth 100000

theorem heavyH_len {h : Hrd} (e : heavyH h = false) : h.log.length ≤ 200 ∧ h.snap.length ≤ 32768 := by
  simp only [heavyH, heavyEs, Bool.or_eq_false_iff, decide_eq_false_iff_not] at e
  omega
theorem heavyEs_len {l : List Ent} (e : heavyEs l = false) : l.length ≤ 200 := by
  simp only [heavyEs, Bool.or_eq_false_iff, decide_eq_false_iff_not] at e
  omega

set_option maxHeartbeats 4000000 in
theorem l_LogsPuts (a : Hrd) (hbI : isI a.base) (i : Int) (hi : isI i) (l : List Ent) : Ctr Try.prog 22 [.ag a.enc, iv i, .sl 16 (l.map Ent.enc)] (bv true) [] := by
  refine spec_of_body mixed Try.func22 rfl (by kernel_rfl) (by kernel_rfl) ?_; conv => whnf
  ((try ((refine Exists.intro none ?_); (conv => whnf))); first | ((with_reducible refine call_by (c_Heavy09 a) ?_); conv => whnf))
  ((first | (with_reducible refine split_dec (fun h => ?_) (fun h => ?_)) | (with_reducible refine split_beq (fun h => ?_) (fun h => ?_)) | (with_reducible refine split_bne (fun h => ?_) (fun h => ?_)) | (with_reducible refine split_not (fun h => ?_) (fun h => ?_)) | (with_reducible refine split_beqS (fun h => ?_) (fun h => ?_)) | (with_reducible refine split_intro (fun h => ?_) (fun h => ?_))) <;> conv => whnf)
  · exact exit_plain rfl rfl
  obtain ⟨hal, has⟩ := heavyH_len h
  ((try ((refine Exists.intro none ?_); (conv => whnf))); first | ((with_reducible refine call_by (c_HeavyEntries l) ?_); conv => whnf))
  ((first | (with_reducible refine split_dec (fun h => ?_) (fun h => ?_)) | (with_reducible refine split_beq (fun h => ?_) (fun h => ?_)) | (with_reducible refine split_bne (fun h => ?_) (fun h => ?_)) | (with_reducible refine split_not (fun h => ?_) (fun h => ?_)) | (with_reducible refine split_beqS (fun h => ?_) (fun h => ?_)) | (with_reducible refine split_intro (fun h => ?_) (fun h => ?_))) <;> conv => whnf)
  · exact exit_plain rfl rfl
  have hll := heavyEs_len h
  clear h
  have k1 := ctr_res (c_lPut a (by omega) (by omega) hbI i hi l (by omega))
  by_cases e : putHE a i l = 0
  · rw [(res_ok e).2.2] at k1
    obtain ⟨n, ko⟩ := putOk e (by omega)
    obtain ⟨ko2, hxx⟩ := ko.again
    have hxr := ko.right
    have hxl : (putH a i l).log.length ≤ 400 := by
      rw [ko.log]
      have := putG_le a.log l ko.le
      show (putG a.log n l).length ≤ 400
      omega
    have hxlog : (putH a i l).log = putG a.log n l := by rw [ko.log]
    have hxb : (putH a i l).base = a.base := rfl
    have hxs : (putH a i l).snap = a.snap := rfl
    have hb0 := (hardB_A ko.hard).1.b
    have hin := ko.at'
    have hnl := ko.le
    generalize hX : putH a i l = x at *
    have k2 := ctr_res (c_lPut x (by rw [hxs]; omega) (by omega) (by rw [hxb]; exact hbI) i hi l (by omega))
    rw [(res_ok (ko2.e (by omega))).2.2, hxx] at k2
    have k3 := c_lCheck x (smallM (by omega))
    rw [hxr] at k3
    simp only [if_true] at k3
    ((try ((refine Exists.intro none ?_); (conv => whnf))); first | ((with_reducible refine call_by (k1) ?_); conv => whnf))
    (refine Exists.intro _ (And.intro rfl (And.intro (by intro q _; simp only [List.length_nil]; omega) (And.intro (by intro i hi; exact absurd hi (Nat.not_lt_zero i)) ?_))); conv => whnf)
    ((try ((refine Exists.intro none ?_); (conv => whnf))); first | ((with_reducible refine call_by (k2) ?_); conv => whnf))
    (refine Exists.intro _ (And.intro rfl (And.intro (by intro q _; simp only [List.length_nil]; omega) (And.intro (by intro i hi; exact absurd hi (Nat.not_lt_zero i)) ?_))); conv => whnf)
    have ks := s_Hard x (smallM (by rw [hxs]; omega)) (smallM (by omega))
    ((try ((refine Exists.intro none ?_); (conv => whnf))); first | ((with_reducible refine call_by (ks) ?_); conv => whnf))
    ((try ((refine Exists.intro none ?_); (conv => whnf))); first | ((with_reducible refine call_by (k3) ?_); conv => whnf))
    refine tri_for0 mixed (by kernel_rfl) (fun j : Nat => j ≤ l.length) (fun j => [(11, iv j), (10, bv (!alikeB (a.log.drop n) l j))]) [] (fun j => l.length - j) 0 (Nat.zero_le _) ?_ ?_
    · conv => whnf
      (refine And.intro (And.intro (by with_unfolding_all rfl) (by intro q h; cases h)) ?_; refine And.intro ?_ (And.intro ?_ ?_) <;> (conv => whnf) <;> (repeat' (first | exact True.intro | (with_reducible exact rfl) | exact (rfl : List.replicate 0 PV.bad = []) | ((with_reducible refine And.intro ?_ ?_) <;> (first | (with_reducible exact wkV_same _ rfl) | exact wkV_pt rfl rfl | exact wkV_ow rfl rfl rfl | (refine wkV_ow rfl rfl ?_) | (refine wkV_sc (congrArg (Value.int .i64) ?_)) | (refine wkV_sc (congrArg Value.bool ?_)) | exact wkV_ls rfl | ((refine wkV_cl ?_); conv => whnf) | ((refine wkV_tu ?_); conv => whnf) | ((refine wkV_ag ?_); conv => whnf) | (conv => whnf))))))
      all_goals first | rfl | (rw [alikeB_0]; rfl)
    intro j hj
    conv => whnf
    ((first | (with_reducible refine split_dec (fun h => ?_) (fun h => ?_)) | (with_reducible refine split_beq (fun h => ?_) (fun h => ?_)) | (with_reducible refine split_bne (fun h => ?_) (fun h => ?_)) | (with_reducible refine split_not (fun h => ?_) (fun h => ?_)) | (with_reducible refine split_beqS (fun h => ?_) (fun h => ?_)) | (with_reducible refine split_intro (fun h => ?_) (fun h => ?_))) <;> conv => whnf)
    · simp only [List.length_map] at h
      have hlt : j < l.length := by omega
      have e1 : IntKind.i64.wrap (IntKind.i64.wrap (i + 1) + (j : Int)) = x.base + 1 + ((n + j : Nat) : Int) := by
        rw [show IntKind.i64.wrap (i + 1) = i + 1 from wrap_id (by omega) (by omega), wrap_id (by omega) (by omega), hxb, hin]; omega
      have hg : entAt x (x.base + 1 + ((n + j : Nat) : Int)) = (putM (a.log.drop n) l)[j]? := by
        rw [entAt_nat rfl, hxlog, ← List.getElem?_drop, putG_drop _ _ ko.le]
      obtain ⟨y, hy, hyt⟩ := putM_term (a.log.drop n) l j hlt
      have hpm := putM_get (a.log.drop n) l j hlt
      rw [hy] at hpm hg
      have iI : isI (x.base + 1 + ((n + j : Nat) : Int)) := by unfold isI; rw [hxb]; omega
      have c1 := c_Entry x (smallM (by omega)) (by rw [hxb]; exact hbI) _ iI
      rw [hg] at c1
      simp only [Option.getD_some, Option.isSome_some] at c1
      have hh : entAt a (x.base + 1 + ((n + j : Nat) : Int)) = (a.log.drop n)[j]? := by
        rw [entAt_nat (m := n + j) (by rw [hxb]), ← List.getElem?_drop]
      have c2 := c_Entry a (smallM (by omega)) hbI _ iI
      rw [hh] at c2
      have hsucc := alikeB_succ (a.log.drop n) l j
      rw [List.getElem?_eq_getElem hlt] at hsucc hpm
      have hone : IntKind.i64.wrap ((j : Int) + 1) = ((j + 1 : Nat) : Int) := w1 (by omega)
      rw [e1]
      ((try ((refine Exists.intro none ?_); (conv => whnf))); first | ((with_reducible refine call_by (c1) ?_); conv => whnf))
      (first | ((with_reducible refine And.intro (by omega) (Exists.intro _ (And.intro (row_at hlt) ?_))); conv => whnf))
      ((first | (first | (with_reducible refine split_dt (by assumption) ?_) | (with_reducible refine split_df (by assumption) ?_) | (with_reducible refine split_et (by assumption) ?_) | (with_reducible refine split_ef (by assumption) ?_) | (with_reducible refine split_bt (by assumption) ?_) | (with_reducible refine split_bf (by assumption) ?_) | (with_reducible refine split_nt (by assumption) ?_) | (with_reducible refine split_nf (by assumption) ?_) | (with_reducible refine split_t (by assumption) ?_) | (with_reducible refine split_f (by assumption) ?_)) | (first | (with_reducible refine split_dec (fun h => ?_) (fun h => ?_)) | (with_reducible refine split_beq (fun h => ?_) (fun h => ?_)) | (with_reducible refine split_bne (fun h => ?_) (fun h => ?_)) | (with_reducible refine split_not (fun h => ?_) (fun h => ?_)) | (with_reducible refine split_beqS (fun h => ?_) (fun h => ?_)) | (with_reducible refine split_intro (fun h => ?_) (fun h => ?_)))) <;> conv => whnf)
      rw [e1]
      cases hq : alikeB (a.log.drop n) l j with
      | false =>
        rw [hq, Bool.false_and] at hsucc
        rw [hsucc] at hpm
        simp only [Bool.false_eq_true, if_false, Option.some.injEq] at hpm
        have cs : Ctr Try.prog 92 [.ag y.enc, .ag (l[j]'hlt).enc] (bv true) [] := by rw [← hpm]; exact s_Entry y
        ((try ((refine Exists.intro none ?_); (conv => whnf))); first | ((with_reducible refine call_by (c2) ?_); conv => whnf))
        (first | ((with_reducible refine And.intro (by omega) (Exists.intro _ (And.intro (row_at hlt) ?_))); conv => whnf))
        ((try ((refine Exists.intro none ?_); (conv => whnf))); first | ((with_reducible refine call_by (cs) ?_); conv => whnf))
        refine ⟨j + 1, ⟨by omega, by omega⟩, ?_⟩
        rw [hsucc]
        conv => whnf
        (refine And.intro (And.intro (by with_unfolding_all rfl) (by intro q h; cases h)) ?_; refine And.intro ?_ (And.intro ?_ ?_) <;> (conv => whnf) <;> (repeat' (first | exact True.intro | (with_reducible exact rfl) | exact (rfl : List.replicate 0 PV.bad = []) | ((with_reducible refine And.intro ?_ ?_) <;> (first | (with_reducible exact wkV_same _ rfl) | exact wkV_pt rfl rfl | exact wkV_ow rfl rfl rfl | (refine wkV_ow rfl rfl ?_) | (refine wkV_sc (congrArg (Value.int .i64) ?_)) | (refine wkV_sc (congrArg Value.bool ?_)) | exact wkV_ls rfl | ((refine wkV_cl ?_); conv => whnf) | ((refine wkV_tu ?_); conv => whnf) | ((refine wkV_ag ?_); conv => whnf) | (conv => whnf))))))
        all_goals first | exact hone | rfl
      | true =>
        cases hb : (a.log.drop n)[j]? with
        | none =>
          rw [hb, Bool.and_false] at hsucc
          rw [hb] at c2
          rw [hsucc] at hpm
          simp only [Bool.false_eq_true, if_false, Option.some.injEq] at hpm
          have cs : Ctr Try.prog 92 [.ag y.enc, .ag (l[j]'hlt).enc] (bv true) [] := by rw [← hpm]; exact s_Entry y
          ((try ((refine Exists.intro none ?_); (conv => whnf))); first | ((with_reducible refine call_by (c2) ?_); conv => whnf))
          (first | ((with_reducible refine And.intro (by omega) (Exists.intro _ (And.intro (row_at hlt) ?_))); conv => whnf))
          ((try ((refine Exists.intro none ?_); (conv => whnf))); first | ((with_reducible refine call_by (cs) ?_); conv => whnf))
          refine ⟨j + 1, ⟨by omega, by omega⟩, ?_⟩
          rw [hsucc]
          conv => whnf
          (refine And.intro (And.intro (by with_unfolding_all rfl) (by intro q h; cases h)) ?_; refine And.intro ?_ (And.intro ?_ ?_) <;> (conv => whnf) <;> (repeat' (first | exact True.intro | (with_reducible exact rfl) | exact (rfl : List.replicate 0 PV.bad = []) | ((with_reducible refine And.intro ?_ ?_) <;> (first | (with_reducible exact wkV_same _ rfl) | exact wkV_pt rfl rfl | exact wkV_ow rfl rfl rfl | (refine wkV_ow rfl rfl ?_) | (refine wkV_sc (congrArg (Value.int .i64) ?_)) | (refine wkV_sc (congrArg Value.bool ?_)) | exact wkV_ls rfl | ((refine wkV_cl ?_); conv => whnf) | ((refine wkV_tu ?_); conv => whnf) | ((refine wkV_ag ?_); conv => whnf) | (conv => whnf))))))
          all_goals first | exact hone | rfl
        | some z =>
          rw [hb, hq, Bool.true_and] at hsucc
          rw [hb] at c2 hpm
          simp only [Option.getD_some, Option.isSome_some] at c2
          ((try ((refine Exists.intro none ?_); (conv => whnf))); first | ((with_reducible refine call_by (c2) ?_); conv => whnf))
          ((first | (with_reducible refine split_dec (fun h => ?_) (fun h => ?_)) | (with_reducible refine split_beq (fun h => ?_) (fun h => ?_)) | (with_reducible refine split_bne (fun h => ?_) (fun h => ?_)) | (with_reducible refine split_not (fun h => ?_) (fun h => ?_)) | (with_reducible refine split_beqS (fun h => ?_) (fun h => ?_)) | (with_reducible refine split_intro (fun h => ?_) (fun h => ?_))) <;> conv => whnf)
          · have hsucc : alikeB (a.log.drop n) l (j + 1) = true := by rw [hsucc]; show (z.term == (l[j]'hlt).term) = true; rw [← hyt]; simpa using h
            rw [hsucc] at hpm
            simp only [if_true, Option.some.injEq] at hpm
            have cs : Ctr Try.prog 92 [.ag y.enc, .ag z.enc] (bv true) [] := by rw [← hpm]; exact s_Entry y
            ((try ((refine Exists.intro none ?_); (conv => whnf))); first | ((with_reducible refine call_by (cs) ?_); conv => whnf))
            ((first | (first | (with_reducible refine split_dt (by assumption) ?_) | (with_reducible refine split_df (by assumption) ?_) | (with_reducible refine split_et (by assumption) ?_) | (with_reducible refine split_ef (by assumption) ?_) | (with_reducible refine split_bt (by assumption) ?_) | (with_reducible refine split_bf (by assumption) ?_) | (with_reducible refine split_nt (by assumption) ?_) | (with_reducible refine split_nf (by assumption) ?_) | (with_reducible refine split_t (by assumption) ?_) | (with_reducible refine split_f (by assumption) ?_)) | (first | (with_reducible refine split_dec (fun h => ?_) (fun h => ?_)) | (with_reducible refine split_beq (fun h => ?_) (fun h => ?_)) | (with_reducible refine split_bne (fun h => ?_) (fun h => ?_)) | (with_reducible refine split_not (fun h => ?_) (fun h => ?_)) | (with_reducible refine split_beqS (fun h => ?_) (fun h => ?_)) | (with_reducible refine split_intro (fun h => ?_) (fun h => ?_)))) <;> conv => whnf)
            refine ⟨j + 1, ⟨by omega, by omega⟩, ?_⟩
            rw [hsucc]
            conv => whnf
            (refine And.intro (And.intro (by with_unfolding_all rfl) (by intro q h; cases h)) ?_; refine And.intro ?_ (And.intro ?_ ?_) <;> (conv => whnf) <;> (repeat' (first | exact True.intro | (with_reducible exact rfl) | exact (rfl : List.replicate 0 PV.bad = []) | ((with_reducible refine And.intro ?_ ?_) <;> (first | (with_reducible exact wkV_same _ rfl) | exact wkV_pt rfl rfl | exact wkV_ow rfl rfl rfl | (refine wkV_ow rfl rfl ?_) | (refine wkV_sc (congrArg (Value.int .i64) ?_)) | (refine wkV_sc (congrArg Value.bool ?_)) | exact wkV_ls rfl | ((refine wkV_cl ?_); conv => whnf) | ((refine wkV_tu ?_); conv => whnf) | ((refine wkV_ag ?_); conv => whnf) | (conv => whnf))))))
            all_goals first | exact hone | (rw [h]; rfl) | rfl
          · have hne : ¬ z.term = (l[j]'hlt).term := by rw [← hyt]; simpa using h
            have hsucc : alikeB (a.log.drop n) l (j + 1) = false := by rw [hsucc]; simpa using hne
            rw [hsucc] at hpm
            simp only [Bool.false_eq_true, if_false, Option.some.injEq] at hpm
            have cs : Ctr Try.prog 92 [.ag y.enc, .ag (l[j]'hlt).enc] (bv true) [] := by rw [← hpm]; exact s_Entry y
            ((first | (first | (with_reducible refine split_dt (by assumption) ?_) | (with_reducible refine split_df (by assumption) ?_) | (with_reducible refine split_et (by assumption) ?_) | (with_reducible refine split_ef (by assumption) ?_) | (with_reducible refine split_bt (by assumption) ?_) | (with_reducible refine split_bf (by assumption) ?_) | (with_reducible refine split_nt (by assumption) ?_) | (with_reducible refine split_nf (by assumption) ?_) | (with_reducible refine split_t (by assumption) ?_) | (with_reducible refine split_f (by assumption) ?_)) | (first | (with_reducible refine split_dec (fun h => ?_) (fun h => ?_)) | (with_reducible refine split_beq (fun h => ?_) (fun h => ?_)) | (with_reducible refine split_bne (fun h => ?_) (fun h => ?_)) | (with_reducible refine split_not (fun h => ?_) (fun h => ?_)) | (with_reducible refine split_beqS (fun h => ?_) (fun h => ?_)) | (with_reducible refine split_intro (fun h => ?_) (fun h => ?_)))) <;> conv => whnf)
            (first | ((with_reducible refine And.intro (by omega) (Exists.intro _ (And.intro (row_at hlt) ?_))); conv => whnf))
            ((try ((refine Exists.intro none ?_); (conv => whnf))); first | ((with_reducible refine call_by (cs) ?_); conv => whnf))
            refine ⟨j + 1, ⟨by omega, by omega⟩, ?_⟩
            rw [hsucc]
            conv => whnf
            (refine And.intro (And.intro (by with_unfolding_all rfl) (by intro q h; cases h)) ?_; refine And.intro ?_ (And.intro ?_ ?_) <;> (conv => whnf) <;> (repeat' (first | exact True.intro | (with_reducible exact rfl) | exact (rfl : List.replicate 0 PV.bad = []) | ((with_reducible refine And.intro ?_ ?_) <;> (first | (with_reducible exact wkV_same _ rfl) | exact wkV_pt rfl rfl | exact wkV_ow rfl rfl rfl | (refine wkV_ow rfl rfl ?_) | (refine wkV_sc (congrArg (Value.int .i64) ?_)) | (refine wkV_sc (congrArg Value.bool ?_)) | exact wkV_ls rfl | ((refine wkV_cl ?_); conv => whnf) | ((refine wkV_tu ?_); conv => whnf) | ((refine wkV_ag ?_); conv => whnf) | (conv => whnf))))))
            all_goals first | exact hone | (rw [h]; rfl) | rfl
    · have e0 : IntKind.i64.wrap (a.base + 1) = a.base + 1 + ((0 : Nat) : Int) := by rw [wrap_id (by omega) (by omega)]; omega
      rw [e0]
      refine tri_for0 mixed (by kernel_rfl) (fun m : Nat => m ≤ n) (fun m => [(16, iv (a.base + 1 + (m : Int)))]) [] (fun m => n - m) 0 (Nat.zero_le _) ?_ ?_
      · conv => whnf
        (refine And.intro (And.intro (by with_unfolding_all rfl) (by intro q h; cases h)) ?_; refine And.intro ?_ (And.intro ?_ ?_) <;> (conv => whnf) <;> (repeat' (first | exact True.intro | (with_reducible exact rfl) | exact (rfl : List.replicate 0 PV.bad = []) | ((with_reducible refine And.intro ?_ ?_) <;> (first | (with_reducible exact wkV_same _ rfl) | exact wkV_pt rfl rfl | exact wkV_ow rfl rfl rfl | (refine wkV_ow rfl rfl ?_) | (refine wkV_sc (congrArg (Value.int .i64) ?_)) | (refine wkV_sc (congrArg Value.bool ?_)) | exact wkV_ls rfl | ((refine wkV_cl ?_); conv => whnf) | ((refine wkV_tu ?_); conv => whnf) | ((refine wkV_ag ?_); conv => whnf) | (conv => whnf))))))
        all_goals rfl
      intro m hm
      conv => whnf
      ((first | (with_reducible refine split_dec (fun h => ?_) (fun h => ?_)) | (with_reducible refine split_beq (fun h => ?_) (fun h => ?_)) | (with_reducible refine split_bne (fun h => ?_) (fun h => ?_)) | (with_reducible refine split_not (fun h => ?_) (fun h => ?_)) | (with_reducible refine split_beqS (fun h => ?_) (fun h => ?_)) | (with_reducible refine split_intro (fun h => ?_) (fun h => ?_))) <;> conv => whnf)
      · have hmn : m < n := by omega
        obtain ⟨z, hz⟩ : ∃ z, a.log[m]? = some z := ⟨_, List.getElem?_eq_getElem (by omega)⟩
        have iI : isI (a.base + 1 + (m : Int)) := by unfold isI; omega
        have g1 : entAt x (a.base + 1 + (m : Int)) = some z := by
          rw [entAt_nat (m := m) (by rw [hxb]), hxlog, ← hz]
          have := congrArg (fun g : List Ent => g[m]?) (putG_take a.log l ko.le)
          simp only [List.getElem?_take, hmn, if_true] at this
          exact this
        have g2 : entAt a (a.base + 1 + (m : Int)) = some z := by rw [entAt_nat (m := m) rfl, hz]
        have c1 := c_Entry x (smallM (by omega)) (by rw [hxb]; exact hbI) _ iI
        have c2 := c_Entry a (smallM (by omega)) hbI _ iI
        rw [g1] at c1
        rw [g2] at c2
        simp only [Option.getD_some, Option.isSome_some] at c1 c2
        ((try ((refine Exists.intro none ?_); (conv => whnf))); first | ((with_reducible refine call_by (c1) ?_); conv => whnf))
        ((try ((refine Exists.intro none ?_); (conv => whnf))); first | ((with_reducible refine call_by (c2) ?_); conv => whnf))
        ((try ((refine Exists.intro none ?_); (conv => whnf))); first | ((with_reducible refine call_by (s_Entry z) ?_); conv => whnf))
        refine ⟨m + 1, ⟨by omega, by omega⟩, ?_⟩
        conv => whnf
        (refine And.intro (And.intro (by with_unfolding_all rfl) (by intro q h; cases h)) ?_; refine And.intro ?_ (And.intro ?_ ?_) <;> (conv => whnf) <;> (repeat' (first | exact True.intro | (with_reducible exact rfl) | exact (rfl : List.replicate 0 PV.bad = []) | ((with_reducible refine And.intro ?_ ?_) <;> (first | (with_reducible exact wkV_same _ rfl) | exact wkV_pt rfl rfl | exact wkV_ow rfl rfl rfl | (refine wkV_ow rfl rfl ?_) | (refine wkV_sc (congrArg (Value.int .i64) ?_)) | (refine wkV_sc (congrArg Value.bool ?_)) | exact wkV_ls rfl | ((refine wkV_cl ?_); conv => whnf) | ((refine wkV_tu ?_); conv => whnf) | ((refine wkV_ag ?_); conv => whnf) | (conv => whnf))))))
        rw [wrap_id (by omega) (by omega)]; omega
      · ((try ((refine Exists.intro none ?_); (conv => whnf))); first | ((with_reducible refine call_by (c_wakes09) ?_); conv => whnf))
        exact exit_plain rfl rfl
  · rw [(res_no e).2.2] at k1
    ((try ((refine Exists.intro none ?_); (conv => whnf))); first | ((with_reducible refine call_by (k1) ?_); conv => whnf))
    ((first | (first | (with_reducible refine split_dt (by assumption) ?_) | (with_reducible refine split_df (by assumption) ?_) | (with_reducible refine split_et (by assumption) ?_) | (with_reducible refine split_ef (by assumption) ?_) | (with_reducible refine split_bt (by assumption) ?_) | (with_reducible refine split_bf (by assumption) ?_) | (with_reducible refine split_nt (by assumption) ?_) | (with_reducible refine split_nf (by assumption) ?_) | (with_reducible refine split_t (by assumption) ?_) | (with_reducible refine split_f (by assumption) ?_)) | (first | (with_reducible refine split_dec (fun h => ?_) (fun h => ?_)) | (with_reducible refine split_beq (fun h => ?_) (fun h => ?_)) | (with_reducible refine split_bne (fun h => ?_) (fun h => ?_)) | (with_reducible refine split_not (fun h => ?_) (fun h => ?_)) | (with_reducible refine split_beqS (fun h => ?_) (fun h => ?_)) | (with_reducible refine split_intro (fun h => ?_) (fun h => ?_)))) <;> conv => whnf)
    ((try ((refine Exists.intro none ?_); (conv => whnf))); first | ((with_reducible refine call_by (c_wakes09) ?_); conv => whnf))
    exact exit_plain rfl rfl

theorem told_LogsPuts (qs : List PV) (h : ArgsOf Try.prog [32, 3, 30] qs) : Ctr Try.prog 22 qs (bv true) [] := by
  obtain ⟨p1, qs, rfl, h1, h⟩ := argsOf_cons h
  obtain ⟨p2, qs, rfl, h2, h⟩ := argsOf_cons h
  obtain ⟨p3, qs, rfl, h3, h⟩ := argsOf_cons h
  obtain rfl := argsOf_nil h
  obtain ⟨a, rfl, ha⟩ := arg_Hrd h1
  obtain ⟨i, rfl, hi⟩ := arg_i h2
  obtain ⟨l, rfl, _⟩ := arg_Ents h3
  exact l_LogsPuts a ha.2.2.1 i hi l
end Go.Proofs
