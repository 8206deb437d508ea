/- Contracts of functions: what a replica has of what was committed; configurations step by step. -/
import Derived.Test.YtnphfgphajejaaaC63
import Derived.Test.YtnphfgphajejaaaTConfSteps
set_option linter.unusedSimpArgs false
set_option linter.unusedVariables false
namespace Go.Proofs
open Go.Pv
set_option maxRecDepth 100000

def LastsP (l : List Ent) (r : Rft) : Prop := lkB r = true ∧ ∀ k (hk : k < l.length), r.hard.base < (k : Int) + 1 → ∃ y, entAt r.hard ((k : Int) + 1) = some y ∧ (l[k]'hk).nrm = y.nrm
set_option maxHeartbeats 2000000 in
theorem c_Lasts (l : List Ent) (hl : l.length ≤ 4294967) (r : Rft) (s : r.small) : Ctr Try.prog 142 [.sl 16 (l.map Ent.enc), .ag r.enc] (bv (dec (LastsP l r))) [] := by
  have ch := c_has r
  by_cases hB : lkB r = true
  · rw [hB] at ch
    have hb0 := lkB_iff.1 hB
    refine spec_of_body mixed Try.func142 rfl (by kernel_rfl) (by kernel_rfl) ?_; conv => whnf
    ((try ((refine Exists.intro none ?_); (conv => whnf))); first | ((with_reducible refine call_by (ch) ?_); conv => whnf))
    refine tri_for0 mixed (by kernel_rfl) (fun k : Nat => k ≤ l.length ∧ ∀ i (hi : i < l.length), i < k → r.hard.base < (i : Int) + 1 → ∃ y, entAt r.hard ((i : Int) + 1) = some y ∧ (l[i]'hi).nrm = y.nrm) (fun k => [(14, iv k)]) [] (fun k => l.length - k) 0 ⟨Nat.zero_le _, fun i _ h => absurd h (Nat.not_lt_zero i)⟩ ?_ ?_
    · conv => whnf
      (refine And.intro (And.intro (by with_unfolding_all rfl) (by intro q h; cases h)) ?_; refine And.intro ?_ (And.intro ?_ ?_) <;> (conv => whnf) <;> (repeat' (first | exact True.intro | (with_reducible exact rfl) | exact (rfl : List.replicate 0 PV.bad = []) | ((with_reducible refine And.intro ?_ ?_) <;> (first | (with_reducible exact wkV_same _ rfl) | exact wkV_pt rfl rfl | exact wkV_ow rfl rfl rfl | (refine wkV_ow rfl rfl ?_) | (refine wkV_sc (congrArg (Value.int .i64) ?_)) | (refine wkV_sc (congrArg Value.bool ?_)) | exact wkV_ls rfl | ((refine wkV_cl ?_); conv => whnf) | ((refine wkV_tu ?_); conv => whnf) | ((refine wkV_ag ?_); conv => whnf) | (conv => whnf))))))
      all_goals rfl
    rintro k ⟨hk, hal⟩
    conv => whnf
    ((first | (with_reducible refine split_dec (fun h => ?_) (fun h => ?_)) | (with_reducible refine split_beq (fun h => ?_) (fun h => ?_)) | (with_reducible refine split_bne (fun h => ?_) (fun h => ?_)) | (with_reducible refine split_not (fun h => ?_) (fun h => ?_)) | (with_reducible refine split_beqS (fun h => ?_) (fun h => ?_)) | (with_reducible refine split_intro (fun h => ?_) (fun h => ?_))) <;> conv => whnf)
    · simp only [List.length_map] at h
      have hlt : k < l.length := by omega
      clear h
      have e1 : IntKind.i64.wrap ((k : Int) + 1) = (k : Int) + 1 := wrap_id (by omega) (by omega)
      have c1 := c_aEntry r s.len s.base hB ((k : Int) + 1) (by unfold isI; omega)
      have next : (r.hard.base < (k : Int) + 1 → ∃ y, entAt r.hard ((k : Int) + 1) = some y ∧ (l[k]'hlt).nrm = y.nrm) → ∀ i (hi : i < l.length), i < k + 1 → r.hard.base < (i : Int) + 1 → ∃ y, entAt r.hard ((i : Int) + 1) = some y ∧ (l[i]'hi).nrm = y.nrm := fun hn i hi hik => by
        by_cases ei : i = k
        · subst ei; exact hn
        · exact hal i hi (by omega)
      (first | ((with_reducible refine And.intro (by omega) (Exists.intro _ (And.intro (row_at hlt) ?_))); conv => whnf))
      rw [e1]
      ((first | (with_reducible refine split_dec (fun h => ?_) (fun h => ?_)) | (with_reducible refine split_beq (fun h => ?_) (fun h => ?_)) | (with_reducible refine split_bne (fun h => ?_) (fun h => ?_)) | (with_reducible refine split_not (fun h => ?_) (fun h => ?_)) | (with_reducible refine split_beqS (fun h => ?_) (fun h => ?_)) | (with_reducible refine split_intro (fun h => ?_) (fun h => ?_))) <;> conv => whnf)
      · refine ⟨k + 1, ⟨⟨by omega, next (fun hb => absurd hb (by omega))⟩, by omega⟩, ?_⟩
        conv => whnf
        (refine And.intro (And.intro (by with_unfolding_all rfl) (by intro q h; cases h)) ?_; refine And.intro ?_ (And.intro ?_ ?_) <;> (conv => whnf) <;> (repeat' (first | exact True.intro | (with_reducible exact rfl) | exact (rfl : List.replicate 0 PV.bad = []) | ((with_reducible refine And.intro ?_ ?_) <;> (first | (with_reducible exact wkV_same _ rfl) | exact wkV_pt rfl rfl | exact wkV_ow rfl rfl rfl | (refine wkV_ow rfl rfl ?_) | (refine wkV_sc (congrArg (Value.int .i64) ?_)) | (refine wkV_sc (congrArg Value.bool ?_)) | exact wkV_ls rfl | ((refine wkV_cl ?_); conv => whnf) | ((refine wkV_tu ?_); conv => whnf) | ((refine wkV_ag ?_); conv => whnf) | (conv => whnf))))))
        all_goals first | exact w1 (by omega) | rfl
      · have hb := h
        clear h
        rw [e1]
        cases he : entAt r.hard ((k : Int) + 1) with
        | none =>
          rw [show entE r ((k : Int) + 1) = ez from by unfold entE; rw [he]; rfl, he] at c1
          simp only [Option.isSome_none] at c1
          ((try ((refine Exists.intro none ?_); (conv => whnf))); first | ((with_reducible refine call_by (c1) ?_); conv => whnf))
          exact exit_plain rfl (congrArg bv (dec_false (fun hh => by obtain ⟨y, hy, _⟩ := hh.2 k hlt (by omega); rw [he] at hy; cases hy)).symm)
        | some y =>
          rw [show entE r ((k : Int) + 1) = y from by unfold entE; rw [he]; rfl, he] at c1
          simp only [Option.isSome_some] at c1
          have c2 := c_same (l[k]'hlt) y
          by_cases hn : (l[k]'hlt).nrm = y.nrm
          · rw [decide_eq_true hn] at c2
            ((try ((refine Exists.intro none ?_); (conv => whnf))); first | ((with_reducible refine call_by (c1) ?_); conv => whnf))
            ((try ((refine Exists.intro none ?_); (conv => whnf))); first | ((with_reducible refine call_by (c2) ?_); conv => whnf))
            refine ⟨k + 1, ⟨⟨by omega, next (fun _ => ⟨y, he, hn⟩)⟩, by omega⟩, ?_⟩
            conv => whnf
            (refine And.intro (And.intro (by with_unfolding_all rfl) (by intro q h; cases h)) ?_; refine And.intro ?_ (And.intro ?_ ?_) <;> (conv => whnf) <;> (repeat' (first | exact True.intro | (with_reducible exact rfl) | exact (rfl : List.replicate 0 PV.bad = []) | ((with_reducible refine And.intro ?_ ?_) <;> (first | (with_reducible exact wkV_same _ rfl) | exact wkV_pt rfl rfl | exact wkV_ow rfl rfl rfl | (refine wkV_ow rfl rfl ?_) | (refine wkV_sc (congrArg (Value.int .i64) ?_)) | (refine wkV_sc (congrArg Value.bool ?_)) | exact wkV_ls rfl | ((refine wkV_cl ?_); conv => whnf) | ((refine wkV_tu ?_); conv => whnf) | ((refine wkV_ag ?_); conv => whnf) | (conv => whnf))))))
            all_goals first | exact w1 (by omega) | rfl
          · rw [decide_eq_false hn] at c2
            ((try ((refine Exists.intro none ?_); (conv => whnf))); first | ((with_reducible refine call_by (c1) ?_); conv => whnf))
            ((try ((refine Exists.intro none ?_); (conv => whnf))); first | ((with_reducible refine call_by (c2) ?_); conv => whnf))
            exact exit_plain rfl (congrArg bv (dec_false (fun hh => by obtain ⟨z, hz, hzn⟩ := hh.2 k hlt (by omega); rw [he] at hz; injection hz with hz; rw [← hz] at hzn; exact hn hzn)).symm)
    · simp only [List.length_map] at h
      exact exit_plain rfl (congrArg bv (dec_true ⟨hB, fun i hi => hal i hi (by omega)⟩).symm)
  · have hn : ¬ LastsP l r := fun hh => hB hh.1
    simp only [Bool.not_eq_true] at hB
    rw [hB] at ch
    rw [dec_false hn]
    refine spec_of_body mixed Try.func142 rfl (by kernel_rfl) (by kernel_rfl) ?_; conv => whnf
    ((try ((refine Exists.intro none ?_); (conv => whnf))); first | ((with_reducible refine call_by (ch) ?_); conv => whnf))
    exact exit_plain rfl rfl
set_option maxHeartbeats 2000000 in
theorem c_rLasts (l : List Ent) (hl : l.length ≤ 4294967) (r : Rft) (s : r.small) (hl2 : r.hard.log.length ≤ 4294967) : Ctr Try.prog 143 [.sl 16 (l.map Ent.enc), .ag r.enc] (bv (dec (LastsP l r))) [] := by
  have ch := c_logged r
  by_cases hB : lkB r = true
  · rw [hB] at ch
    have hb0 := lkB_iff.1 hB
    have w0 : IntKind.i64.wrap (r.hard.base + 1) = r.hard.base + 1 := wrap_id (by omega) (by omega)
    refine spec_of_body mixed Try.func143 rfl (by kernel_rfl) (by kernel_rfl) ?_; conv => whnf
    ((try ((refine Exists.intro none ?_); (conv => whnf))); first | ((with_reducible refine call_by (ch) ?_); conv => whnf))
    rw [w0]
    refine tri_for0 mixed (by kernel_rfl) (fun j : Nat => (r.hard.base + j ≤ l.length ∨ j = 0) ∧ ∀ i (hi : i < l.length), (i : Int) < r.hard.base + j → r.hard.base < (i : Int) + 1 → ∃ y, entAt r.hard ((i : Int) + 1) = some y ∧ (l[i]'hi).nrm = y.nrm) (fun j => [(5, iv (r.hard.base + 1 + (j : Int)))]) [] (fun j => l.length + 1 - j) 0 ⟨.inr rfl, fun i _ h => by omega⟩ ?_ ?_
    · conv => whnf
      (refine And.intro (And.intro (by with_unfolding_all rfl) (by intro q h; cases h)) ?_; refine And.intro ?_ (And.intro ?_ ?_) <;> (conv => whnf) <;> (repeat' (first | exact True.intro | (with_reducible exact rfl) | exact (rfl : List.replicate 0 PV.bad = []) | ((with_reducible refine And.intro ?_ ?_) <;> (first | (with_reducible exact wkV_same _ rfl) | exact wkV_pt rfl rfl | exact wkV_ow rfl rfl rfl | (refine wkV_ow rfl rfl ?_) | (refine wkV_sc (congrArg (Value.int .i64) ?_)) | (refine wkV_sc (congrArg Value.bool ?_)) | exact wkV_ls rfl | ((refine wkV_cl ?_); conv => whnf) | ((refine wkV_tu ?_); conv => whnf) | ((refine wkV_ag ?_); conv => whnf) | (conv => whnf))))))
      all_goals first | rfl | omega
    rintro j ⟨hj, hal⟩
    conv => whnf
    ((first | (with_reducible refine split_dec (fun h => ?_) (fun h => ?_)) | (with_reducible refine split_beq (fun h => ?_) (fun h => ?_)) | (with_reducible refine split_bne (fun h => ?_) (fun h => ?_)) | (with_reducible refine split_not (fun h => ?_) (fun h => ?_)) | (with_reducible refine split_beqS (fun h => ?_) (fun h => ?_)) | (with_reducible refine split_intro (fun h => ?_) (fun h => ?_))) <;> conv => whnf)
    · have q3 : r.hard.base + 1 + (j : Int) ≤ l.length := by (try simp only [List.length_map] at h); omega
      clear h
      have hkl : r.hard.base.toNat + j < l.length := by omega
      have e1 : IntKind.i64.wrap (r.hard.base + 1 + (j : Int) - 1) = ((r.hard.base.toNat + j : Nat) : Int) := by rw [wrap_id (by omega) (by omega)]; omega
      have e2 : ((r.hard.base.toNat + j : Nat) : Int) + 1 = r.hard.base + 1 + (j : Int) := by omega
      have c1 := c_rAt r.hard s.len hb0.1 (by omega) (r.hard.base + 1 + (j : Int)) (by unfold isI; omega)
      cases he : entAt r.hard (r.hard.base + 1 + (j : Int)) with
      | none =>
        rw [he] at c1
        simp only [Option.getD_none, Option.isSome_none] at c1
        ((try ((refine Exists.intro none ?_); (conv => whnf))); first | ((with_reducible refine call_by (c1) ?_); conv => whnf))
        exact exit_plain rfl (congrArg bv (dec_false (fun hh => by obtain ⟨y, hy, _⟩ := hh.2 _ hkl (by omega); rw [e2, he] at hy; cases hy)).symm)
      | some y =>
        rw [he] at c1
        simp only [Option.getD_some, Option.isSome_some] at c1
        have c2 := c_kEntry y (l[r.hard.base.toNat + j]'hkl)
        by_cases hn : y.nrm = (l[r.hard.base.toNat + j]'hkl).nrm
        · rw [decide_eq_true hn] at c2
          ((try ((refine Exists.intro none ?_); (conv => whnf))); first | ((with_reducible refine call_by (c1) ?_); conv => whnf))
          rw [e1]
          (first | ((with_reducible refine And.intro (by omega) (Exists.intro _ (And.intro (row_at hkl) ?_))); conv => whnf))
          ((try ((refine Exists.intro none ?_); (conv => whnf))); first | ((with_reducible refine call_by (c2) ?_); conv => whnf))
          refine ⟨j + 1, ⟨⟨.inl (by omega), ?_⟩, by omega⟩, ?_⟩
          · intro i hi hik hib
            by_cases ei : i = r.hard.base.toNat + j
            · subst ei
              exact ⟨y, by rw [e2]; exact he, hn.symm⟩
            · exact hal i hi (by omega) hib
          conv => whnf
          (refine And.intro (And.intro (by with_unfolding_all rfl) (by intro q h; cases h)) ?_; refine And.intro ?_ (And.intro ?_ ?_) <;> (conv => whnf) <;> (repeat' (first | exact True.intro | (with_reducible exact rfl) | exact (rfl : List.replicate 0 PV.bad = []) | ((with_reducible refine And.intro ?_ ?_) <;> (first | (with_reducible exact wkV_same _ rfl) | exact wkV_pt rfl rfl | exact wkV_ow rfl rfl rfl | (refine wkV_ow rfl rfl ?_) | (refine wkV_sc (congrArg (Value.int .i64) ?_)) | (refine wkV_sc (congrArg Value.bool ?_)) | exact wkV_ls rfl | ((refine wkV_cl ?_); conv => whnf) | ((refine wkV_tu ?_); conv => whnf) | ((refine wkV_ag ?_); conv => whnf) | (conv => whnf))))))
          all_goals first | (rw [wrap_id (by omega) (by omega)]; omega) | rfl
        · rw [decide_eq_false hn] at c2
          ((try ((refine Exists.intro none ?_); (conv => whnf))); first | ((with_reducible refine call_by (c1) ?_); conv => whnf))
          rw [e1]
          (first | ((with_reducible refine And.intro (by omega) (Exists.intro _ (And.intro (row_at hkl) ?_))); conv => whnf))
          ((try ((refine Exists.intro none ?_); (conv => whnf))); first | ((with_reducible refine call_by (c2) ?_); conv => whnf))
          exact exit_plain rfl (congrArg bv (dec_false (fun hh => by obtain ⟨z, hz, hzn⟩ := hh.2 _ hkl (by omega); rw [e2, he] at hz; injection hz with hz; rw [← hz] at hzn; exact hn hzn.symm)).symm)
    · have q3 : ¬ r.hard.base + 1 + (j : Int) ≤ l.length := by (try simp only [List.length_map] at h); omega
      exact exit_plain rfl (congrArg bv (dec_true ⟨hB, fun i hi hib => hal i hi (by omega) hib⟩).symm)
  · have hn : ¬ LastsP l r := fun hh => hB hh.1
    simp only [Bool.not_eq_true] at hB
    rw [hB] at ch
    rw [dec_false hn]
    refine spec_of_body mixed Try.func143 rfl (by kernel_rfl) (by kernel_rfl) ?_; conv => whnf
    ((try ((refine Exists.intro none ?_); (conv => whnf))); first | ((with_reducible refine call_by (ch) ?_); conv => whnf))
    exact exit_plain rfl rfl

/-! Configurations. -/
noncomputable def stepsB : Conf → List Ent → Bool
  | _, [] => true
  | c, x :: l => if x.kind = 2 then nearR c x.conf && stepsB x.conf l else stepsB c l
theorem stepsB_at (c : Conf) {l : List Ent} {j : Nat} (h : j < l.length) : stepsB c (l.drop j) = if (l[j]'h).kind = 2 then nearR c (l[j]'h).conf && stepsB (l[j]'h).conf (l.drop (j + 1)) else stepsB c (l.drop (j + 1)) := by
  rw [List.drop_eq_getElem_cons h, stepsB]
set_option maxHeartbeats 2000000 in
theorem c_Confs (l : List Ent) (hl : l.length ≤ 4294967) (c : Conf) : Ctr Try.prog 144 [.sl 16 (l.map Ent.enc), .ag c.enc] (bv (confB c && stepsB c l)) [] := by
  have ch := c_Check c
  cases hC : confB c
  · rw [hC] at ch
    refine spec_of_body mixed Try.func144 rfl (by kernel_rfl) (by kernel_rfl) ?_; conv => whnf
    ((try ((refine Exists.intro none ?_); (conv => whnf))); first | ((with_reducible refine call_by (ch) ?_); conv => whnf))
    exact exit_plain rfl rfl
  · rw [hC] at ch
    refine spec_of_body mixed Try.func144 rfl (by kernel_rfl) (by kernel_rfl) ?_; conv => whnf
    ((try ((refine Exists.intro none ?_); (conv => whnf))); first | ((with_reducible refine call_by (ch) ?_); conv => whnf))
    refine tri_forB mixed (by kernel_rfl) (fun b : Nat × Conf => b.1 ≤ l.length ∧ stepsB c l = stepsB b.2 (l.drop b.1)) (fun b => [(12, iv (b.1 : Nat))]) (fun b => [(3, b.2.enc)]) [] (fun b => l.length - b.1) (0, c) ⟨Nat.zero_le _, rfl⟩ ?_ ?_
    · conv => whnf
      (refine And.intro (And.intro (by with_unfolding_all rfl) (by intro q h; cases h)) ?_; refine And.intro ?_ (And.intro ?_ ?_) <;> (conv => whnf) <;> (repeat' (first | exact True.intro | (with_reducible exact rfl) | exact (rfl : List.replicate 0 PV.bad = []) | ((with_reducible refine And.intro ?_ ?_) <;> (first | (with_reducible exact wkV_same _ rfl) | exact wkV_pt rfl rfl | exact wkV_ow rfl rfl rfl | (refine wkV_ow rfl rfl ?_) | (refine wkV_sc (congrArg (Value.int .i64) ?_)) | (refine wkV_sc (congrArg Value.bool ?_)) | exact wkV_ls rfl | ((refine wkV_cl ?_); conv => whnf) | ((refine wkV_tu ?_); conv => whnf) | ((refine wkV_ag ?_); conv => whnf) | (conv => whnf))))))
      all_goals rfl
    rintro ⟨k, d⟩ ⟨hk, hal⟩
    simp only at hk hal
    conv => whnf
    ((first | (with_reducible refine split_dec (fun h => ?_) (fun h => ?_)) | (with_reducible refine split_beq (fun h => ?_) (fun h => ?_)) | (with_reducible refine split_bne (fun h => ?_) (fun h => ?_)) | (with_reducible refine split_not (fun h => ?_) (fun h => ?_)) | (with_reducible refine split_beqS (fun h => ?_) (fun h => ?_)) | (with_reducible refine split_intro (fun h => ?_) (fun h => ?_))) <;> conv => whnf)
    · simp only [List.length_map] at h
      have hlt : k < l.length := by omega
      clear h
      have hat := stepsB_at d hlt
      (first | ((with_reducible refine And.intro (by omega) (Exists.intro _ (And.intro (row_at hlt) ?_))); conv => whnf))
      ((first | (with_reducible refine split_dec (fun h => ?_) (fun h => ?_)) | (with_reducible refine split_beq (fun h => ?_) (fun h => ?_)) | (with_reducible refine split_bne (fun h => ?_) (fun h => ?_)) | (with_reducible refine split_not (fun h => ?_) (fun h => ?_)) | (with_reducible refine split_beqS (fun h => ?_) (fun h => ?_)) | (with_reducible refine split_intro (fun h => ?_) (fun h => ?_))) <;> conv => whnf)
      · rw [if_neg h] at hat
        refine ⟨(k + 1, d), ⟨⟨by show k + 1 ≤ _; omega, hal.trans hat⟩, by show l.length - (k + 1) < l.length - k; omega⟩, ?_⟩
        conv => whnf
        (refine And.intro (And.intro (by with_unfolding_all rfl) (by intro q h; cases h)) ?_; refine And.intro ?_ (And.intro ?_ ?_) <;> (conv => whnf) <;> (repeat' (first | exact True.intro | (with_reducible exact rfl) | exact (rfl : List.replicate 0 PV.bad = []) | ((with_reducible refine And.intro ?_ ?_) <;> (first | (with_reducible exact wkV_same _ rfl) | exact wkV_pt rfl rfl | exact wkV_ow rfl rfl rfl | (refine wkV_ow rfl rfl ?_) | (refine wkV_sc (congrArg (Value.int .i64) ?_)) | (refine wkV_sc (congrArg Value.bool ?_)) | exact wkV_ls rfl | ((refine wkV_cl ?_); conv => whnf) | ((refine wkV_tu ?_); conv => whnf) | ((refine wkV_ag ?_); conv => whnf) | (conv => whnf))))))
        all_goals first | exact w1 (by omega) | rfl
      · have h2 : (l[k]'hlt).kind = 2 := by first | exact h | exact Classical.byContradiction h
        rw [if_pos h2] at hat
        have c1 := c_Near d (l[k]'hlt).conf
        cases hn : nearR d (l[k]'hlt).conf with
        | false =>
          rw [hn] at c1 hat
          ((try ((refine Exists.intro none ?_); (conv => whnf))); first | ((with_reducible refine call_by (c1) ?_); conv => whnf))
          exact exit_plain rfl (by rw [hal, hat]; rfl)
        | true =>
          rw [hn] at c1 hat
          ((try ((refine Exists.intro none ?_); (conv => whnf))); first | ((with_reducible refine call_by (c1) ?_); conv => whnf))
          refine ⟨(k + 1, (l[k]'hlt).conf), ⟨⟨by show k + 1 ≤ _; omega, hal.trans (by rw [hat]; rfl)⟩, by show l.length - (k + 1) < l.length - k; omega⟩, ?_⟩
          conv => whnf
          (refine And.intro (And.intro (by with_unfolding_all rfl) (by intro q h; cases h)) ?_; refine And.intro ?_ (And.intro ?_ ?_) <;> (conv => whnf) <;> (repeat' (first | exact True.intro | (with_reducible exact rfl) | exact (rfl : List.replicate 0 PV.bad = []) | ((with_reducible refine And.intro ?_ ?_) <;> (first | (with_reducible exact wkV_same _ rfl) | exact wkV_pt rfl rfl | exact wkV_ow rfl rfl rfl | (refine wkV_ow rfl rfl ?_) | (refine wkV_sc (congrArg (Value.int .i64) ?_)) | (refine wkV_sc (congrArg Value.bool ?_)) | exact wkV_ls rfl | ((refine wkV_cl ?_); conv => whnf) | ((refine wkV_tu ?_); conv => whnf) | ((refine wkV_ag ?_); conv => whnf) | (conv => whnf))))))
          all_goals first | exact w1 (by omega) | rfl
    · simp only [List.length_map] at h
      exact exit_plain rfl (by rw [hal, List.drop_eq_nil_of_le (by omega)]; rfl)
set_option maxHeartbeats 2000000 in
theorem c_rConfs (l : List Ent) (hl : l.length ≤ 4294967) (c : Conf) : Ctr Try.prog 145 [.sl 16 (l.map Ent.enc), .ag c.enc] (bv (confB c && stepsB c l)) [] := by
  have ch := c_rConf c
  cases hC : confB c
  · rw [hC] at ch
    refine spec_of_body mixed Try.func145 rfl (by kernel_rfl) (by kernel_rfl) ?_; conv => whnf
    ((try ((refine Exists.intro none ?_); (conv => whnf))); first | ((with_reducible refine call_by (ch) ?_); conv => whnf))
    exact exit_plain rfl rfl
  · rw [hC] at ch
    refine spec_of_body mixed Try.func145 rfl (by kernel_rfl) (by kernel_rfl) ?_; conv => whnf
    ((try ((refine Exists.intro none ?_); (conv => whnf))); first | ((with_reducible refine call_by (ch) ?_); conv => whnf))
    refine tri_forB mixed (by kernel_rfl) (fun b : Nat × Conf => b.1 ≤ l.length ∧ stepsB c l = stepsB b.2 (l.drop b.1)) (fun b => [(5, iv (b.1 : Nat))]) (fun b => [(3, b.2.enc)]) [] (fun b => l.length - b.1) (0, c) ⟨Nat.zero_le _, rfl⟩ ?_ ?_
    · conv => whnf
      (refine And.intro (And.intro (by with_unfolding_all rfl) (by intro q h; cases h)) ?_; refine And.intro ?_ (And.intro ?_ ?_) <;> (conv => whnf) <;> (repeat' (first | exact True.intro | (with_reducible exact rfl) | exact (rfl : List.replicate 0 PV.bad = []) | ((with_reducible refine And.intro ?_ ?_) <;> (first | (with_reducible exact wkV_same _ rfl) | exact wkV_pt rfl rfl | exact wkV_ow rfl rfl rfl | (refine wkV_ow rfl rfl ?_) | (refine wkV_sc (congrArg (Value.int .i64) ?_)) | (refine wkV_sc (congrArg Value.bool ?_)) | exact wkV_ls rfl | ((refine wkV_cl ?_); conv => whnf) | ((refine wkV_tu ?_); conv => whnf) | ((refine wkV_ag ?_); conv => whnf) | (conv => whnf))))))
      all_goals rfl
    rintro ⟨k, d⟩ ⟨hk, hal⟩
    simp only at hk hal
    conv => whnf
    ((first | (with_reducible refine split_dec (fun h => ?_) (fun h => ?_)) | (with_reducible refine split_beq (fun h => ?_) (fun h => ?_)) | (with_reducible refine split_bne (fun h => ?_) (fun h => ?_)) | (with_reducible refine split_not (fun h => ?_) (fun h => ?_)) | (with_reducible refine split_beqS (fun h => ?_) (fun h => ?_)) | (with_reducible refine split_intro (fun h => ?_) (fun h => ?_))) <;> conv => whnf)
    · simp only [List.length_map] at h
      have hlt : k < l.length := by omega
      clear h
      have hat := stepsB_at d hlt
      (first | ((with_reducible refine And.intro (by omega) (Exists.intro _ (And.intro (row_at hlt) ?_))); conv => whnf))
      ((first | (with_reducible refine split_dec (fun h => ?_) (fun h => ?_)) | (with_reducible refine split_beq (fun h => ?_) (fun h => ?_)) | (with_reducible refine split_bne (fun h => ?_) (fun h => ?_)) | (with_reducible refine split_not (fun h => ?_) (fun h => ?_)) | (with_reducible refine split_beqS (fun h => ?_) (fun h => ?_)) | (with_reducible refine split_intro (fun h => ?_) (fun h => ?_))) <;> conv => whnf)
      · rw [if_neg h] at hat
        refine ⟨(k + 1, d), ⟨⟨by show k + 1 ≤ _; omega, hal.trans hat⟩, by show l.length - (k + 1) < l.length - k; omega⟩, ?_⟩
        conv => whnf
        (refine And.intro (And.intro (by with_unfolding_all rfl) (by intro q h; cases h)) ?_; refine And.intro ?_ (And.intro ?_ ?_) <;> (conv => whnf) <;> (repeat' (first | exact True.intro | (with_reducible exact rfl) | exact (rfl : List.replicate 0 PV.bad = []) | ((with_reducible refine And.intro ?_ ?_) <;> (first | (with_reducible exact wkV_same _ rfl) | exact wkV_pt rfl rfl | exact wkV_ow rfl rfl rfl | (refine wkV_ow rfl rfl ?_) | (refine wkV_sc (congrArg (Value.int .i64) ?_)) | (refine wkV_sc (congrArg Value.bool ?_)) | exact wkV_ls rfl | ((refine wkV_cl ?_); conv => whnf) | ((refine wkV_tu ?_); conv => whnf) | ((refine wkV_ag ?_); conv => whnf) | (conv => whnf))))))
        all_goals first | exact w1 (by omega) | rfl
      · have h2 : (l[k]'hlt).kind = 2 := by first | exact h | exact Classical.byContradiction h
        rw [if_pos h2] at hat
        have c1 := c_rNear d (l[k]'hlt).conf
        rw [nearL_eq] at c1
        (first | ((with_reducible refine And.intro (by omega) (Exists.intro _ (And.intro (row_at hlt) ?_))); conv => whnf))
        cases hn : nearR d (l[k]'hlt).conf with
        | false =>
          rw [hn] at c1 hat
          ((try ((refine Exists.intro none ?_); (conv => whnf))); first | ((with_reducible refine call_by (c1) ?_); conv => whnf))
          exact exit_plain rfl (by rw [hal, hat]; rfl)
        | true =>
          rw [hn] at c1 hat
          ((try ((refine Exists.intro none ?_); (conv => whnf))); first | ((with_reducible refine call_by (c1) ?_); conv => whnf))
          (first | ((with_reducible refine And.intro (by omega) (Exists.intro _ (And.intro (row_at hlt) ?_))); conv => whnf))
          refine ⟨(k + 1, (l[k]'hlt).conf), ⟨⟨by show k + 1 ≤ _; omega, hal.trans (by rw [hat]; rfl)⟩, by show l.length - (k + 1) < l.length - k; omega⟩, ?_⟩
          conv => whnf
          (refine And.intro (And.intro (by with_unfolding_all rfl) (by intro q h; cases h)) ?_; refine And.intro ?_ (And.intro ?_ ?_) <;> (conv => whnf) <;> (repeat' (first | exact True.intro | (with_reducible exact rfl) | exact (rfl : List.replicate 0 PV.bad = []) | ((with_reducible refine And.intro ?_ ?_) <;> (first | (with_reducible exact wkV_same _ rfl) | exact wkV_pt rfl rfl | exact wkV_ow rfl rfl rfl | (refine wkV_ow rfl rfl ?_) | (refine wkV_sc (congrArg (Value.int .i64) ?_)) | (refine wkV_sc (congrArg Value.bool ?_)) | exact wkV_ls rfl | ((refine wkV_cl ?_); conv => whnf) | ((refine wkV_tu ?_); conv => whnf) | ((refine wkV_ag ?_); conv => whnf) | (conv => whnf))))))
          all_goals first | exact w1 (by omega) | rfl
    · simp only [List.length_map] at h
      exact exit_plain rfl (by rw [hal, List.drop_eq_nil_of_le (by omega)]; rfl)
end Go.Proofs
