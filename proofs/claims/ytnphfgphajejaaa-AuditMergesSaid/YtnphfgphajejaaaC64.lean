/- Contracts of functions: the reference's Merge. -/
import Derived.Test.YtnphfgphajejaaaC63
set_option linter.unusedSimpArgs false
set_option linter.unusedVariables false
namespace Go.Proofs
open Go.Pv
set_option maxRecDepth 100000

set_option maxHeartbeats 8000000 in
theorem c_rMergeBad (l : List Ent) (hl : l.length ≤ 4294967) (r : Rft) (s : r.small) (hl2 : r.hard.log.length ≤ 4294967) (hc : isI r.commit) (hE : ¬ mrgE l r = 0) :
    Ctr Try.prog 141 [.sl 16 (l.map Ent.enc), .ag r.enc] (.tu [.nl, iv (mrgE l r)]) [] := by
  have ch := c_logged r
  by_cases hB : lkB r = true
  · rw [hB] at ch
    have hb0 := lkB_iff.1 hB
    have hcI := hc
    have w0 : IntKind.i64.wrap (r.hard.base + 1) = r.hard.base + 1 := wrap_id (by omega) (by omega)
    have w3 : IntKind.i64.wrap (r.hard.base + ((r.hard.log.map Ent.enc).length : Int)) = r.hard.base + r.hard.log.length := by rw [List.length_map, wrap_id (by omega) (by omega)]
    have w4 : IntKind.i64.wrap (((l.map Ent.enc).length : Int) + 1) = (l.length : Int) + 1 := by rw [List.length_map, wrap_id (by omega) (by omega)]
    cases hbad : mrgBad l r with
    | true =>
      have E : mrgE l r = 6 := by unfold mrgE; rw [if_pos hB, if_pos hbad]
      rw [E]
      refine spec_of_body mixed Try.func141 rfl (by kernel_rfl) (by kernel_rfl) ?_; conv => whnf
      ((try ((refine Exists.intro none ?_); (conv => whnf))); first | ((with_reducible refine call_by (ch) ?_); conv => whnf))
      rw [w0]
      refine tri_for0 mixed (by kernel_rfl) (fun j : Nat => ((j ≤ r.hard.log.length ∧ (r.hard.base + j ≤ l.length ∨ j = 0)) ∧ (r.hard.base + j ≤ r.commit ∨ j = 0)) ∧ ∀ i (hi : i < l.length), (i : Int) < r.hard.base + j → ∀ y, entAt r.hard ((i : Int) + 1) = some y → (l[i]'hi).nrm = y.nrm) (fun j => [(6, iv (r.hard.base + 1 + (j : Int)))]) [] (fun j => r.hard.log.length + 1 - j) 0 ⟨⟨⟨Nat.zero_le _, .inr rfl⟩, .inr rfl⟩, fun i _ h y hy => absurd (entAt_inH hy).1 (by omega)⟩ ?_ ?_
      · conv => whnf
        (refine And.intro (And.intro (by with_unfolding_all rfl) (by intro q h; cases h)) ?_; refine And.intro ?_ (And.intro ?_ ?_) <;> (conv => whnf) <;> (repeat' (first | exact True.intro | (with_reducible exact rfl) | exact (rfl : List.replicate 0 PV.bad = []) | ((with_reducible refine And.intro ?_ ?_) <;> (first | (with_reducible exact wkV_same _ rfl) | exact wkV_pt rfl rfl | exact wkV_ow rfl rfl rfl | (refine wkV_ow rfl rfl ?_) | (refine wkV_sc (congrArg (Value.int .i64) ?_)) | (refine wkV_sc (congrArg Value.bool ?_)) | exact wkV_ls rfl | ((refine wkV_cl ?_); conv => whnf) | ((refine wkV_tu ?_); conv => whnf) | ((refine wkV_ag ?_); conv => whnf) | (conv => whnf))))))
        all_goals first | rfl | omega
      rintro j ⟨⟨⟨hj, hj2⟩, hj3⟩, hal⟩
      conv => whnf
      have stop : (¬ (r.hard.base + 1 + (j : Int) ≤ r.hard.base + r.hard.log.length) ∨ ¬ (r.hard.base + 1 + (j : Int) ≤ r.commit) ∨ ¬ (r.hard.base + 1 + (j : Int) ≤ l.length)) → mrgBad l r = false := fun hs => mrgBad_f (fun i hi y hy hc => hal i hi (by have := entAt_inH hy; omega) y hy)
      rw [w3]
      ((first | (with_reducible refine split_dec (fun h => ?_) (fun h => ?_)) | (with_reducible refine split_beq (fun h => ?_) (fun h => ?_)) | (with_reducible refine split_bne (fun h => ?_) (fun h => ?_)) | (with_reducible refine split_not (fun h => ?_) (fun h => ?_)) | (with_reducible refine split_beqS (fun h => ?_) (fun h => ?_)) | (with_reducible refine split_intro (fun h => ?_) (fun h => ?_))) <;> conv => whnf)
      · have q1 := h
        clear h
        ((first | (with_reducible refine split_dec (fun h => ?_) (fun h => ?_)) | (with_reducible refine split_beq (fun h => ?_) (fun h => ?_)) | (with_reducible refine split_bne (fun h => ?_) (fun h => ?_)) | (with_reducible refine split_not (fun h => ?_) (fun h => ?_)) | (with_reducible refine split_beqS (fun h => ?_) (fun h => ?_)) | (with_reducible refine split_intro (fun h => ?_) (fun h => ?_))) <;> conv => whnf)
        · have q2 := h
          clear h
          ((first | (with_reducible refine split_dec (fun h => ?_) (fun h => ?_)) | (with_reducible refine split_beq (fun h => ?_) (fun h => ?_)) | (with_reducible refine split_bne (fun h => ?_) (fun h => ?_)) | (with_reducible refine split_not (fun h => ?_) (fun h => ?_)) | (with_reducible refine split_beqS (fun h => ?_) (fun h => ?_)) | (with_reducible refine split_intro (fun h => ?_) (fun h => ?_))) <;> conv => whnf)
          · have q3 := h
            clear h
            have q3 : r.hard.base + 1 + (j : Int) ≤ l.length := by (try simp only [List.length_map] at q3); omega
            have hjl : j < r.hard.log.length := by omega
            have hkl : r.hard.base.toNat + j < l.length := by omega
            have he : entAt r.hard (r.hard.base + 1 + (j : Int)) = some (r.hard.log[j]'hjl) := by rw [entAt_nat (m := j) rfl, List.getElem?_eq_getElem hjl]
            have c1 := c_rAt r.hard s.len hb0.1 (by omega) (r.hard.base + 1 + (j : Int)) (by unfold isI; omega)
            rw [he] at c1
            simp only [Option.getD_some, Option.isSome_some] at c1
            generalize hy : r.hard.log[j]'hjl = y at *
            have e1 : IntKind.i64.wrap (r.hard.base + 1 + (j : Int) - 1) = ((r.hard.base.toNat + j : Nat) : Int) := by rw [wrap_id (by omega) (by omega)]; omega
            have e2 : ((r.hard.base.toNat + j : Nat) : Int) + 1 = r.hard.base + 1 + (j : Int) := by omega
            ((try ((refine Exists.intro none ?_); (conv => whnf))); first | ((with_reducible refine call_by (c1) ?_); conv => whnf))
            rw [e1]
            (first | ((with_reducible refine And.intro (by omega) (Exists.intro _ (And.intro (row_at hkl) ?_))); conv => whnf))
            have c2 := c_kEntry y (l[r.hard.base.toNat + j]'hkl)
            by_cases hn : y.nrm = (l[r.hard.base.toNat + j]'hkl).nrm
            · rw [decide_eq_true hn] at c2
              ((try ((refine Exists.intro none ?_); (conv => whnf))); first | ((with_reducible refine call_by (c2) ?_); conv => whnf))
              refine ⟨j + 1, ⟨⟨⟨⟨by omega, .inl (by omega)⟩, .inl (by omega)⟩, ?_⟩, by omega⟩, ?_⟩
              · intro i hi hik z hz
                by_cases ei : i = r.hard.base.toNat + j
                · subst ei
                  rw [e2, he] at hz
                  injection hz with hz
                  rw [← hz]; exact hn.symm
                · exact hal i hi (by omega) z hz
              conv => whnf
              (refine And.intro (And.intro (by with_unfolding_all rfl) (by intro q h; cases h)) ?_; refine And.intro ?_ (And.intro ?_ ?_) <;> (conv => whnf) <;> (repeat' (first | exact True.intro | (with_reducible exact rfl) | exact (rfl : List.replicate 0 PV.bad = []) | ((with_reducible refine And.intro ?_ ?_) <;> (first | (with_reducible exact wkV_same _ rfl) | exact wkV_pt rfl rfl | exact wkV_ow rfl rfl rfl | (refine wkV_ow rfl rfl ?_) | (refine wkV_sc (congrArg (Value.int .i64) ?_)) | (refine wkV_sc (congrArg Value.bool ?_)) | exact wkV_ls rfl | ((refine wkV_cl ?_); conv => whnf) | ((refine wkV_tu ?_); conv => whnf) | ((refine wkV_ag ?_); conv => whnf) | (conv => whnf))))))
              all_goals first | (rw [wrap_id (by omega) (by omega)]; omega) | rfl
            · rw [decide_eq_false hn] at c2
              have hn2 : ¬ (l[r.hard.base.toNat + j]'hkl).nrm = y.nrm := fun e => hn e.symm
              ((try ((refine Exists.intro none ?_); (conv => whnf))); first | ((with_reducible refine call_by (c2) ?_); conv => whnf))
              exact exit_plain rfl rfl
          · have hst := stop (.inr (.inr (by (try simp only [List.length_map] at h); omega)))
            clear h
            exfalso; rw [hst] at hbad; cases hbad
        · have hst := stop (.inr (.inl h))
          clear h
          exfalso; rw [hst] at hbad; cases hbad
      · have hst := stop (.inl h)
        clear h
        exfalso; rw [hst] at hbad; cases hbad
    | false =>
      by_cases hb : (l.length : Int) < r.hard.base
      · have E : mrgE l r = 7 := by unfold mrgE; rw [if_pos hB, hbad, if_neg (by decide), if_pos hb]
        rw [E]
        refine spec_of_body mixed Try.func141 rfl (by kernel_rfl) (by kernel_rfl) ?_; conv => whnf
        ((try ((refine Exists.intro none ?_); (conv => whnf))); first | ((with_reducible refine call_by (ch) ?_); conv => whnf))
        rw [w0]
        refine tri_for0 mixed (by kernel_rfl) (fun j : Nat => ((j ≤ r.hard.log.length ∧ (r.hard.base + j ≤ l.length ∨ j = 0)) ∧ (r.hard.base + j ≤ r.commit ∨ j = 0)) ∧ ∀ i (hi : i < l.length), (i : Int) < r.hard.base + j → ∀ y, entAt r.hard ((i : Int) + 1) = some y → (l[i]'hi).nrm = y.nrm) (fun j => [(6, iv (r.hard.base + 1 + (j : Int)))]) [] (fun j => r.hard.log.length + 1 - j) 0 ⟨⟨⟨Nat.zero_le _, .inr rfl⟩, .inr rfl⟩, fun i _ h y hy => absurd (entAt_inH hy).1 (by omega)⟩ ?_ ?_
        · conv => whnf
          (refine And.intro (And.intro (by with_unfolding_all rfl) (by intro q h; cases h)) ?_; refine And.intro ?_ (And.intro ?_ ?_) <;> (conv => whnf) <;> (repeat' (first | exact True.intro | (with_reducible exact rfl) | exact (rfl : List.replicate 0 PV.bad = []) | ((with_reducible refine And.intro ?_ ?_) <;> (first | (with_reducible exact wkV_same _ rfl) | exact wkV_pt rfl rfl | exact wkV_ow rfl rfl rfl | (refine wkV_ow rfl rfl ?_) | (refine wkV_sc (congrArg (Value.int .i64) ?_)) | (refine wkV_sc (congrArg Value.bool ?_)) | exact wkV_ls rfl | ((refine wkV_cl ?_); conv => whnf) | ((refine wkV_tu ?_); conv => whnf) | ((refine wkV_ag ?_); conv => whnf) | (conv => whnf))))))
          all_goals first | rfl | omega
        rintro j ⟨⟨⟨hj, hj2⟩, hj3⟩, hal⟩
        conv => whnf
        have stop : (¬ (r.hard.base + 1 + (j : Int) ≤ r.hard.base + r.hard.log.length) ∨ ¬ (r.hard.base + 1 + (j : Int) ≤ r.commit) ∨ ¬ (r.hard.base + 1 + (j : Int) ≤ l.length)) → mrgBad l r = false := fun hs => mrgBad_f (fun i hi y hy hc => hal i hi (by have := entAt_inH hy; omega) y hy)
        rw [w3]
        ((first | (with_reducible refine split_dec (fun h => ?_) (fun h => ?_)) | (with_reducible refine split_beq (fun h => ?_) (fun h => ?_)) | (with_reducible refine split_bne (fun h => ?_) (fun h => ?_)) | (with_reducible refine split_not (fun h => ?_) (fun h => ?_)) | (with_reducible refine split_beqS (fun h => ?_) (fun h => ?_)) | (with_reducible refine split_intro (fun h => ?_) (fun h => ?_))) <;> conv => whnf)
        · have q1 := h
          clear h
          ((first | (with_reducible refine split_dec (fun h => ?_) (fun h => ?_)) | (with_reducible refine split_beq (fun h => ?_) (fun h => ?_)) | (with_reducible refine split_bne (fun h => ?_) (fun h => ?_)) | (with_reducible refine split_not (fun h => ?_) (fun h => ?_)) | (with_reducible refine split_beqS (fun h => ?_) (fun h => ?_)) | (with_reducible refine split_intro (fun h => ?_) (fun h => ?_))) <;> conv => whnf)
          · have q2 := h
            clear h
            ((first | (with_reducible refine split_dec (fun h => ?_) (fun h => ?_)) | (with_reducible refine split_beq (fun h => ?_) (fun h => ?_)) | (with_reducible refine split_bne (fun h => ?_) (fun h => ?_)) | (with_reducible refine split_not (fun h => ?_) (fun h => ?_)) | (with_reducible refine split_beqS (fun h => ?_) (fun h => ?_)) | (with_reducible refine split_intro (fun h => ?_) (fun h => ?_))) <;> conv => whnf)
            · have q3 := h
              clear h
              have q3 : r.hard.base + 1 + (j : Int) ≤ l.length := by (try simp only [List.length_map] at q3); omega
              have hjl : j < r.hard.log.length := by omega
              have hkl : r.hard.base.toNat + j < l.length := by omega
              have he : entAt r.hard (r.hard.base + 1 + (j : Int)) = some (r.hard.log[j]'hjl) := by rw [entAt_nat (m := j) rfl, List.getElem?_eq_getElem hjl]
              have c1 := c_rAt r.hard s.len hb0.1 (by omega) (r.hard.base + 1 + (j : Int)) (by unfold isI; omega)
              rw [he] at c1
              simp only [Option.getD_some, Option.isSome_some] at c1
              generalize hy : r.hard.log[j]'hjl = y at *
              have e1 : IntKind.i64.wrap (r.hard.base + 1 + (j : Int) - 1) = ((r.hard.base.toNat + j : Nat) : Int) := by rw [wrap_id (by omega) (by omega)]; omega
              have e2 : ((r.hard.base.toNat + j : Nat) : Int) + 1 = r.hard.base + 1 + (j : Int) := by omega
              ((try ((refine Exists.intro none ?_); (conv => whnf))); first | ((with_reducible refine call_by (c1) ?_); conv => whnf))
              rw [e1]
              (first | ((with_reducible refine And.intro (by omega) (Exists.intro _ (And.intro (row_at hkl) ?_))); conv => whnf))
              have c2 := c_kEntry y (l[r.hard.base.toNat + j]'hkl)
              by_cases hn : y.nrm = (l[r.hard.base.toNat + j]'hkl).nrm
              · rw [decide_eq_true hn] at c2
                ((try ((refine Exists.intro none ?_); (conv => whnf))); first | ((with_reducible refine call_by (c2) ?_); conv => whnf))
                refine ⟨j + 1, ⟨⟨⟨⟨by omega, .inl (by omega)⟩, .inl (by omega)⟩, ?_⟩, by omega⟩, ?_⟩
                · intro i hi hik z hz
                  by_cases ei : i = r.hard.base.toNat + j
                  · subst ei
                    rw [e2, he] at hz
                    injection hz with hz
                    rw [← hz]; exact hn.symm
                  · exact hal i hi (by omega) z hz
                conv => whnf
                (refine And.intro (And.intro (by with_unfolding_all rfl) (by intro q h; cases h)) ?_; refine And.intro ?_ (And.intro ?_ ?_) <;> (conv => whnf) <;> (repeat' (first | exact True.intro | (with_reducible exact rfl) | exact (rfl : List.replicate 0 PV.bad = []) | ((with_reducible refine And.intro ?_ ?_) <;> (first | (with_reducible exact wkV_same _ rfl) | exact wkV_pt rfl rfl | exact wkV_ow rfl rfl rfl | (refine wkV_ow rfl rfl ?_) | (refine wkV_sc (congrArg (Value.int .i64) ?_)) | (refine wkV_sc (congrArg Value.bool ?_)) | exact wkV_ls rfl | ((refine wkV_cl ?_); conv => whnf) | ((refine wkV_tu ?_); conv => whnf) | ((refine wkV_ag ?_); conv => whnf) | (conv => whnf))))))
                all_goals first | (rw [wrap_id (by omega) (by omega)]; omega) | rfl
              · rw [decide_eq_false hn] at c2
                have hn2 : ¬ (l[r.hard.base.toNat + j]'hkl).nrm = y.nrm := fun e => hn e.symm
                exfalso
                have := mrgBad_t hkl (by rw [e2]; exact he) (by rw [e2]; omega) hn2
                rw [this] at hbad; cases hbad
            · have hst := stop (.inr (.inr (by (try simp only [List.length_map] at h); omega)))
              clear h
              ((first | (with_reducible refine split_dec (fun h => ?_) (fun h => ?_)) | (with_reducible refine split_beq (fun h => ?_) (fun h => ?_)) | (with_reducible refine split_bne (fun h => ?_) (fun h => ?_)) | (with_reducible refine split_not (fun h => ?_) (fun h => ?_)) | (with_reducible refine split_beqS (fun h => ?_) (fun h => ?_)) | (with_reducible refine split_intro (fun h => ?_) (fun h => ?_))) <;> conv => whnf)
              · exact exit_plain rfl rfl
              · exfalso; simp only [List.length_map] at *; omega
          · have hst := stop (.inr (.inl h))
            clear h
            ((first | (with_reducible refine split_dec (fun h => ?_) (fun h => ?_)) | (with_reducible refine split_beq (fun h => ?_) (fun h => ?_)) | (with_reducible refine split_bne (fun h => ?_) (fun h => ?_)) | (with_reducible refine split_not (fun h => ?_) (fun h => ?_)) | (with_reducible refine split_beqS (fun h => ?_) (fun h => ?_)) | (with_reducible refine split_intro (fun h => ?_) (fun h => ?_))) <;> conv => whnf)
            · exact exit_plain rfl rfl
            · exfalso; simp only [List.length_map] at *; omega
        · have hst := stop (.inl h)
          clear h
          ((first | (with_reducible refine split_dec (fun h => ?_) (fun h => ?_)) | (with_reducible refine split_beq (fun h => ?_) (fun h => ?_)) | (with_reducible refine split_bne (fun h => ?_) (fun h => ?_)) | (with_reducible refine split_not (fun h => ?_) (fun h => ?_)) | (with_reducible refine split_beqS (fun h => ?_) (fun h => ?_)) | (with_reducible refine split_intro (fun h => ?_) (fun h => ?_))) <;> conv => whnf)
          · exact exit_plain rfl rfl
          · exfalso; simp only [List.length_map] at *; omega
      · exfalso
        apply hE
        unfold mrgE
        rw [if_pos hB, hbad, if_neg (by decide), if_neg hb]
  · have E : mrgE l r = 6 := by unfold mrgE; rw [if_neg hB]
    simp only [Bool.not_eq_true] at hB
    rw [hB] at ch
    rw [E]
    refine spec_of_body mixed Try.func141 rfl (by kernel_rfl) (by kernel_rfl) ?_; conv => whnf
    ((try ((refine Exists.intro none ?_); (conv => whnf))); first | ((with_reducible refine call_by (ch) ?_); conv => whnf))
    exact exit_plain rfl rfl
set_option maxHeartbeats 8000000 in
theorem c_rMergeOk (l : List Ent) (hl : l.length ≤ 4294967) (r : Rft) (s : r.small) (hl2 : r.hard.log.length ≤ 4294967) (hc : isI r.commit) (hE : mrgE l r = 0) :
    Ctr Try.prog 141 [.sl 16 (l.map Ent.enc), .ag r.enc] (.tu [.sl 16 ((mrgO l r (mrgJ l r)).map Ent.enc), iv 0]) [] := by
  have ch := c_logged r
  obtain ⟨hB, hbad, hb⟩ := mrgE_ok hE
  rw [hB] at ch
  have hb0 := lkB_iff.1 hB
  have hcI := hc
  have w0 : IntKind.i64.wrap (r.hard.base + 1) = r.hard.base + 1 := wrap_id (by omega) (by omega)
  have w3 : IntKind.i64.wrap (r.hard.base + ((r.hard.log.map Ent.enc).length : Int)) = r.hard.base + r.hard.log.length := by rw [List.length_map, wrap_id (by omega) (by omega)]
  have w4 : IntKind.i64.wrap (((l.map Ent.enc).length : Int) + 1) = (l.length : Int) + 1 := by rw [List.length_map, wrap_id (by omega) (by omega)]
  refine spec_of_body mixed Try.func141 rfl (by kernel_rfl) (by kernel_rfl) ?_; conv => whnf
  ((try ((refine Exists.intro none ?_); (conv => whnf))); first | ((with_reducible refine call_by (ch) ?_); conv => whnf))
  rw [w0]
  refine tri_for0 mixed (by kernel_rfl) (fun j : Nat => ((j ≤ r.hard.log.length ∧ (r.hard.base + j ≤ l.length ∨ j = 0)) ∧ (r.hard.base + j ≤ r.commit ∨ j = 0)) ∧ ∀ i (hi : i < l.length), (i : Int) < r.hard.base + j → ∀ y, entAt r.hard ((i : Int) + 1) = some y → (l[i]'hi).nrm = y.nrm) (fun j => [(6, iv (r.hard.base + 1 + (j : Int)))]) [] (fun j => r.hard.log.length + 1 - j) 0 ⟨⟨⟨Nat.zero_le _, .inr rfl⟩, .inr rfl⟩, fun i _ h y hy => absurd (entAt_inH hy).1 (by omega)⟩ ?_ ?_
  · conv => whnf
    (refine And.intro (And.intro (by with_unfolding_all rfl) (by intro q h; cases h)) ?_; refine And.intro ?_ (And.intro ?_ ?_) <;> (conv => whnf) <;> (repeat' (first | exact True.intro | (with_reducible exact rfl) | exact (rfl : List.replicate 0 PV.bad = []) | ((with_reducible refine And.intro ?_ ?_) <;> (first | (with_reducible exact wkV_same _ rfl) | exact wkV_pt rfl rfl | exact wkV_ow rfl rfl rfl | (refine wkV_ow rfl rfl ?_) | (refine wkV_sc (congrArg (Value.int .i64) ?_)) | (refine wkV_sc (congrArg Value.bool ?_)) | exact wkV_ls rfl | ((refine wkV_cl ?_); conv => whnf) | ((refine wkV_tu ?_); conv => whnf) | ((refine wkV_ag ?_); conv => whnf) | (conv => whnf))))))
    all_goals first | rfl | omega
  rintro j ⟨⟨⟨hj, hj2⟩, hj3⟩, hal⟩
  conv => whnf
  have stop : (¬ (r.hard.base + 1 + (j : Int) ≤ r.hard.base + r.hard.log.length) ∨ ¬ (r.hard.base + 1 + (j : Int) ≤ r.commit) ∨ ¬ (r.hard.base + 1 + (j : Int) ≤ l.length)) → mrgBad l r = false := fun hs => mrgBad_f (fun i hi y hy hc => hal i hi (by have := entAt_inH hy; omega) y hy)
  rw [w3]
  ((first | (with_reducible refine split_dec (fun h => ?_) (fun h => ?_)) | (with_reducible refine split_beq (fun h => ?_) (fun h => ?_)) | (with_reducible refine split_bne (fun h => ?_) (fun h => ?_)) | (with_reducible refine split_not (fun h => ?_) (fun h => ?_)) | (with_reducible refine split_beqS (fun h => ?_) (fun h => ?_)) | (with_reducible refine split_intro (fun h => ?_) (fun h => ?_))) <;> conv => whnf)
  · have q1 := h
    clear h
    ((first | (with_reducible refine split_dec (fun h => ?_) (fun h => ?_)) | (with_reducible refine split_beq (fun h => ?_) (fun h => ?_)) | (with_reducible refine split_bne (fun h => ?_) (fun h => ?_)) | (with_reducible refine split_not (fun h => ?_) (fun h => ?_)) | (with_reducible refine split_beqS (fun h => ?_) (fun h => ?_)) | (with_reducible refine split_intro (fun h => ?_) (fun h => ?_))) <;> conv => whnf)
    · have q2 := h
      clear h
      ((first | (with_reducible refine split_dec (fun h => ?_) (fun h => ?_)) | (with_reducible refine split_beq (fun h => ?_) (fun h => ?_)) | (with_reducible refine split_bne (fun h => ?_) (fun h => ?_)) | (with_reducible refine split_not (fun h => ?_) (fun h => ?_)) | (with_reducible refine split_beqS (fun h => ?_) (fun h => ?_)) | (with_reducible refine split_intro (fun h => ?_) (fun h => ?_))) <;> conv => whnf)
      · have q3 := h
        clear h
        have q3 : r.hard.base + 1 + (j : Int) ≤ l.length := by (try simp only [List.length_map] at q3); omega
        have hjl : j < r.hard.log.length := by omega
        have hkl : r.hard.base.toNat + j < l.length := by omega
        have he : entAt r.hard (r.hard.base + 1 + (j : Int)) = some (r.hard.log[j]'hjl) := by rw [entAt_nat (m := j) rfl, List.getElem?_eq_getElem hjl]
        have c1 := c_rAt r.hard s.len hb0.1 (by omega) (r.hard.base + 1 + (j : Int)) (by unfold isI; omega)
        rw [he] at c1
        simp only [Option.getD_some, Option.isSome_some] at c1
        generalize hy : r.hard.log[j]'hjl = y at *
        have e1 : IntKind.i64.wrap (r.hard.base + 1 + (j : Int) - 1) = ((r.hard.base.toNat + j : Nat) : Int) := by rw [wrap_id (by omega) (by omega)]; omega
        have e2 : ((r.hard.base.toNat + j : Nat) : Int) + 1 = r.hard.base + 1 + (j : Int) := by omega
        ((try ((refine Exists.intro none ?_); (conv => whnf))); first | ((with_reducible refine call_by (c1) ?_); conv => whnf))
        rw [e1]
        (first | ((with_reducible refine And.intro (by omega) (Exists.intro _ (And.intro (row_at hkl) ?_))); conv => whnf))
        have c2 := c_kEntry y (l[r.hard.base.toNat + j]'hkl)
        by_cases hn : y.nrm = (l[r.hard.base.toNat + j]'hkl).nrm
        · rw [decide_eq_true hn] at c2
          ((try ((refine Exists.intro none ?_); (conv => whnf))); first | ((with_reducible refine call_by (c2) ?_); conv => whnf))
          refine ⟨j + 1, ⟨⟨⟨⟨by omega, .inl (by omega)⟩, .inl (by omega)⟩, ?_⟩, by omega⟩, ?_⟩
          · intro i hi hik z hz
            by_cases ei : i = r.hard.base.toNat + j
            · subst ei
              rw [e2, he] at hz
              injection hz with hz
              rw [← hz]; exact hn.symm
            · exact hal i hi (by omega) z hz
          conv => whnf
          (refine And.intro (And.intro (by with_unfolding_all rfl) (by intro q h; cases h)) ?_; refine And.intro ?_ (And.intro ?_ ?_) <;> (conv => whnf) <;> (repeat' (first | exact True.intro | (with_reducible exact rfl) | exact (rfl : List.replicate 0 PV.bad = []) | ((with_reducible refine And.intro ?_ ?_) <;> (first | (with_reducible exact wkV_same _ rfl) | exact wkV_pt rfl rfl | exact wkV_ow rfl rfl rfl | (refine wkV_ow rfl rfl ?_) | (refine wkV_sc (congrArg (Value.int .i64) ?_)) | (refine wkV_sc (congrArg Value.bool ?_)) | exact wkV_ls rfl | ((refine wkV_cl ?_); conv => whnf) | ((refine wkV_tu ?_); conv => whnf) | ((refine wkV_ag ?_); conv => whnf) | (conv => whnf))))))
          all_goals first | (rw [wrap_id (by omega) (by omega)]; omega) | rfl
        · rw [decide_eq_false hn] at c2
          have hn2 : ¬ (l[r.hard.base.toNat + j]'hkl).nrm = y.nrm := fun e => hn e.symm
          exfalso
          have := mrgBad_t hkl (by rw [e2]; exact he) (by rw [e2]; omega) hn2
          rw [this] at hbad; cases hbad
      · have hst := stop (.inr (.inr (by (try simp only [List.length_map] at h); omega)))
        clear h
        ((first | (with_reducible refine split_dec (fun h => ?_) (fun h => ?_)) | (with_reducible refine split_beq (fun h => ?_) (fun h => ?_)) | (with_reducible refine split_bne (fun h => ?_) (fun h => ?_)) | (with_reducible refine split_not (fun h => ?_) (fun h => ?_)) | (with_reducible refine split_beqS (fun h => ?_) (fun h => ?_)) | (with_reducible refine split_intro (fun h => ?_) (fun h => ?_))) <;> conv => whnf)
        · exfalso; simp only [List.length_map] at *; omega
        clear h
        ((try ((refine Exists.intro none ?_); (conv => whnf))); first | ((with_reducible refine call_by (c_TwinEntries l (by omega)) ?_); conv => whnf))
        (refine Exists.intro _ (And.intro rfl (And.intro (by intro q hq; first | (cases hq; done) | (simp only [List.mem_cons, List.not_mem_nil, or_false] at hq; rcases hq with rfl | rfl <;> (simp only [List.length_cons, List.length_nil]; omega)) | (simp only [List.mem_cons, List.not_mem_nil, or_false] at hq; subst hq; simp only [List.length_cons, List.length_nil]; omega)) (And.intro (by intro i hi; simp only [List.length_cons, List.length_nil, Nat.lt_one_iff, Nat.zero_add] at hi; subst hi; rfl) ?_))); conv => whnf)
        rw [w4]
        refine tri_forO mixed (by kernel_rfl) (fun j : Nat => j ≤ mrgJ l r) (fun j => [(9, .ow 1000 0 ((mrgO l r j).map Ent.enc).length), (10, iv ((l.length : Int) + 1 + j)), (66, .bad)]) (fun _ => [(3, r.enc)]) (fun j => [(1000, some (false, 16, (mrgO l r j).map Ent.enc))]) [(1000, 1056)] (fun j => mrgJ l r - j) 0 (Nat.zero_le _) ?_ ?_
        · rw [mrgO_0]
          conv => whnf
          (refine And.intro (And.intro (by with_unfolding_all rfl) (by intro q h; cases h)) ?_; refine And.intro ?_ (And.intro ?_ ?_) <;> (conv => whnf) <;> (repeat' (first | exact True.intro | (with_reducible exact rfl) | exact (rfl : List.replicate 0 PV.bad = []) | ((with_reducible refine And.intro ?_ ?_) <;> (first | (with_reducible exact wkV_same _ rfl) | exact wkV_pt rfl rfl | exact wkV_ow rfl rfl rfl | (refine wkV_ow rfl rfl ?_) | (refine wkV_sc (congrArg (Value.int .i64) ?_)) | (refine wkV_sc (congrArg Value.bool ?_)) | exact wkV_ls rfl | ((refine wkV_cl ?_); conv => whnf) | ((refine wkV_tu ?_); conv => whnf) | ((refine wkV_ag ?_); conv => whnf) | (conv => whnf))))))
          all_goals first | rfl | omega
        intro j hj
        have hol := mrgO_at hj
        have hJd : mrgJ l r = min (r.hard.log.length - ((l.length : Int) - r.hard.base).toNat) (r.commit - l.length).toNat := rfl
        conv => whnf
        have n1 : ((mrgO l r j).map Ent.enc).length ≤ 4294967 * 3 := by rw [List.length_map, hol]; omega
        have he := entAt_nat (h := r.hard) (j := (l.length : Int) + 1 + j) (m := ((l.length : Int) - r.hard.base).toNat + j) (by omega)
        have c1 := c_rAt r.hard s.len hb0.1 (by omega) ((l.length : Int) + 1 + j) (by unfold isI; omega)
        have fin : ∀ c : CSt, c.ob = [(1000, some (false, 16, (mrgO l r j).map Ent.enc))] → j = mrgJ l r → ExitOk c (.tu [.ow 1000 0 ((mrgO l r j).map Ent.enc).length, iv 0]) (.tu [.sl 16 ((mrgO l r (mrgJ l r)).map Ent.enc), iv 0]) [] := fun c hc ej => by
          rw [← ej]
          refine exit_fz [(1000, false, 16, (mrgO l r j).map Ent.enc)] (fun q hq => by rw [List.mem_singleton.1 hq, hc]; rfl) (wkV_tu ⟨wkV_fz (b := false) (List.Mem.head _) rfl, wkV_same _ rfl, rfl⟩)
        ((first | (with_reducible refine split_dec (fun h => ?_) (fun h => ?_)) | (with_reducible refine split_beq (fun h => ?_) (fun h => ?_)) | (with_reducible refine split_bne (fun h => ?_) (fun h => ?_)) | (with_reducible refine split_not (fun h => ?_) (fun h => ?_)) | (with_reducible refine split_beqS (fun h => ?_) (fun h => ?_)) | (with_reducible refine split_intro (fun h => ?_) (fun h => ?_))) <;> conv => whnf)
        · have q1 := h
          clear h
          by_cases hd : ((l.length : Int) - r.hard.base).toNat + j < r.hard.log.length
          · rw [List.getElem?_eq_getElem hd] at he
            have s1 := mrgO_succ hd
            rw [he] at c1
            simp only [Option.getD_some, Option.isSome_some] at c1
            generalize hg : r.hard.log[((l.length : Int) - r.hard.base).toNat + j]'hd = g at *
            ((try ((refine Exists.intro none ?_); (conv => whnf))); first | ((with_reducible refine call_by (c1) ?_); conv => whnf))
            (refine And.intro rfl ?_; (conv => whnf); refine And.intro (And.intro (And.intro (by kernel_rfl) (And.intro (by simp) (And.intro (small (by simp only [List.length_cons, List.length_nil]; omega) (by kernel_rfl)) (And.intro (smallM (by simp only [List.length_cons, List.length_nil]; omega)) (by intro r hr; rw [List.mem_singleton.1 hr]; rfl))))) (And.intro (by decide) rfl)) ?_; conv => whnf)
            refine ⟨j + 1, [(1000, 1408)], ⟨by omega, by omega⟩, ?_⟩
            rw [s1]
            conv => whnf
            (refine And.intro (And.intro (by with_unfolding_all rfl) (by intro q h; cases h)) ?_; refine And.intro ?_ (And.intro ?_ ?_) <;> (conv => whnf) <;> (repeat' (first | exact True.intro | (with_reducible exact rfl) | exact (rfl : List.replicate 0 PV.bad = []) | ((with_reducible refine And.intro ?_ ?_) <;> (first | (with_reducible exact wkV_same _ rfl) | exact wkV_pt rfl rfl | exact wkV_ow rfl rfl rfl | (refine wkV_ow rfl rfl ?_) | (refine wkV_sc (congrArg (Value.int .i64) ?_)) | (refine wkV_sc (congrArg Value.bool ?_)) | exact wkV_ls rfl | ((refine wkV_cl ?_); conv => whnf) | ((refine wkV_tu ?_); conv => whnf) | ((refine wkV_ag ?_); conv => whnf) | (conv => whnf))))))
            all_goals first | (rw [wrap_id (by omega) (by omega)]; omega) | (refine obj_eq (by kernel_rfl) ?_; exact app1_map rfl _ rfl) | (simp only [List.map_append, List.length_append]; rfl) | rfl
          · rw [List.getElem?_eq_none (by omega)] at he
            rw [he] at c1
            simp only [Option.getD_none, Option.isSome_none] at c1
            ((try ((refine Exists.intro none ?_); (conv => whnf))); first | ((with_reducible refine call_by (c1) ?_); conv => whnf))
            exact fin _ rfl (by omega)
        · exact fin _ rfl (by omega)
    · have hst := stop (.inr (.inl h))
      clear h
      ((first | (with_reducible refine split_dec (fun h => ?_) (fun h => ?_)) | (with_reducible refine split_beq (fun h => ?_) (fun h => ?_)) | (with_reducible refine split_bne (fun h => ?_) (fun h => ?_)) | (with_reducible refine split_not (fun h => ?_) (fun h => ?_)) | (with_reducible refine split_beqS (fun h => ?_) (fun h => ?_)) | (with_reducible refine split_intro (fun h => ?_) (fun h => ?_))) <;> conv => whnf)
      · exfalso; simp only [List.length_map] at *; omega
      clear h
      ((try ((refine Exists.intro none ?_); (conv => whnf))); first | ((with_reducible refine call_by (c_TwinEntries l (by omega)) ?_); conv => whnf))
      (refine Exists.intro _ (And.intro rfl (And.intro (by intro q hq; first | (cases hq; done) | (simp only [List.mem_cons, List.not_mem_nil, or_false] at hq; rcases hq with rfl | rfl <;> (simp only [List.length_cons, List.length_nil]; omega)) | (simp only [List.mem_cons, List.not_mem_nil, or_false] at hq; subst hq; simp only [List.length_cons, List.length_nil]; omega)) (And.intro (by intro i hi; simp only [List.length_cons, List.length_nil, Nat.lt_one_iff, Nat.zero_add] at hi; subst hi; rfl) ?_))); conv => whnf)
      rw [w4]
      refine tri_forO mixed (by kernel_rfl) (fun j : Nat => j ≤ mrgJ l r) (fun j => [(9, .ow 1000 0 ((mrgO l r j).map Ent.enc).length), (10, iv ((l.length : Int) + 1 + j)), (66, .bad)]) (fun _ => [(3, r.enc)]) (fun j => [(1000, some (false, 16, (mrgO l r j).map Ent.enc))]) [(1000, 1056)] (fun j => mrgJ l r - j) 0 (Nat.zero_le _) ?_ ?_
      · rw [mrgO_0]
        conv => whnf
        (refine And.intro (And.intro (by with_unfolding_all rfl) (by intro q h; cases h)) ?_; refine And.intro ?_ (And.intro ?_ ?_) <;> (conv => whnf) <;> (repeat' (first | exact True.intro | (with_reducible exact rfl) | exact (rfl : List.replicate 0 PV.bad = []) | ((with_reducible refine And.intro ?_ ?_) <;> (first | (with_reducible exact wkV_same _ rfl) | exact wkV_pt rfl rfl | exact wkV_ow rfl rfl rfl | (refine wkV_ow rfl rfl ?_) | (refine wkV_sc (congrArg (Value.int .i64) ?_)) | (refine wkV_sc (congrArg Value.bool ?_)) | exact wkV_ls rfl | ((refine wkV_cl ?_); conv => whnf) | ((refine wkV_tu ?_); conv => whnf) | ((refine wkV_ag ?_); conv => whnf) | (conv => whnf))))))
        all_goals first | rfl | omega
      intro j hj
      have hol := mrgO_at hj
      have hJd : mrgJ l r = min (r.hard.log.length - ((l.length : Int) - r.hard.base).toNat) (r.commit - l.length).toNat := rfl
      conv => whnf
      have n1 : ((mrgO l r j).map Ent.enc).length ≤ 4294967 * 3 := by rw [List.length_map, hol]; omega
      have he := entAt_nat (h := r.hard) (j := (l.length : Int) + 1 + j) (m := ((l.length : Int) - r.hard.base).toNat + j) (by omega)
      have c1 := c_rAt r.hard s.len hb0.1 (by omega) ((l.length : Int) + 1 + j) (by unfold isI; omega)
      have fin : ∀ c : CSt, c.ob = [(1000, some (false, 16, (mrgO l r j).map Ent.enc))] → j = mrgJ l r → ExitOk c (.tu [.ow 1000 0 ((mrgO l r j).map Ent.enc).length, iv 0]) (.tu [.sl 16 ((mrgO l r (mrgJ l r)).map Ent.enc), iv 0]) [] := fun c hc ej => by
        rw [← ej]
        refine exit_fz [(1000, false, 16, (mrgO l r j).map Ent.enc)] (fun q hq => by rw [List.mem_singleton.1 hq, hc]; rfl) (wkV_tu ⟨wkV_fz (b := false) (List.Mem.head _) rfl, wkV_same _ rfl, rfl⟩)
      ((first | (with_reducible refine split_dec (fun h => ?_) (fun h => ?_)) | (with_reducible refine split_beq (fun h => ?_) (fun h => ?_)) | (with_reducible refine split_bne (fun h => ?_) (fun h => ?_)) | (with_reducible refine split_not (fun h => ?_) (fun h => ?_)) | (with_reducible refine split_beqS (fun h => ?_) (fun h => ?_)) | (with_reducible refine split_intro (fun h => ?_) (fun h => ?_))) <;> conv => whnf)
      · have q1 := h
        clear h
        by_cases hd : ((l.length : Int) - r.hard.base).toNat + j < r.hard.log.length
        · rw [List.getElem?_eq_getElem hd] at he
          have s1 := mrgO_succ hd
          rw [he] at c1
          simp only [Option.getD_some, Option.isSome_some] at c1
          generalize hg : r.hard.log[((l.length : Int) - r.hard.base).toNat + j]'hd = g at *
          ((try ((refine Exists.intro none ?_); (conv => whnf))); first | ((with_reducible refine call_by (c1) ?_); conv => whnf))
          (refine And.intro rfl ?_; (conv => whnf); refine And.intro (And.intro (And.intro (by kernel_rfl) (And.intro (by simp) (And.intro (small (by simp only [List.length_cons, List.length_nil]; omega) (by kernel_rfl)) (And.intro (smallM (by simp only [List.length_cons, List.length_nil]; omega)) (by intro r hr; rw [List.mem_singleton.1 hr]; rfl))))) (And.intro (by decide) rfl)) ?_; conv => whnf)
          refine ⟨j + 1, [(1000, 1408)], ⟨by omega, by omega⟩, ?_⟩
          rw [s1]
          conv => whnf
          (refine And.intro (And.intro (by with_unfolding_all rfl) (by intro q h; cases h)) ?_; refine And.intro ?_ (And.intro ?_ ?_) <;> (conv => whnf) <;> (repeat' (first | exact True.intro | (with_reducible exact rfl) | exact (rfl : List.replicate 0 PV.bad = []) | ((with_reducible refine And.intro ?_ ?_) <;> (first | (with_reducible exact wkV_same _ rfl) | exact wkV_pt rfl rfl | exact wkV_ow rfl rfl rfl | (refine wkV_ow rfl rfl ?_) | (refine wkV_sc (congrArg (Value.int .i64) ?_)) | (refine wkV_sc (congrArg Value.bool ?_)) | exact wkV_ls rfl | ((refine wkV_cl ?_); conv => whnf) | ((refine wkV_tu ?_); conv => whnf) | ((refine wkV_ag ?_); conv => whnf) | (conv => whnf))))))
          all_goals first | (rw [wrap_id (by omega) (by omega)]; omega) | (refine obj_eq (by kernel_rfl) ?_; exact app1_map rfl _ rfl) | (simp only [List.map_append, List.length_append]; rfl) | rfl
        · rw [List.getElem?_eq_none (by omega)] at he
          rw [he] at c1
          simp only [Option.getD_none, Option.isSome_none] at c1
          ((try ((refine Exists.intro none ?_); (conv => whnf))); first | ((with_reducible refine call_by (c1) ?_); conv => whnf))
          exact fin _ rfl (by omega)
      · exact fin _ rfl (by omega)
  · have hst := stop (.inl h)
    clear h
    ((first | (with_reducible refine split_dec (fun h => ?_) (fun h => ?_)) | (with_reducible refine split_beq (fun h => ?_) (fun h => ?_)) | (with_reducible refine split_bne (fun h => ?_) (fun h => ?_)) | (with_reducible refine split_not (fun h => ?_) (fun h => ?_)) | (with_reducible refine split_beqS (fun h => ?_) (fun h => ?_)) | (with_reducible refine split_intro (fun h => ?_) (fun h => ?_))) <;> conv => whnf)
    · exfalso; simp only [List.length_map] at *; omega
    clear h
    ((try ((refine Exists.intro none ?_); (conv => whnf))); first | ((with_reducible refine call_by (c_TwinEntries l (by omega)) ?_); conv => whnf))
    (refine Exists.intro _ (And.intro rfl (And.intro (by intro q hq; first | (cases hq; done) | (simp only [List.mem_cons, List.not_mem_nil, or_false] at hq; rcases hq with rfl | rfl <;> (simp only [List.length_cons, List.length_nil]; omega)) | (simp only [List.mem_cons, List.not_mem_nil, or_false] at hq; subst hq; simp only [List.length_cons, List.length_nil]; omega)) (And.intro (by intro i hi; simp only [List.length_cons, List.length_nil, Nat.lt_one_iff, Nat.zero_add] at hi; subst hi; rfl) ?_))); conv => whnf)
    rw [w4]
    refine tri_forO mixed (by kernel_rfl) (fun j : Nat => j ≤ mrgJ l r) (fun j => [(9, .ow 1000 0 ((mrgO l r j).map Ent.enc).length), (10, iv ((l.length : Int) + 1 + j)), (66, .bad)]) (fun _ => [(3, r.enc)]) (fun j => [(1000, some (false, 16, (mrgO l r j).map Ent.enc))]) [(1000, 1056)] (fun j => mrgJ l r - j) 0 (Nat.zero_le _) ?_ ?_
    · rw [mrgO_0]
      conv => whnf
      (refine And.intro (And.intro (by with_unfolding_all rfl) (by intro q h; cases h)) ?_; refine And.intro ?_ (And.intro ?_ ?_) <;> (conv => whnf) <;> (repeat' (first | exact True.intro | (with_reducible exact rfl) | exact (rfl : List.replicate 0 PV.bad = []) | ((with_reducible refine And.intro ?_ ?_) <;> (first | (with_reducible exact wkV_same _ rfl) | exact wkV_pt rfl rfl | exact wkV_ow rfl rfl rfl | (refine wkV_ow rfl rfl ?_) | (refine wkV_sc (congrArg (Value.int .i64) ?_)) | (refine wkV_sc (congrArg Value.bool ?_)) | exact wkV_ls rfl | ((refine wkV_cl ?_); conv => whnf) | ((refine wkV_tu ?_); conv => whnf) | ((refine wkV_ag ?_); conv => whnf) | (conv => whnf))))))
      all_goals first | rfl | omega
    intro j hj
    have hol := mrgO_at hj
    have hJd : mrgJ l r = min (r.hard.log.length - ((l.length : Int) - r.hard.base).toNat) (r.commit - l.length).toNat := rfl
    conv => whnf
    have n1 : ((mrgO l r j).map Ent.enc).length ≤ 4294967 * 3 := by rw [List.length_map, hol]; omega
    have he := entAt_nat (h := r.hard) (j := (l.length : Int) + 1 + j) (m := ((l.length : Int) - r.hard.base).toNat + j) (by omega)
    have c1 := c_rAt r.hard s.len hb0.1 (by omega) ((l.length : Int) + 1 + j) (by unfold isI; omega)
    have fin : ∀ c : CSt, c.ob = [(1000, some (false, 16, (mrgO l r j).map Ent.enc))] → j = mrgJ l r → ExitOk c (.tu [.ow 1000 0 ((mrgO l r j).map Ent.enc).length, iv 0]) (.tu [.sl 16 ((mrgO l r (mrgJ l r)).map Ent.enc), iv 0]) [] := fun c hc ej => by
      rw [← ej]
      refine exit_fz [(1000, false, 16, (mrgO l r j).map Ent.enc)] (fun q hq => by rw [List.mem_singleton.1 hq, hc]; rfl) (wkV_tu ⟨wkV_fz (b := false) (List.Mem.head _) rfl, wkV_same _ rfl, rfl⟩)
    ((first | (with_reducible refine split_dec (fun h => ?_) (fun h => ?_)) | (with_reducible refine split_beq (fun h => ?_) (fun h => ?_)) | (with_reducible refine split_bne (fun h => ?_) (fun h => ?_)) | (with_reducible refine split_not (fun h => ?_) (fun h => ?_)) | (with_reducible refine split_beqS (fun h => ?_) (fun h => ?_)) | (with_reducible refine split_intro (fun h => ?_) (fun h => ?_))) <;> conv => whnf)
    · have q1 := h
      clear h
      by_cases hd : ((l.length : Int) - r.hard.base).toNat + j < r.hard.log.length
      · rw [List.getElem?_eq_getElem hd] at he
        have s1 := mrgO_succ hd
        rw [he] at c1
        simp only [Option.getD_some, Option.isSome_some] at c1
        generalize hg : r.hard.log[((l.length : Int) - r.hard.base).toNat + j]'hd = g at *
        ((try ((refine Exists.intro none ?_); (conv => whnf))); first | ((with_reducible refine call_by (c1) ?_); conv => whnf))
        (refine And.intro rfl ?_; (conv => whnf); refine And.intro (And.intro (And.intro (by kernel_rfl) (And.intro (by simp) (And.intro (small (by simp only [List.length_cons, List.length_nil]; omega) (by kernel_rfl)) (And.intro (smallM (by simp only [List.length_cons, List.length_nil]; omega)) (by intro r hr; rw [List.mem_singleton.1 hr]; rfl))))) (And.intro (by decide) rfl)) ?_; conv => whnf)
        refine ⟨j + 1, [(1000, 1408)], ⟨by omega, by omega⟩, ?_⟩
        rw [s1]
        conv => whnf
        (refine And.intro (And.intro (by with_unfolding_all rfl) (by intro q h; cases h)) ?_; refine And.intro ?_ (And.intro ?_ ?_) <;> (conv => whnf) <;> (repeat' (first | exact True.intro | (with_reducible exact rfl) | exact (rfl : List.replicate 0 PV.bad = []) | ((with_reducible refine And.intro ?_ ?_) <;> (first | (with_reducible exact wkV_same _ rfl) | exact wkV_pt rfl rfl | exact wkV_ow rfl rfl rfl | (refine wkV_ow rfl rfl ?_) | (refine wkV_sc (congrArg (Value.int .i64) ?_)) | (refine wkV_sc (congrArg Value.bool ?_)) | exact wkV_ls rfl | ((refine wkV_cl ?_); conv => whnf) | ((refine wkV_tu ?_); conv => whnf) | ((refine wkV_ag ?_); conv => whnf) | (conv => whnf))))))
        all_goals first | (rw [wrap_id (by omega) (by omega)]; omega) | (refine obj_eq (by kernel_rfl) ?_; exact app1_map rfl _ rfl) | (simp only [List.map_append, List.length_append]; rfl) | rfl
      · rw [List.getElem?_eq_none (by omega)] at he
        rw [he] at c1
        simp only [Option.getD_none, Option.isSome_none] at c1
        ((try ((refine Exists.intro none ?_); (conv => whnf))); first | ((with_reducible refine call_by (c1) ?_); conv => whnf))
        exact fin _ rfl (by omega)
    · exact fin _ rfl (by omega)
end Go.Proofs
