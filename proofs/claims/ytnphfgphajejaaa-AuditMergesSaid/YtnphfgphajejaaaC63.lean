/- Contracts of functions: what is known to be committed, merged. -/
import Derived.Test.YtnphfgphajejaaaC24
import Derived.Test.YtnphfgphajejaaaC41
import Derived.Test.YtnphfgphajejaaaC51
set_option linter.unusedSimpArgs false
set_option linter.unusedVariables false
namespace Go.Proofs
open Go.Pv
set_option maxRecDepth 100000

noncomputable def mrgBad (l : List Ent) (r : Rft) : Bool := dec (∃ k, ∃ hk : k < l.length, ∃ y, entAt r.hard ((k : Int) + 1) = some y ∧ (k : Int) + 1 ≤ r.commit ∧ ¬ (l[k]'hk).nrm = y.nrm)
theorem mrgBad_t {l : List Ent} {r : Rft} {k : Nat} (hk : k < l.length) {y : Ent} (he : entAt r.hard ((k : Int) + 1) = some y) (hc : (k : Int) + 1 ≤ r.commit) (hn : ¬ (l[k]'hk).nrm = y.nrm) : mrgBad l r = true := dec_true ⟨k, hk, y, he, hc, hn⟩
theorem mrgBad_f {l : List Ent} {r : Rft} (h : ∀ k (hk : k < l.length) y, entAt r.hard ((k : Int) + 1) = some y → (k : Int) + 1 ≤ r.commit → (l[k]'hk).nrm = y.nrm) : mrgBad l r = false :=
  dec_false fun ⟨k, hk, y, he, hc, hn⟩ => hn (h k hk y he hc)
def mrgJ (l : List Ent) (r : Rft) : Nat := min (r.hard.log.length - ((l.length : Int) - r.hard.base).toNat) (r.commit - l.length).toNat
def mrgO (l : List Ent) (r : Rft) (j : Nat) : List Ent := l ++ (r.hard.log.drop ((l.length : Int) - r.hard.base).toNat).take j
noncomputable def mrgE (l : List Ent) (r : Rft) : Int := if lkB r = true then (if mrgBad l r = true then 6 else if (l.length : Int) < r.hard.base then 7 else 0) else 6
theorem mrgO_0 (l : List Ent) (r : Rft) : mrgO l r 0 = l := by unfold mrgO; simp
theorem mrgO_succ {l : List Ent} {r : Rft} {j : Nat} (h : ((l.length : Int) - r.hard.base).toNat + j < r.hard.log.length) : mrgO l r (j + 1) = mrgO l r j ++ [r.hard.log[((l.length : Int) - r.hard.base).toNat + j]'h] := by
  unfold mrgO
  rw [List.take_succ_eq_append_getElem (by rw [List.length_drop]; omega), List.getElem_drop, List.append_assoc]
theorem mrgO_len (l : List Ent) (r : Rft) (j : Nat) : (mrgO l r j).length ≤ l.length + r.hard.log.length := by
  unfold mrgO
  rw [List.length_append, List.length_take, List.length_drop]; omega
theorem mrgO_at {l : List Ent} {r : Rft} {j : Nat} (h : j ≤ mrgJ l r) : (mrgO l r j).length = l.length + j := by
  unfold mrgJ at h
  unfold mrgO
  rw [List.length_append, List.length_take, List.length_drop]; omega

set_option maxHeartbeats 4000000 in
theorem c_MergeBad (l : List Ent) (hl : l.length ≤ 4294967) (r : Rft) (s : r.small) (hl2 : r.hard.log.length ≤ 4294967) (hE : ¬ mrgE l r = 0) :
    Ctr Try.prog 140 [.sl 16 (l.map Ent.enc), .ag r.enc] (.tu [.nl, iv (mrgE l r)]) [] := by
  have ch := c_has r
  by_cases hB : lkB r = true
  · rw [hB] at ch
    have hb0 := lkB_iff.1 hB
    cases hbad : mrgBad l r with
    | true =>
      have E : mrgE l r = 6 := by unfold mrgE; rw [if_pos hB, if_pos hbad]
      rw [E]
      refine spec_of_body mixed Try.func140 rfl (by kernel_rfl) (by kernel_rfl) ?_; conv => whnf
      ((try ((refine Exists.intro none ?_); (conv => whnf))); first | ((with_reducible refine call_by (ch) ?_); conv => whnf))
      refine tri_for0 mixed (by kernel_rfl) (fun k : Nat => k ≤ l.length ∧ ∀ i (hi : i < l.length), i < k → ∀ y, entAt r.hard ((i : Int) + 1) = some y → (i : Int) + 1 ≤ r.commit → (l[i]'hi).nrm = y.nrm) (fun k => [(18, iv k)]) [] (fun k => l.length - k) 0 ⟨Nat.zero_le _, fun i _ h => absurd h (Nat.not_lt_zero i)⟩ ?_ ?_
      · conv => whnf
        (refine And.intro (And.intro (by with_unfolding_all rfl) (by intro q h; cases h)) ?_; refine And.intro ?_ (And.intro ?_ ?_) <;> (conv => whnf) <;> (repeat' (first | exact True.intro | (with_reducible exact rfl) | exact (rfl : List.replicate 0 PV.bad = []) | ((with_reducible refine And.intro ?_ ?_) <;> (first | (with_reducible exact wkV_same _ rfl) | exact wkV_pt rfl rfl | exact wkV_ow rfl rfl rfl | (refine wkV_ow rfl rfl ?_) | (refine wkV_sc (congrArg (Value.int .i64) ?_)) | (refine wkV_sc (congrArg Value.bool ?_)) | exact wkV_ls rfl | ((refine wkV_cl ?_); conv => whnf) | ((refine wkV_tu ?_); conv => whnf) | ((refine wkV_ag ?_); conv => whnf) | (conv => whnf))))))
        all_goals rfl
      rintro k ⟨hk, hal⟩
      conv => whnf
      ((first | (with_reducible refine split_dec (fun h => ?_) (fun h => ?_)) | (with_reducible refine split_beq (fun h => ?_) (fun h => ?_)) | (with_reducible refine split_bne (fun h => ?_) (fun h => ?_)) | (with_reducible refine split_not (fun h => ?_) (fun h => ?_)) | (with_reducible refine split_beqS (fun h => ?_) (fun h => ?_)) | (with_reducible refine split_intro (fun h => ?_) (fun h => ?_))) <;> conv => whnf)
      · simp only [List.length_map] at h
        have hlt : k < l.length := by omega
        clear h
        have e1 : IntKind.i64.wrap ((k : Int) + 1) = (k : Int) + 1 := wrap_id (by omega) (by omega)
        have c1 := c_aEntry r s.len s.base hB ((k : Int) + 1) (by unfold isI; omega)
        have next : (∀ y, entAt r.hard ((k : Int) + 1) = some y → (k : Int) + 1 ≤ r.commit → (l[k]'hlt).nrm = y.nrm) → ∀ i (hi : i < l.length), i < k + 1 → ∀ y, entAt r.hard ((i : Int) + 1) = some y → (i : Int) + 1 ≤ r.commit → (l[i]'hi).nrm = y.nrm := fun hn i hi hik y hy hc => by
          by_cases ei : i = k
          · subst ei; exact hn y hy hc
          · exact hal i hi (by omega) y hy hc
        (first | ((with_reducible refine And.intro (by omega) (Exists.intro _ (And.intro (row_at hlt) ?_))); conv => whnf))
        rw [e1]
        cases he : entAt r.hard ((k : Int) + 1) with
        | none =>
          rw [show entE r ((k : Int) + 1) = ez from by unfold entE; rw [he]; rfl, he] at c1
          simp only [Option.isSome_none] at c1
          ((try ((refine Exists.intro none ?_); (conv => whnf))); first | ((with_reducible refine call_by (c1) ?_); conv => whnf))
          refine ⟨k + 1, ⟨⟨by omega, next (fun y hy _ => by rw [he] at hy; cases hy)⟩, by omega⟩, ?_⟩
          conv => whnf
          (refine And.intro (And.intro (by with_unfolding_all rfl) (by intro q h; cases h)) ?_; refine And.intro ?_ (And.intro ?_ ?_) <;> (conv => whnf) <;> (repeat' (first | exact True.intro | (with_reducible exact rfl) | exact (rfl : List.replicate 0 PV.bad = []) | ((with_reducible refine And.intro ?_ ?_) <;> (first | (with_reducible exact wkV_same _ rfl) | exact wkV_pt rfl rfl | exact wkV_ow rfl rfl rfl | (refine wkV_ow rfl rfl ?_) | (refine wkV_sc (congrArg (Value.int .i64) ?_)) | (refine wkV_sc (congrArg Value.bool ?_)) | exact wkV_ls rfl | ((refine wkV_cl ?_); conv => whnf) | ((refine wkV_tu ?_); conv => whnf) | ((refine wkV_ag ?_); conv => whnf) | (conv => whnf))))))
          all_goals first | exact w1 (by omega) | rfl
        | some y =>
          rw [show entE r ((k : Int) + 1) = y from by unfold entE; rw [he]; rfl, he] at c1
          simp only [Option.isSome_some] at c1
          ((try ((refine Exists.intro none ?_); (conv => whnf))); first | ((with_reducible refine call_by (c1) ?_); conv => whnf))
          rw [e1]
          ((first | (with_reducible refine split_dec (fun h => ?_) (fun h => ?_)) | (with_reducible refine split_beq (fun h => ?_) (fun h => ?_)) | (with_reducible refine split_bne (fun h => ?_) (fun h => ?_)) | (with_reducible refine split_not (fun h => ?_) (fun h => ?_)) | (with_reducible refine split_beqS (fun h => ?_) (fun h => ?_)) | (with_reducible refine split_intro (fun h => ?_) (fun h => ?_))) <;> conv => whnf)
          · have hc := h
            clear h
            have c2 := c_same (l[k]'hlt) y
            by_cases hn : (l[k]'hlt).nrm = y.nrm
            · rw [decide_eq_true hn] at c2
              ((try ((refine Exists.intro none ?_); (conv => whnf))); first | ((with_reducible refine call_by (c2) ?_); conv => whnf))
              refine ⟨k + 1, ⟨⟨by omega, next (fun z hz _ => by rw [he] at hz; injection hz with hz; rw [← hz]; exact hn)⟩, by omega⟩, ?_⟩
              conv => whnf
              (refine And.intro (And.intro (by with_unfolding_all rfl) (by intro q h; cases h)) ?_; refine And.intro ?_ (And.intro ?_ ?_) <;> (conv => whnf) <;> (repeat' (first | exact True.intro | (with_reducible exact rfl) | exact (rfl : List.replicate 0 PV.bad = []) | ((with_reducible refine And.intro ?_ ?_) <;> (first | (with_reducible exact wkV_same _ rfl) | exact wkV_pt rfl rfl | exact wkV_ow rfl rfl rfl | (refine wkV_ow rfl rfl ?_) | (refine wkV_sc (congrArg (Value.int .i64) ?_)) | (refine wkV_sc (congrArg Value.bool ?_)) | exact wkV_ls rfl | ((refine wkV_cl ?_); conv => whnf) | ((refine wkV_tu ?_); conv => whnf) | ((refine wkV_ag ?_); conv => whnf) | (conv => whnf))))))
              all_goals first | exact w1 (by omega) | rfl
            · rw [decide_eq_false hn] at c2
              ((try ((refine Exists.intro none ?_); (conv => whnf))); first | ((with_reducible refine call_by (c2) ?_); conv => whnf))
              exact exit_plain rfl rfl
          · refine ⟨k + 1, ⟨⟨by omega, next (fun _ _ hc => absurd hc (by omega))⟩, by omega⟩, ?_⟩
            conv => whnf
            (refine And.intro (And.intro (by with_unfolding_all rfl) (by intro q h; cases h)) ?_; refine And.intro ?_ (And.intro ?_ ?_) <;> (conv => whnf) <;> (repeat' (first | exact True.intro | (with_reducible exact rfl) | exact (rfl : List.replicate 0 PV.bad = []) | ((with_reducible refine And.intro ?_ ?_) <;> (first | (with_reducible exact wkV_same _ rfl) | exact wkV_pt rfl rfl | exact wkV_ow rfl rfl rfl | (refine wkV_ow rfl rfl ?_) | (refine wkV_sc (congrArg (Value.int .i64) ?_)) | (refine wkV_sc (congrArg Value.bool ?_)) | exact wkV_ls rfl | ((refine wkV_cl ?_); conv => whnf) | ((refine wkV_tu ?_); conv => whnf) | ((refine wkV_ag ?_); conv => whnf) | (conv => whnf))))))
            all_goals first | exact w1 (by omega) | rfl
      · simp only [List.length_map] at h
        have ek : k = l.length := by omega
        subst ek
        clear h
        exfalso
        rw [mrgBad_f (fun i hi y hy hc => hal i hi hi y hy hc)] at hbad; cases hbad
    | false =>
      by_cases hb : (l.length : Int) < r.hard.base
      · have E : mrgE l r = 7 := by unfold mrgE; rw [if_pos hB, hbad, if_neg (by decide), if_pos hb]
        rw [E]
        refine spec_of_body mixed Try.func140 rfl (by kernel_rfl) (by kernel_rfl) ?_; conv => whnf
        ((try ((refine Exists.intro none ?_); (conv => whnf))); first | ((with_reducible refine call_by (ch) ?_); conv => whnf))
        refine tri_for0 mixed (by kernel_rfl) (fun k : Nat => k ≤ l.length ∧ ∀ i (hi : i < l.length), i < k → ∀ y, entAt r.hard ((i : Int) + 1) = some y → (i : Int) + 1 ≤ r.commit → (l[i]'hi).nrm = y.nrm) (fun k => [(18, iv k)]) [] (fun k => l.length - k) 0 ⟨Nat.zero_le _, fun i _ h => absurd h (Nat.not_lt_zero i)⟩ ?_ ?_
        · conv => whnf
          (refine And.intro (And.intro (by with_unfolding_all rfl) (by intro q h; cases h)) ?_; refine And.intro ?_ (And.intro ?_ ?_) <;> (conv => whnf) <;> (repeat' (first | exact True.intro | (with_reducible exact rfl) | exact (rfl : List.replicate 0 PV.bad = []) | ((with_reducible refine And.intro ?_ ?_) <;> (first | (with_reducible exact wkV_same _ rfl) | exact wkV_pt rfl rfl | exact wkV_ow rfl rfl rfl | (refine wkV_ow rfl rfl ?_) | (refine wkV_sc (congrArg (Value.int .i64) ?_)) | (refine wkV_sc (congrArg Value.bool ?_)) | exact wkV_ls rfl | ((refine wkV_cl ?_); conv => whnf) | ((refine wkV_tu ?_); conv => whnf) | ((refine wkV_ag ?_); conv => whnf) | (conv => whnf))))))
          all_goals rfl
        rintro k ⟨hk, hal⟩
        conv => whnf
        ((first | (with_reducible refine split_dec (fun h => ?_) (fun h => ?_)) | (with_reducible refine split_beq (fun h => ?_) (fun h => ?_)) | (with_reducible refine split_bne (fun h => ?_) (fun h => ?_)) | (with_reducible refine split_not (fun h => ?_) (fun h => ?_)) | (with_reducible refine split_beqS (fun h => ?_) (fun h => ?_)) | (with_reducible refine split_intro (fun h => ?_) (fun h => ?_))) <;> conv => whnf)
        · simp only [List.length_map] at h
          have hlt : k < l.length := by omega
          clear h
          have e1 : IntKind.i64.wrap ((k : Int) + 1) = (k : Int) + 1 := wrap_id (by omega) (by omega)
          have c1 := c_aEntry r s.len s.base hB ((k : Int) + 1) (by unfold isI; omega)
          have next : (∀ y, entAt r.hard ((k : Int) + 1) = some y → (k : Int) + 1 ≤ r.commit → (l[k]'hlt).nrm = y.nrm) → ∀ i (hi : i < l.length), i < k + 1 → ∀ y, entAt r.hard ((i : Int) + 1) = some y → (i : Int) + 1 ≤ r.commit → (l[i]'hi).nrm = y.nrm := fun hn i hi hik y hy hc => by
            by_cases ei : i = k
            · subst ei; exact hn y hy hc
            · exact hal i hi (by omega) y hy hc
          (first | ((with_reducible refine And.intro (by omega) (Exists.intro _ (And.intro (row_at hlt) ?_))); conv => whnf))
          rw [e1]
          cases he : entAt r.hard ((k : Int) + 1) with
          | none =>
            rw [show entE r ((k : Int) + 1) = ez from by unfold entE; rw [he]; rfl, he] at c1
            simp only [Option.isSome_none] at c1
            ((try ((refine Exists.intro none ?_); (conv => whnf))); first | ((with_reducible refine call_by (c1) ?_); conv => whnf))
            refine ⟨k + 1, ⟨⟨by omega, next (fun y hy _ => by rw [he] at hy; cases hy)⟩, by omega⟩, ?_⟩
            conv => whnf
            (refine And.intro (And.intro (by with_unfolding_all rfl) (by intro q h; cases h)) ?_; refine And.intro ?_ (And.intro ?_ ?_) <;> (conv => whnf) <;> (repeat' (first | exact True.intro | (with_reducible exact rfl) | exact (rfl : List.replicate 0 PV.bad = []) | ((with_reducible refine And.intro ?_ ?_) <;> (first | (with_reducible exact wkV_same _ rfl) | exact wkV_pt rfl rfl | exact wkV_ow rfl rfl rfl | (refine wkV_ow rfl rfl ?_) | (refine wkV_sc (congrArg (Value.int .i64) ?_)) | (refine wkV_sc (congrArg Value.bool ?_)) | exact wkV_ls rfl | ((refine wkV_cl ?_); conv => whnf) | ((refine wkV_tu ?_); conv => whnf) | ((refine wkV_ag ?_); conv => whnf) | (conv => whnf))))))
            all_goals first | exact w1 (by omega) | rfl
          | some y =>
            rw [show entE r ((k : Int) + 1) = y from by unfold entE; rw [he]; rfl, he] at c1
            simp only [Option.isSome_some] at c1
            ((try ((refine Exists.intro none ?_); (conv => whnf))); first | ((with_reducible refine call_by (c1) ?_); conv => whnf))
            rw [e1]
            ((first | (with_reducible refine split_dec (fun h => ?_) (fun h => ?_)) | (with_reducible refine split_beq (fun h => ?_) (fun h => ?_)) | (with_reducible refine split_bne (fun h => ?_) (fun h => ?_)) | (with_reducible refine split_not (fun h => ?_) (fun h => ?_)) | (with_reducible refine split_beqS (fun h => ?_) (fun h => ?_)) | (with_reducible refine split_intro (fun h => ?_) (fun h => ?_))) <;> conv => whnf)
            · have hc := h
              clear h
              have c2 := c_same (l[k]'hlt) y
              by_cases hn : (l[k]'hlt).nrm = y.nrm
              · rw [decide_eq_true hn] at c2
                ((try ((refine Exists.intro none ?_); (conv => whnf))); first | ((with_reducible refine call_by (c2) ?_); conv => whnf))
                refine ⟨k + 1, ⟨⟨by omega, next (fun z hz _ => by rw [he] at hz; injection hz with hz; rw [← hz]; exact hn)⟩, by omega⟩, ?_⟩
                conv => whnf
                (refine And.intro (And.intro (by with_unfolding_all rfl) (by intro q h; cases h)) ?_; refine And.intro ?_ (And.intro ?_ ?_) <;> (conv => whnf) <;> (repeat' (first | exact True.intro | (with_reducible exact rfl) | exact (rfl : List.replicate 0 PV.bad = []) | ((with_reducible refine And.intro ?_ ?_) <;> (first | (with_reducible exact wkV_same _ rfl) | exact wkV_pt rfl rfl | exact wkV_ow rfl rfl rfl | (refine wkV_ow rfl rfl ?_) | (refine wkV_sc (congrArg (Value.int .i64) ?_)) | (refine wkV_sc (congrArg Value.bool ?_)) | exact wkV_ls rfl | ((refine wkV_cl ?_); conv => whnf) | ((refine wkV_tu ?_); conv => whnf) | ((refine wkV_ag ?_); conv => whnf) | (conv => whnf))))))
                all_goals first | exact w1 (by omega) | rfl
              · rw [decide_eq_false hn] at c2
                exfalso
                have := mrgBad_t hlt he hc hn
                rw [this] at hbad; cases hbad
            · refine ⟨k + 1, ⟨⟨by omega, next (fun _ _ hc => absurd hc (by omega))⟩, by omega⟩, ?_⟩
              conv => whnf
              (refine And.intro (And.intro (by with_unfolding_all rfl) (by intro q h; cases h)) ?_; refine And.intro ?_ (And.intro ?_ ?_) <;> (conv => whnf) <;> (repeat' (first | exact True.intro | (with_reducible exact rfl) | exact (rfl : List.replicate 0 PV.bad = []) | ((with_reducible refine And.intro ?_ ?_) <;> (first | (with_reducible exact wkV_same _ rfl) | exact wkV_pt rfl rfl | exact wkV_ow rfl rfl rfl | (refine wkV_ow rfl rfl ?_) | (refine wkV_sc (congrArg (Value.int .i64) ?_)) | (refine wkV_sc (congrArg Value.bool ?_)) | exact wkV_ls rfl | ((refine wkV_cl ?_); conv => whnf) | ((refine wkV_tu ?_); conv => whnf) | ((refine wkV_ag ?_); conv => whnf) | (conv => whnf))))))
              all_goals first | exact w1 (by omega) | rfl
        · simp only [List.length_map] at h
          have ek : k = l.length := by omega
          subst ek
          clear h
          ((first | (with_reducible refine split_dec (fun h => ?_) (fun h => ?_)) | (with_reducible refine split_beq (fun h => ?_) (fun h => ?_)) | (with_reducible refine split_bne (fun h => ?_) (fun h => ?_)) | (with_reducible refine split_not (fun h => ?_) (fun h => ?_)) | (with_reducible refine split_beqS (fun h => ?_) (fun h => ?_)) | (with_reducible refine split_intro (fun h => ?_) (fun h => ?_))) <;> conv => whnf)
          · exact exit_plain rfl rfl
          · exfalso; simp only [List.length_map] at *; omega
      · exfalso
        apply hE
        unfold mrgE
        rw [if_pos hB, hbad, if_neg (by decide), if_neg hb]
  · have E : mrgE l r = 6 := by unfold mrgE; rw [if_neg hB]
    simp only [Bool.not_eq_true] at hB
    rw [hB] at ch
    rw [E]
    refine spec_of_body mixed Try.func140 rfl (by kernel_rfl) (by kernel_rfl) ?_; conv => whnf
    ((try ((refine Exists.intro none ?_); (conv => whnf))); first | ((with_reducible refine call_by (ch) ?_); conv => whnf))
    exact exit_plain rfl rfl
theorem mrgE_ok {l : List Ent} {r : Rft} (e : mrgE l r = 0) : lkB r = true ∧ mrgBad l r = false ∧ r.hard.base ≤ l.length := by
  unfold mrgE at e
  by_cases h1 : lkB r = true
  · rw [if_pos h1] at e
    cases h2 : mrgBad l r with
    | true => rw [if_pos h2] at e; omega
    | false =>
      rw [h2, if_neg (by decide)] at e
      by_cases h3 : (l.length : Int) < r.hard.base
      · rw [if_pos h3] at e; omega
      · exact ⟨h1, rfl, by omega⟩
  · rw [if_neg h1] at e; omega
set_option maxHeartbeats 4000000 in
theorem c_MergeOk (l : List Ent) (hl : l.length ≤ 4294967) (r : Rft) (s : r.small) (hl2 : r.hard.log.length ≤ 4294967) (hE : mrgE l r = 0) :
    Ctr Try.prog 140 [.sl 16 (l.map Ent.enc), .ag r.enc] (.tu [.ow 0 0 ((mrgO l r (mrgJ l r)).map Ent.enc).length, iv 0]) [(16, (mrgO l r (mrgJ l r)).map Ent.enc)] := by
  have ch := c_has r
  obtain ⟨hB, hbad, hb⟩ := mrgE_ok hE
  rw [hB] at ch
  have hb0 := lkB_iff.1 hB
  refine spec_of_body mixed Try.func140 rfl (by kernel_rfl) (by kernel_rfl) ?_; conv => whnf
  ((try ((refine Exists.intro none ?_); (conv => whnf))); first | ((with_reducible refine call_by (ch) ?_); conv => whnf))
  refine tri_for0 mixed (by kernel_rfl) (fun k : Nat => k ≤ l.length ∧ ∀ i (hi : i < l.length), i < k → ∀ y, entAt r.hard ((i : Int) + 1) = some y → (i : Int) + 1 ≤ r.commit → (l[i]'hi).nrm = y.nrm) (fun k => [(18, iv k)]) [] (fun k => l.length - k) 0 ⟨Nat.zero_le _, fun i _ h => absurd h (Nat.not_lt_zero i)⟩ ?_ ?_
  · conv => whnf
    (refine And.intro (And.intro (by with_unfolding_all rfl) (by intro q h; cases h)) ?_; refine And.intro ?_ (And.intro ?_ ?_) <;> (conv => whnf) <;> (repeat' (first | exact True.intro | (with_reducible exact rfl) | exact (rfl : List.replicate 0 PV.bad = []) | ((with_reducible refine And.intro ?_ ?_) <;> (first | (with_reducible exact wkV_same _ rfl) | exact wkV_pt rfl rfl | exact wkV_ow rfl rfl rfl | (refine wkV_ow rfl rfl ?_) | (refine wkV_sc (congrArg (Value.int .i64) ?_)) | (refine wkV_sc (congrArg Value.bool ?_)) | exact wkV_ls rfl | ((refine wkV_cl ?_); conv => whnf) | ((refine wkV_tu ?_); conv => whnf) | ((refine wkV_ag ?_); conv => whnf) | (conv => whnf))))))
    all_goals rfl
  rintro k ⟨hk, hal⟩
  conv => whnf
  ((first | (with_reducible refine split_dec (fun h => ?_) (fun h => ?_)) | (with_reducible refine split_beq (fun h => ?_) (fun h => ?_)) | (with_reducible refine split_bne (fun h => ?_) (fun h => ?_)) | (with_reducible refine split_not (fun h => ?_) (fun h => ?_)) | (with_reducible refine split_beqS (fun h => ?_) (fun h => ?_)) | (with_reducible refine split_intro (fun h => ?_) (fun h => ?_))) <;> conv => whnf)
  · simp only [List.length_map] at h
    have hlt : k < l.length := by omega
    clear h
    have e1 : IntKind.i64.wrap ((k : Int) + 1) = (k : Int) + 1 := wrap_id (by omega) (by omega)
    have c1 := c_aEntry r s.len s.base hB ((k : Int) + 1) (by unfold isI; omega)
    have next : (∀ y, entAt r.hard ((k : Int) + 1) = some y → (k : Int) + 1 ≤ r.commit → (l[k]'hlt).nrm = y.nrm) → ∀ i (hi : i < l.length), i < k + 1 → ∀ y, entAt r.hard ((i : Int) + 1) = some y → (i : Int) + 1 ≤ r.commit → (l[i]'hi).nrm = y.nrm := fun hn i hi hik y hy hc => by
      by_cases ei : i = k
      · subst ei; exact hn y hy hc
      · exact hal i hi (by omega) y hy hc
    (first | ((with_reducible refine And.intro (by omega) (Exists.intro _ (And.intro (row_at hlt) ?_))); conv => whnf))
    rw [e1]
    cases he : entAt r.hard ((k : Int) + 1) with
    | none =>
      rw [show entE r ((k : Int) + 1) = ez from by unfold entE; rw [he]; rfl, he] at c1
      simp only [Option.isSome_none] at c1
      ((try ((refine Exists.intro none ?_); (conv => whnf))); first | ((with_reducible refine call_by (c1) ?_); conv => whnf))
      refine ⟨k + 1, ⟨⟨by omega, next (fun y hy _ => by rw [he] at hy; cases hy)⟩, by omega⟩, ?_⟩
      conv => whnf
      (refine And.intro (And.intro (by with_unfolding_all rfl) (by intro q h; cases h)) ?_; refine And.intro ?_ (And.intro ?_ ?_) <;> (conv => whnf) <;> (repeat' (first | exact True.intro | (with_reducible exact rfl) | exact (rfl : List.replicate 0 PV.bad = []) | ((with_reducible refine And.intro ?_ ?_) <;> (first | (with_reducible exact wkV_same _ rfl) | exact wkV_pt rfl rfl | exact wkV_ow rfl rfl rfl | (refine wkV_ow rfl rfl ?_) | (refine wkV_sc (congrArg (Value.int .i64) ?_)) | (refine wkV_sc (congrArg Value.bool ?_)) | exact wkV_ls rfl | ((refine wkV_cl ?_); conv => whnf) | ((refine wkV_tu ?_); conv => whnf) | ((refine wkV_ag ?_); conv => whnf) | (conv => whnf))))))
      all_goals first | exact w1 (by omega) | rfl
    | some y =>
      rw [show entE r ((k : Int) + 1) = y from by unfold entE; rw [he]; rfl, he] at c1
      simp only [Option.isSome_some] at c1
      ((try ((refine Exists.intro none ?_); (conv => whnf))); first | ((with_reducible refine call_by (c1) ?_); conv => whnf))
      rw [e1]
      ((first | (with_reducible refine split_dec (fun h => ?_) (fun h => ?_)) | (with_reducible refine split_beq (fun h => ?_) (fun h => ?_)) | (with_reducible refine split_bne (fun h => ?_) (fun h => ?_)) | (with_reducible refine split_not (fun h => ?_) (fun h => ?_)) | (with_reducible refine split_beqS (fun h => ?_) (fun h => ?_)) | (with_reducible refine split_intro (fun h => ?_) (fun h => ?_))) <;> conv => whnf)
      · have hc := h
        clear h
        have c2 := c_same (l[k]'hlt) y
        by_cases hn : (l[k]'hlt).nrm = y.nrm
        · rw [decide_eq_true hn] at c2
          ((try ((refine Exists.intro none ?_); (conv => whnf))); first | ((with_reducible refine call_by (c2) ?_); conv => whnf))
          refine ⟨k + 1, ⟨⟨by omega, next (fun z hz _ => by rw [he] at hz; injection hz with hz; rw [← hz]; exact hn)⟩, by omega⟩, ?_⟩
          conv => whnf
          (refine And.intro (And.intro (by with_unfolding_all rfl) (by intro q h; cases h)) ?_; refine And.intro ?_ (And.intro ?_ ?_) <;> (conv => whnf) <;> (repeat' (first | exact True.intro | (with_reducible exact rfl) | exact (rfl : List.replicate 0 PV.bad = []) | ((with_reducible refine And.intro ?_ ?_) <;> (first | (with_reducible exact wkV_same _ rfl) | exact wkV_pt rfl rfl | exact wkV_ow rfl rfl rfl | (refine wkV_ow rfl rfl ?_) | (refine wkV_sc (congrArg (Value.int .i64) ?_)) | (refine wkV_sc (congrArg Value.bool ?_)) | exact wkV_ls rfl | ((refine wkV_cl ?_); conv => whnf) | ((refine wkV_tu ?_); conv => whnf) | ((refine wkV_ag ?_); conv => whnf) | (conv => whnf))))))
          all_goals first | exact w1 (by omega) | rfl
        · rw [decide_eq_false hn] at c2
          exfalso
          have := mrgBad_t hlt he hc hn
          rw [this] at hbad; cases hbad
      · refine ⟨k + 1, ⟨⟨by omega, next (fun _ _ hc => absurd hc (by omega))⟩, by omega⟩, ?_⟩
        conv => whnf
        (refine And.intro (And.intro (by with_unfolding_all rfl) (by intro q h; cases h)) ?_; refine And.intro ?_ (And.intro ?_ ?_) <;> (conv => whnf) <;> (repeat' (first | exact True.intro | (with_reducible exact rfl) | exact (rfl : List.replicate 0 PV.bad = []) | ((with_reducible refine And.intro ?_ ?_) <;> (first | (with_reducible exact wkV_same _ rfl) | exact wkV_pt rfl rfl | exact wkV_ow rfl rfl rfl | (refine wkV_ow rfl rfl ?_) | (refine wkV_sc (congrArg (Value.int .i64) ?_)) | (refine wkV_sc (congrArg Value.bool ?_)) | exact wkV_ls rfl | ((refine wkV_cl ?_); conv => whnf) | ((refine wkV_tu ?_); conv => whnf) | ((refine wkV_ag ?_); conv => whnf) | (conv => whnf))))))
        all_goals first | exact w1 (by omega) | rfl
  · simp only [List.length_map] at h
    have ek : k = l.length := by omega
    subst ek
    clear h
    ((first | (with_reducible refine split_dec (fun h => ?_) (fun h => ?_)) | (with_reducible refine split_beq (fun h => ?_) (fun h => ?_)) | (with_reducible refine split_bne (fun h => ?_) (fun h => ?_)) | (with_reducible refine split_not (fun h => ?_) (fun h => ?_)) | (with_reducible refine split_beqS (fun h => ?_) (fun h => ?_)) | (with_reducible refine split_intro (fun h => ?_) (fun h => ?_))) <;> conv => whnf)
    · exfalso; simp only [List.length_map] at *; omega
    clear h
    ((try ((refine Exists.intro none ?_); (conv => whnf))); first | ((with_reducible refine call_by (c_CloneEntries l (by omega)) ?_); conv => whnf))
    (refine Exists.intro _ (And.intro rfl (And.intro (by intro q hq; first | (cases hq; done) | (simp only [List.mem_cons, List.not_mem_nil, or_false] at hq; rcases hq with rfl | rfl <;> (simp only [List.length_cons, List.length_nil]; omega)) | (simp only [List.mem_cons, List.not_mem_nil, or_false] at hq; subst hq; simp only [List.length_cons, List.length_nil]; omega)) (And.intro (by intro i hi; simp only [List.length_cons, List.length_nil, Nat.lt_one_iff, Nat.zero_add] at hi; subst hi; rfl) ?_))); conv => whnf)
    refine tri_forO mixed (by kernel_rfl) (fun j : Nat => j ≤ mrgJ l r) (fun j => [(10, .ow 1000 0 ((mrgO l r j).map Ent.enc).length), (52, .bad)]) (fun _ => [(3, r.enc)]) (fun j => [(1000, some (false, 16, (mrgO l r j).map Ent.enc))]) [(1000, 832)] (fun j => mrgJ l r - j) 0 (Nat.zero_le _) ?_ ?_
    · rw [mrgO_0]
      conv => whnf
      (refine And.intro (And.intro (by with_unfolding_all rfl) (by intro q h; cases h)) ?_; refine And.intro ?_ (And.intro ?_ ?_) <;> (conv => whnf) <;> (repeat' (first | exact True.intro | (with_reducible exact rfl) | exact (rfl : List.replicate 0 PV.bad = []) | ((with_reducible refine And.intro ?_ ?_) <;> (first | (with_reducible exact wkV_same _ rfl) | exact wkV_pt rfl rfl | exact wkV_ow rfl rfl rfl | (refine wkV_ow rfl rfl ?_) | (refine wkV_sc (congrArg (Value.int .i64) ?_)) | (refine wkV_sc (congrArg Value.bool ?_)) | exact wkV_ls rfl | ((refine wkV_cl ?_); conv => whnf) | ((refine wkV_tu ?_); conv => whnf) | ((refine wkV_ag ?_); conv => whnf) | (conv => whnf))))))
      all_goals first | rfl | skip
    intro j hj
    have hol := mrgO_at hj
    have hJd : mrgJ l r = min (r.hard.log.length - ((l.length : Int) - r.hard.base).toNat) (r.commit - l.length).toNat := rfl
    conv => whnf
    have e1 : IntKind.i64.wrap ((((mrgO l r j).map Ent.enc).length : Int) + 1) = (l.length : Int) + j + 1 := by rw [List.length_map, hol, wrap_id (by omega) (by omega)]; omega
    have n1 : ((mrgO l r j).map Ent.enc).length ≤ 4294967 * 3 := by rw [List.length_map, hol]; omega
    have c1 := c_aEntry r s.len s.base hB ((l.length : Int) + j + 1) (by unfold isI; omega)
    have he := entAt_nat (h := r.hard) (j := (l.length : Int) + j + 1) (m := ((l.length : Int) - r.hard.base).toNat + j) (by omega)
    rw [e1]
    by_cases hd : ((l.length : Int) - r.hard.base).toNat + j < r.hard.log.length
    · rw [List.getElem?_eq_getElem hd] at he
      rw [show entE r ((l.length : Int) + j + 1) = r.hard.log[((l.length : Int) - r.hard.base).toNat + j]'hd from by unfold entE; rw [he]; rfl, he] at c1
      simp only [Option.isSome_some] at c1
      have s1 := mrgO_succ hd
      ((try ((refine Exists.intro none ?_); (conv => whnf))); first | ((with_reducible refine call_by (c1) ?_); conv => whnf))
      rw [e1]
      ((first | (with_reducible refine split_dec (fun h => ?_) (fun h => ?_)) | (with_reducible refine split_beq (fun h => ?_) (fun h => ?_)) | (with_reducible refine split_bne (fun h => ?_) (fun h => ?_)) | (with_reducible refine split_not (fun h => ?_) (fun h => ?_)) | (with_reducible refine split_beqS (fun h => ?_) (fun h => ?_)) | (with_reducible refine split_intro (fun h => ?_) (fun h => ?_))) <;> conv => whnf)
      · have ej : j = mrgJ l r := by omega
        rw [← ej]
        refine exit_own [(0, 1000)] rfl ⟨rfl, True.intro⟩ (wkV_tu ⟨wkV_ow rfl rfl rfl, wkV_same _ rfl, rfl⟩)
      · generalize hg : r.hard.log[((l.length : Int) - r.hard.base).toNat + j]'hd = g at *
        (refine And.intro rfl ?_; (conv => whnf); refine And.intro (And.intro (And.intro (by kernel_rfl) (And.intro (by simp) (And.intro (small (by simp only [List.length_cons, List.length_nil]; omega) (by kernel_rfl)) (And.intro (smallM (by simp only [List.length_cons, List.length_nil]; omega)) (by intro r hr; rw [List.mem_singleton.1 hr]; rfl))))) (And.intro (by decide) rfl)) ?_; conv => whnf)
        refine ⟨j + 1, [(1000, 1200)], ⟨by omega, by omega⟩, ?_⟩
        rw [s1]
        conv => whnf
        (refine And.intro (And.intro (by with_unfolding_all rfl) (by intro q h; cases h)) ?_; refine And.intro ?_ (And.intro ?_ ?_) <;> (conv => whnf) <;> (repeat' (first | exact True.intro | (with_reducible exact rfl) | exact (rfl : List.replicate 0 PV.bad = []) | ((with_reducible refine And.intro ?_ ?_) <;> (first | (with_reducible exact wkV_same _ rfl) | exact wkV_pt rfl rfl | exact wkV_ow rfl rfl rfl | (refine wkV_ow rfl rfl ?_) | (refine wkV_sc (congrArg (Value.int .i64) ?_)) | (refine wkV_sc (congrArg Value.bool ?_)) | exact wkV_ls rfl | ((refine wkV_cl ?_); conv => whnf) | ((refine wkV_tu ?_); conv => whnf) | ((refine wkV_ag ?_); conv => whnf) | (conv => whnf))))))
        all_goals first | exact w1 (by omega) | (refine obj_eq (by kernel_rfl) ?_; exact app1_map rfl _ rfl) | (simp only [List.map_append, List.length_append]; rfl) | rfl
    · rw [List.getElem?_eq_none (by omega)] at he
      rw [show entE r ((l.length : Int) + j + 1) = ez from by unfold entE; rw [he]; rfl, he] at c1
      simp only [Option.isSome_none] at c1
      have ej : j = mrgJ l r := by omega
      ((try ((refine Exists.intro none ?_); (conv => whnf))); first | ((with_reducible refine call_by (c1) ?_); conv => whnf))
      rw [← ej]
      refine exit_own [(0, 1000)] rfl ⟨rfl, True.intro⟩ (wkV_tu ⟨wkV_ow rfl rfl rfl, wkV_same _ rfl, rfl⟩)
end Go.Proofs
