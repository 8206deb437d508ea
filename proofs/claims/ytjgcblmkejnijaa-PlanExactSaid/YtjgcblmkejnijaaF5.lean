/- Contracts of functions: whether all is done; the reference's, whether places are right. -/
import Derived.Test.YtjgcblmkejnijaaF4
set_option linter.unusedSimpArgs false
set_option linter.unusedVariables false
namespace Go.Proofs
open Go.Pv
set_option maxRecDepth 100000

noncomputable def doneB (c : Conf) (full wit sil : Int) : Bool := if count c.full = full then (if count c.wit = wit then (if band (bor c.learn c.lwit) 127 = 0 then decide (band (band (bor c.full c.wit) sil) 127 = 0) else false) else false) else false
theorem c_Done (c : Conf) (full wit sil : Int) : Ctr Try.prog 50 [.ag c.enc, iv full, iv wit, iv sil] (bv (doneB c full wit sil)) [] := by
  refine spec_of_body mixed Try.func50 rfl (by kernel_rfl) (by kernel_rfl) ?_; conv => whnf
  ((try ((refine Exists.intro none ?_); (conv => whnf))); first | ((with_reducible refine call_by (c_Count c.full) ?_); conv => whnf))
  ((first | (with_reducible refine split_dec (fun h => ?_) (fun h => ?_)) | (with_reducible refine split_beq (fun h => ?_) (fun h => ?_)) | (with_reducible refine split_bne (fun h => ?_) (fun h => ?_)) | (with_reducible refine split_not (fun h => ?_) (fun h => ?_)) | (with_reducible refine split_beqS (fun h => ?_) (fun h => ?_)) | (with_reducible refine split_intro (fun h => ?_) (fun h => ?_))) <;> conv => whnf)
  · have h1 := h
    clear h
    ((try ((refine Exists.intro none ?_); (conv => whnf))); first | ((with_reducible refine call_by (c_Count c.wit) ?_); conv => whnf))
    ((first | (with_reducible refine split_dec (fun h => ?_) (fun h => ?_)) | (with_reducible refine split_beq (fun h => ?_) (fun h => ?_)) | (with_reducible refine split_bne (fun h => ?_) (fun h => ?_)) | (with_reducible refine split_not (fun h => ?_) (fun h => ?_)) | (with_reducible refine split_beqS (fun h => ?_) (fun h => ?_)) | (with_reducible refine split_intro (fun h => ?_) (fun h => ?_))) <;> conv => whnf)
    · have h2 := h
      clear h
      ((first | (with_reducible refine split_dec (fun h => ?_) (fun h => ?_)) | (with_reducible refine split_beq (fun h => ?_) (fun h => ?_)) | (with_reducible refine split_bne (fun h => ?_) (fun h => ?_)) | (with_reducible refine split_not (fun h => ?_) (fun h => ?_)) | (with_reducible refine split_beqS (fun h => ?_) (fun h => ?_)) | (with_reducible refine split_intro (fun h => ?_) (fun h => ?_))) <;> conv => whnf)
      · have h3 := h
        clear h
        ((try ((refine Exists.intro none ?_); (conv => whnf))); first | ((with_reducible refine call_by (c_Voters c) ?_); conv => whnf))
        refine exit_plain rfl ?_
        unfold doneB band bor
        rw [if_pos h1, if_pos h2, if_pos h3]
        first | rfl | (congr 1)
      · refine exit_plain rfl ?_
        unfold doneB band bor
        rw [if_pos h1, if_pos h2, if_neg h]
    · refine exit_plain rfl ?_
      unfold doneB band bor
      rw [if_pos h1, if_neg h]
  · refine exit_plain rfl ?_
    unfold doneB band bor
    rw [if_neg h]
theorem c_rAll (c : Conf) : Ctr Try.prog 45 [.ag c.enc] (iv (allB c)) [] := by
  refine spec_of_body mixed Try.func45 rfl (by kernel_rfl) (by kernel_rfl) ?_; conv => whnf
  exact exit_plain rfl (by unfold allB bor; rfl)

theorem chkP_pw : ∀ (l : List Pl) (s : Int), chkP s l = true → l.Pairwise fun a b => a.node ≠ b.node
  | [], _, _ => List.Pairwise.nil
  | p :: l, s, h => by
    have hin := chkP_in _ _ h p (List.mem_cons_self ..)
    rw [chkP, if_pos hin] at h
    split at h
    · cases h
    rw [List.pairwise_cons]
    refine ⟨fun q hq e => ?_, chkP_pw l _ h⟩
    have h1 := chkP_seen l _ h q hq
    obtain ⟨n, hn, hn7⟩ := nat_of hin.1
    rw [← e, hn, tb_or, tb_shl _ _ (by omega)] at h1
    simp at h1
theorem chkP_of : ∀ (l : List Pl) (s : Int), (∀ p ∈ l, PlIn p ∧ tb s p.node.toNat = false) → (l.Pairwise fun a b => a.node ≠ b.node) → chkP s l = true
  | [], _, _, _ => rfl
  | p :: l, s, h, hp => by
    obtain ⟨hin, ht⟩ := h p (List.mem_cons_self ..)
    rw [List.pairwise_cons] at hp
    rw [chkP, if_pos hin, if_neg (by rw [ht]; decide)]
    refine chkP_of l _ (fun q hq => ?_) hp.2
    obtain ⟨h1, h2⟩ := h q (List.mem_cons_of_mem _ hq)
    obtain ⟨n, hn, hn7⟩ := nat_of hin.1
    refine ⟨h1, ?_⟩
    rw [tb_or, h2, hn, tb_shl _ _ (by omega)]
    have := hp.1 q hq
    have := h1.1
    simp; omega
theorem plsB_iff (l : List Pl) : plsB l = true ↔ (∀ p ∈ l, PlIn p) ∧ l.Pairwise fun a b => a.node ≠ b.node :=
  ⟨fun h => ⟨chkP_in l 0 h, chkP_pw l 0 h⟩, fun h => chkP_of l 0 (fun p hp => ⟨h.1 p hp, tb_zero _⟩) h.2⟩

set_option maxHeartbeats 2000000 in
theorem c_rPlaces (l : List Pl) (hl : l.length ≤ 4294967) : Ctr Try.prog 46 [.sl 4 (l.map Pl.enc)] (bv (plsB l)) [] := by
  have bad : plsB l = false → ∀ c : CSt, ExitOk c (bv false) (bv (plsB l)) [] := fun e c => exit_plain rfl (by rw [e])
  have noI : ∀ i (hi : i < l.length), ¬ PlIn (l[i]'hi) → plsB l = false := fun i hi hn => by
    cases hb : plsB l with
    | false => rfl
    | true => exact absurd (((plsB_iff l).1 hb).1 _ (List.getElem_mem hi)) hn
  have noP : ∀ k i (hi : i < l.length) (hk : k < i), (l[k]'(by omega)).node = (l[i]'hi).node → plsB l = false := fun k i hi hk e => by
    cases hb : plsB l with
    | false => rfl
    | true => exact absurd e (List.pairwise_iff_getElem.1 ((plsB_iff l).1 hb).2 k i (by omega) hi hk)
  refine spec_of_body mixed Try.func46 rfl (by kernel_rfl) (by kernel_rfl) ?_; conv => whnf
  refine tri_for0 mixed (by kernel_rfl) (fun i : Nat => i ≤ l.length ∧ (∀ j (hj : j < l.length), j < i → PlIn (l[j]'hj)) ∧ ∀ k j (hj : j < l.length) (hk : k < j), j < i → (l[k]'(by omega)).node ≠ (l[j]'hj).node) (fun i => [(3, iv i)]) [] (fun i => l.length - i) 0 ⟨Nat.zero_le _, fun j _ h => absurd h (Nat.not_lt_zero _), fun k j _ _ h => absurd h (Nat.not_lt_zero _)⟩ ?_ ?_
  · conv => whnf
    (refine And.intro (And.intro (by with_unfolding_all rfl) (by intro q h; cases h)) ?_; refine And.intro ?_ (And.intro ?_ ?_) <;> (conv => whnf) <;> (repeat' (first | exact True.intro | (with_reducible exact rfl) | exact (rfl : List.replicate 0 PV.bad = []) | ((with_reducible refine And.intro ?_ ?_) <;> (first | (with_reducible exact wkV_same _ rfl) | exact wkV_pt rfl rfl | exact wkV_ow rfl rfl rfl | (refine wkV_ow rfl rfl ?_) | (refine wkV_sc (congrArg (Value.int .i64) ?_)) | (refine wkV_sc (congrArg Value.bool ?_)) | exact wkV_ls rfl | ((refine wkV_cl ?_); conv => whnf) | ((refine wkV_tu ?_); conv => whnf) | ((refine wkV_ag ?_); conv => whnf) | (conv => whnf))))))
    all_goals first | rfl | trace_state
  rintro i ⟨hi, hin, hpw⟩
  conv => whnf
  ((first | (with_reducible refine split_dec (fun h => ?_) (fun h => ?_)) | (with_reducible refine split_beq (fun h => ?_) (fun h => ?_)) | (with_reducible refine split_bne (fun h => ?_) (fun h => ?_)) | (with_reducible refine split_not (fun h => ?_) (fun h => ?_)) | (with_reducible refine split_beqS (fun h => ?_) (fun h => ?_)) | (with_reducible refine split_intro (fun h => ?_) (fun h => ?_))) <;> conv => whnf)
  · have hlt : i < l.length := by simp only [List.length_map] at h; omega
    clear h
    have hnoI := noI i hlt
    have hnoP := fun k hk => noP k i hlt hk
    (first | ((with_reducible refine And.intro (by omega) (Exists.intro _ (And.intro (row_at hlt) ?_))); conv => whnf))
    ((try ((refine Exists.intro none ?_); (conv => whnf))); first | ((with_reducible refine call_by (c_Node (l[i]'hlt).node) ?_); conv => whnf))
    ((first | (with_reducible refine split_dec (fun h => ?_) (fun h => ?_)) | (with_reducible refine split_beq (fun h => ?_) (fun h => ?_)) | (with_reducible refine split_bne (fun h => ?_) (fun h => ?_)) | (with_reducible refine split_not (fun h => ?_) (fun h => ?_)) | (with_reducible refine split_beqS (fun h => ?_) (fun h => ?_)) | (with_reducible refine split_intro (fun h => ?_) (fun h => ?_))) <;> conv => whnf)
    · exact bad (hnoI (by unfold PlIn; simp [withinB] at h; omega)) _
    · have h1 := h
      clear h
      (first | ((with_reducible refine And.intro (by omega) (Exists.intro _ (And.intro (row_at hlt) ?_))); conv => whnf))
      ((first | (with_reducible refine split_dec (fun h => ?_) (fun h => ?_)) | (with_reducible refine split_beq (fun h => ?_) (fun h => ?_)) | (with_reducible refine split_bne (fun h => ?_) (fun h => ?_)) | (with_reducible refine split_not (fun h => ?_) (fun h => ?_)) | (with_reducible refine split_beqS (fun h => ?_) (fun h => ?_)) | (with_reducible refine split_intro (fun h => ?_) (fun h => ?_))) <;> conv => whnf)
      · exact bad (hnoI (by unfold PlIn; omega)) _
      have h2 := h
      clear h
      (first | ((with_reducible refine And.intro (by omega) (Exists.intro _ (And.intro (row_at hlt) ?_))); conv => whnf))
      ((first | (with_reducible refine split_dec (fun h => ?_) (fun h => ?_)) | (with_reducible refine split_beq (fun h => ?_) (fun h => ?_)) | (with_reducible refine split_bne (fun h => ?_) (fun h => ?_)) | (with_reducible refine split_not (fun h => ?_) (fun h => ?_)) | (with_reducible refine split_beqS (fun h => ?_) (fun h => ?_)) | (with_reducible refine split_intro (fun h => ?_) (fun h => ?_))) <;> conv => whnf)
      · exact bad (hnoI (by unfold PlIn; omega)) _
      have h3 := h
      clear h
      have hnode : 0 ≤ (l[i]'hlt).node ∧ (l[i]'hlt).node < 7 := by simp [withinB] at h1; omega
      have hok : PlIn (l[i]'hlt) := ⟨hnode, by omega, by omega⟩
      refine tri_for0 mixed (by kernel_rfl) (fun k : Nat => k ≤ i ∧ ∀ j (hj : j < i), j < k → (l[j]'(by omega)).node ≠ (l[i]'hlt).node) (fun k => [(4, iv k)]) [] (fun k => i - k) 0 ⟨Nat.zero_le _, fun j _ h => absurd h (Nat.not_lt_zero _)⟩ ?_ ?_
      · conv => whnf
        (refine And.intro (And.intro (by with_unfolding_all rfl) (by intro q h; cases h)) ?_; refine And.intro ?_ (And.intro ?_ ?_) <;> (conv => whnf) <;> (repeat' (first | exact True.intro | (with_reducible exact rfl) | exact (rfl : List.replicate 0 PV.bad = []) | ((with_reducible refine And.intro ?_ ?_) <;> (first | (with_reducible exact wkV_same _ rfl) | exact wkV_pt rfl rfl | exact wkV_ow rfl rfl rfl | (refine wkV_ow rfl rfl ?_) | (refine wkV_sc (congrArg (Value.int .i64) ?_)) | (refine wkV_sc (congrArg Value.bool ?_)) | exact wkV_ls rfl | ((refine wkV_cl ?_); conv => whnf) | ((refine wkV_tu ?_); conv => whnf) | ((refine wkV_ag ?_); conv => whnf) | (conv => whnf))))))
        all_goals first | rfl | trace_state
      rintro k ⟨hk, hq⟩
      conv => whnf
      ((first | (with_reducible refine split_dec (fun h => ?_) (fun h => ?_)) | (with_reducible refine split_beq (fun h => ?_) (fun h => ?_)) | (with_reducible refine split_bne (fun h => ?_) (fun h => ?_)) | (with_reducible refine split_not (fun h => ?_) (fun h => ?_)) | (with_reducible refine split_beqS (fun h => ?_) (fun h => ?_)) | (with_reducible refine split_intro (fun h => ?_) (fun h => ?_))) <;> conv => whnf)
      · have hki : k < i := by omega
        have hkl : k < l.length := by omega
        clear h
        (first | ((with_reducible refine And.intro (by omega) (Exists.intro _ (And.intro (row_at hkl) ?_))); conv => whnf))
        (first | ((with_reducible refine And.intro (by omega) (Exists.intro _ (And.intro (row_at hlt) ?_))); conv => whnf))
        ((first | (with_reducible refine split_dec (fun h => ?_) (fun h => ?_)) | (with_reducible refine split_beq (fun h => ?_) (fun h => ?_)) | (with_reducible refine split_bne (fun h => ?_) (fun h => ?_)) | (with_reducible refine split_not (fun h => ?_) (fun h => ?_)) | (with_reducible refine split_beqS (fun h => ?_) (fun h => ?_)) | (with_reducible refine split_intro (fun h => ?_) (fun h => ?_))) <;> conv => whnf)
        · exact bad (hnoP k hki h) _
        · refine ⟨k + 1, ⟨⟨by omega, fun j hj hjk => ?_⟩, by omega⟩, ?_⟩
          · by_cases e : j = k
            · subst e; exact h
            · exact hq j hj (by omega)
          conv => whnf
          (refine And.intro (And.intro (by with_unfolding_all rfl) (by intro q h; cases h)) ?_; refine And.intro ?_ (And.intro ?_ ?_) <;> (conv => whnf) <;> (repeat' (first | exact True.intro | (with_reducible exact rfl) | exact (rfl : List.replicate 0 PV.bad = []) | ((with_reducible refine And.intro ?_ ?_) <;> (first | (with_reducible exact wkV_same _ rfl) | exact wkV_pt rfl rfl | exact wkV_ow rfl rfl rfl | (refine wkV_ow rfl rfl ?_) | (refine wkV_sc (congrArg (Value.int .i64) ?_)) | (refine wkV_sc (congrArg Value.bool ?_)) | exact wkV_ls rfl | ((refine wkV_cl ?_); conv => whnf) | ((refine wkV_tu ?_); conv => whnf) | ((refine wkV_ag ?_); conv => whnf) | (conv => whnf))))))
          all_goals first | exact w1 (by omega) | rfl | trace_state
      · have hki : k = i := by omega
        subst hki
        clear h
        refine ⟨k + 1, ⟨⟨by omega, fun j hj hji => ?_, fun a j hj ha hji => ?_⟩, by omega⟩, ?_⟩
        · by_cases e : j = k
          · subst e; exact hok
          · exact hin j hj (by omega)
        · by_cases e : j = k
          · subst e; exact hq a ha ha
          · exact hpw a j hj ha (by omega)
        conv => whnf
        (refine And.intro (And.intro (by with_unfolding_all rfl) (by intro q h; cases h)) ?_; refine And.intro ?_ (And.intro ?_ ?_) <;> (conv => whnf) <;> (repeat' (first | exact True.intro | (with_reducible exact rfl) | exact (rfl : List.replicate 0 PV.bad = []) | ((with_reducible refine And.intro ?_ ?_) <;> (first | (with_reducible exact wkV_same _ rfl) | exact wkV_pt rfl rfl | exact wkV_ow rfl rfl rfl | (refine wkV_ow rfl rfl ?_) | (refine wkV_sc (congrArg (Value.int .i64) ?_)) | (refine wkV_sc (congrArg Value.bool ?_)) | exact wkV_ls rfl | ((refine wkV_cl ?_); conv => whnf) | ((refine wkV_tu ?_); conv => whnf) | ((refine wkV_ag ?_); conv => whnf) | (conv => whnf))))))
        all_goals first | exact w1 (by omega) | rfl | trace_state
  · have ei : i = l.length := by simp only [List.length_map] at h; omega
    subst ei
    have : plsB l = true := (plsB_iff l).2 ⟨fun p hp => by
      obtain ⟨j, hj, rfl⟩ := List.getElem_of_mem hp
      exact hin j hj hj, List.pairwise_iff_getElem.2 fun a b ha hb hab => hpw a b hb hab hb⟩
    exact exit_plain rfl (by rw [this])
end Go.Proofs
