import Derived.Test.YtnphfgphajejaaaC12
namespace Go.Proofs
open Go.Pv
set_option maxRecDepth 100000

theorem elder_term {a : Hrd} (h1 : ∀ x ∈ a.log, x.term < a.term) (h2 : a.baseTerm < a.term) (h3 : 0 < a.term) (n : Int) : fits a n a.term = false := by
  unfold fits termAt
  split
  · simp; intro _; omega
  · split
    · rename_i x hx
      have := h1 x (entAt_mem hx)
      simp; intro _; omega
    · simp; omega

set_option maxHeartbeats 1000000 in
theorem l_TurnElder (a : Hrd) (commit : Int) (m : Arr) (ha : a.ok) (hc : isI commit) : Ctr Try.prog 10 [.ag a.enc, iv commit, .ag m.enc] (bv true) [] := by
  have hl : a.log.length ≤ maxLen := ha.2.2.2.2.2.2.1
  refine spec_of_body mixed Try.func10 rfl (by kernel_rfl) (by kernel_rfl) ?_; conv => whnf
  (first | ((with_reducible refine call_by (c_Heavy09 a) ?_); conv => whnf))
  ((first | (with_reducible refine split_dec (fun h => ?_) (fun h => ?_)) | (with_reducible refine split_beq (fun h => ?_) (fun h => ?_)) | (with_reducible refine split_bne (fun h => ?_) (fun h => ?_)) | (with_reducible refine split_not (fun h => ?_) (fun h => ?_)) | (with_reducible refine split_beqS (fun h => ?_) (fun h => ?_)) | (with_reducible refine split_intro (fun h => ?_) (fun h => ?_))) <;> conv => whnf)
  · exact exit_plain rfl rfl
  have hv := h
  (first | ((with_reducible refine call_by (c_looked17 a) ?_); conv => whnf))
  ((first | (with_reducible refine split_dec (fun h => ?_) (fun h => ?_)) | (with_reducible refine split_beq (fun h => ?_) (fun h => ?_)) | (with_reducible refine split_bne (fun h => ?_) (fun h => ?_)) | (with_reducible refine split_not (fun h => ?_) (fun h => ?_)) | (with_reducible refine split_beqS (fun h => ?_) (fun h => ?_)) | (with_reducible refine split_intro (fun h => ?_) (fun h => ?_))) <;> conv => whnf)
  · exact exit_plain rfl rfl
  have hlook : 0 ≤ a.base ∧ a.base ≤ 1099511627776 := by simpa [withinB] using h
  have hlen : a.log.length ≤ 200 := by
    simp [heavyH, heavyEs] at hv; omega
  ((first | (with_reducible refine split_dec (fun h => ?_) (fun h => ?_)) | (with_reducible refine split_beq (fun h => ?_) (fun h => ?_)) | (with_reducible refine split_bne (fun h => ?_) (fun h => ?_)) | (with_reducible refine split_not (fun h => ?_) (fun h => ?_)) | (with_reducible refine split_beqS (fun h => ?_) (fun h => ?_)) | (with_reducible refine split_intro (fun h => ?_) (fun h => ?_))) <;> conv => whnf)
  · exact exit_plain rfl rfl
  have ht0 := h
  ((first | (with_reducible refine split_dec (fun h => ?_) (fun h => ?_)) | (with_reducible refine split_beq (fun h => ?_) (fun h => ?_)) | (with_reducible refine split_bne (fun h => ?_) (fun h => ?_)) | (with_reducible refine split_not (fun h => ?_) (fun h => ?_)) | (with_reducible refine split_beqS (fun h => ?_) (fun h => ?_)) | (with_reducible refine split_intro (fun h => ?_) (fun h => ?_))) <;> conv => whnf)
  · exact exit_plain rfl rfl
  have ht1 := h
  ((first | (with_reducible refine split_dec (fun h => ?_) (fun h => ?_)) | (with_reducible refine split_beq (fun h => ?_) (fun h => ?_)) | (with_reducible refine split_bne (fun h => ?_) (fun h => ?_)) | (with_reducible refine split_not (fun h => ?_) (fun h => ?_)) | (with_reducible refine split_beqS (fun h => ?_) (fun h => ?_)) | (with_reducible refine split_intro (fun h => ?_) (fun h => ?_))) <;> conv => whnf)
  · exact exit_plain rfl rfl
  have hw : IntKind.i64.wrap (a.term + 1) = a.term + 1 := wrap_id (by omega) (by omega)
  rw [hw]
  refine tri_for0 mixed (by kernel_rfl) (fun i : Nat => i ≤ a.log.length ∧ ∀ j (hj : j < a.log.length), j < i → (a.log[j]'hj).term < a.term + 1) (fun i => [(7, iv i)]) [] (fun i => a.log.length - i) 0 ⟨Nat.zero_le _, fun j _ h => absurd h (Nat.not_lt_zero _)⟩ ?_ ?_
  · conv => whnf
    (refine And.intro (And.intro (by with_unfolding_all rfl) (by intro q h; cases h)) ?_; refine And.intro ?_ (And.intro ?_ ?_) <;> (conv => whnf) <;> (repeat' (first | exact True.intro | (with_reducible exact rfl) | exact (rfl : List.replicate 0 PV.bad = []) | ((with_reducible refine And.intro ?_ ?_) <;> (first | (with_reducible exact wkV_same _ rfl) | exact wkV_pt rfl rfl | exact wkV_ow rfl rfl rfl | (refine wkV_sc (congrArg (Value.int .i64) ?_)) | (refine wkV_sc (congrArg Value.bool ?_)) | (conv => whnf))))))
    all_goals rfl
  rintro i ⟨hi, hp⟩
  conv => whnf
  ((first | (with_reducible refine split_dec (fun h => ?_) (fun h => ?_)) | (with_reducible refine split_beq (fun h => ?_) (fun h => ?_)) | (with_reducible refine split_bne (fun h => ?_) (fun h => ?_)) | (with_reducible refine split_not (fun h => ?_) (fun h => ?_)) | (with_reducible refine split_beqS (fun h => ?_) (fun h => ?_)) | (with_reducible refine split_intro (fun h => ?_) (fun h => ?_))) <;> conv => whnf)
  · simp only [List.length_map] at h
    have hlt : i < a.log.length := by omega
    refine ⟨by omega, _, row_at hlt, ?_⟩
    conv => whnf
    ((first | (with_reducible refine split_dec (fun h => ?_) (fun h => ?_)) | (with_reducible refine split_beq (fun h => ?_) (fun h => ?_)) | (with_reducible refine split_bne (fun h => ?_) (fun h => ?_)) | (with_reducible refine split_not (fun h => ?_) (fun h => ?_)) | (with_reducible refine split_beqS (fun h => ?_) (fun h => ?_)) | (with_reducible refine split_intro (fun h => ?_) (fun h => ?_))) <;> conv => whnf)
    · exact exit_plain rfl rfl
    · refine ⟨i + 1, ⟨⟨by omega, ?_⟩, by omega⟩, ?_⟩
      · intro j hj hji
        by_cases e : j = i
        · subst e; omega
        · exact hp j hj (by omega)
      · conv => whnf
        (refine And.intro (And.intro (by with_unfolding_all rfl) (by intro q h; cases h)) ?_; refine And.intro ?_ (And.intro ?_ ?_) <;> (conv => whnf) <;> (repeat' (first | exact True.intro | (with_reducible exact rfl) | exact (rfl : List.replicate 0 PV.bad = []) | ((with_reducible refine And.intro ?_ ?_) <;> (first | (with_reducible exact wkV_same _ rfl) | exact wkV_pt rfl rfl | exact wkV_ow rfl rfl rfl | (refine wkV_sc (congrArg (Value.int .i64) ?_)) | (refine wkV_sc (congrArg Value.bool ?_)) | (conv => whnf))))))
        exact w1 (by omega)
  · simp only [List.length_map] at h
    have : i = a.log.length := by omega
    subst this
    ((first | (with_reducible refine split_dec (fun h => ?_) (fun h => ?_)) | (with_reducible refine split_beq (fun h => ?_) (fun h => ?_)) | (with_reducible refine split_bne (fun h => ?_) (fun h => ?_)) | (with_reducible refine split_not (fun h => ?_) (fun h => ?_)) | (with_reducible refine split_beqS (fun h => ?_) (fun h => ?_)) | (with_reducible refine split_intro (fun h => ?_) (fun h => ?_))) <;> conv => whnf)
    · exact exit_plain rfl rfl
    have hf := elder_term (a := { a with term := a.term + 1 }) (fun x hx => by
      obtain ⟨j, hj, rfl⟩ := List.getElem_of_mem hx
      exact hp j hj hj) (by show a.baseTerm < a.term + 1; omega) (by show 0 < a.term + 1; omega)
    have hbI : isI a.base := by unfold isI; omega
    have c1 := c_Commit { a with term := a.term + 1 } hl hlook.1 (by show a.base + a.log.length < _; omega) commit m
    have c2 := c_Own { a with term := a.term + 1 } hl hbI commit hc
    have c3 := c_May { a with term := a.term + 1 } hl hbI commit hc
    rw [hf commit] at c2 c3
    have e1 : commitR { a with term := a.term + 1 } commit m = commit := by
      rcases down_spec (p := hit { a with term := a.term + 1 } m) (base := a.base) (commit := commit) (a.log.length + 1) with h | ⟨_, _, _, h⟩
      · exact h
      · unfold hit at h; rw [hf] at h; cases h
    rw [e1] at c1
    simp only [Bool.false_and] at c3
    (first | ((with_reducible refine call_by (c1) ?_); conv => whnf))
    ((first | (with_reducible refine split_dec (fun h => ?_) (fun h => ?_)) | (with_reducible refine split_beq (fun h => ?_) (fun h => ?_)) | (with_reducible refine split_bne (fun h => ?_) (fun h => ?_)) | (with_reducible refine split_not (fun h => ?_) (fun h => ?_)) | (with_reducible refine split_beqS (fun h => ?_) (fun h => ?_)) | (with_reducible refine split_intro (fun h => ?_) (fun h => ?_))) <;> conv => whnf)
    · (first | ((with_reducible refine call_by (c2) ?_); conv => whnf))
      (first | ((with_reducible refine call_by (c3) ?_); conv => whnf))
      (first | ((with_reducible refine call_by (c_wakes17) ?_); conv => whnf))
      exact exit_plain rfl rfl
    · exact absurd rfl h

theorem told_TurnElder (qs : List PV) (h : ArgsOf Try.prog [32, 3, 33] qs) : Ctr Try.prog 10 qs (bv true) [] := by
  obtain ⟨p1, qs, rfl, h1, h⟩ := argsOf_cons h
  obtain ⟨p2, qs, rfl, h2, h⟩ := argsOf_cons h
  obtain ⟨p3, qs, rfl, h3, h⟩ := argsOf_cons h
  obtain rfl := argsOf_nil h
  obtain ⟨r, rfl, hr⟩ := arg_Hrd h1
  obtain ⟨m, rfl, hm⟩ := arg_i h2
  obtain ⟨n, rfl, hn⟩ := arg_Arr h3
  exact l_TurnElder r m n hr hm
end Go.Proofs
