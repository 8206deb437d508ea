/- Contracts of functions: all that could be wanted, as the reference has it. -/
import Derived.Test.YtjgcblmkejnijaaF6
import Derived.Test.YtjgcblmkejnijaaC21
set_option linter.unusedSimpArgs false
set_option linter.unusedVariables false
namespace Go.Proofs
open Go.Pv
set_option maxRecDepth 100000

theorem _root_.Go.Pv.Ctr.born {P : Program} {f : Nat} {args : List PV} (sz : Nat) (h : Ctr P f args .nl []) : Ctr P f args (.ow 0 0 0) [(sz, [])] := by
  refine ⟨?_⟩
  intro w st vs hst hvs
  have key : ∀ e w', (∃ v M', e = Ending.returned v ∧ RV M' w' .nl v ∧ HRel w (fun _ => False) (Base.of st) M' (fun _ => none) (osMap []) w') → ∃ v M', e = Ending.returned v ∧ RV M' w' (.ow 0 0 0) v ∧ HRel w (fun _ => False) (Base.of st) M' (fun _ => none) (osMap [(sz, [])]) w' := by
    rintro e w' ⟨v, M', he, hv, hr⟩
    obtain ⟨M1, h1, hle, L, hL, hn⟩ := hr.born 0 sz rfl
    refine ⟨v, M1, he, ?_, ?_⟩
    · simp only [RV] at hv ⊢
      exact ⟨L, hL, .inl ⟨hn, rfl, hv⟩⟩
    · have e : upd (osMap []) [(0, some (false, sz, []))] = osMap [(sz, [])] := by
        funext k
        rw [upd_one]
        by_cases hk : k = 0
        · subst hk; rfl
        · rw [if_neg hk]
          cases k with
          | zero => exact absurd rfl hk
          | succ k => simp [osMap]
      rw [← e]; exact h1
  rcases h.run w st vs hst hvs with ⟨h1, h2⟩ | ⟨v, w', h1, h2⟩
  · exact .inl ⟨h1, h2.mono fun e w' => key e w'⟩
  · exact .inr ⟨v, w', h1, key _ _ h2⟩

theorem c_rLowest (bits : Int) : Ctr Try.prog 120 [iv bits] (iv (lowB bits)) [] := by
  refine spec_of_body mixed Try.func120 rfl (by kernel_rfl) (by kernel_rfl) ?_; conv => whnf
  refine tri_for0 mixed (by kernel_rfl) (fun i : Nat => i ≤ 7 ∧ ∀ j, j < i → tb bits j = false) (fun i => [(3, iv i)]) [] (fun i => 7 - i) 0 ⟨Nat.zero_le _, fun j h => absurd h (Nat.not_lt_zero j)⟩ ?_ ?_
  · conv => whnf
    (refine And.intro (And.intro (by with_unfolding_all rfl) (by intro q h; cases h)) ?_; refine And.intro ?_ (And.intro ?_ ?_) <;> (conv => whnf) <;> (repeat' (first | exact True.intro | (with_reducible exact rfl) | exact (rfl : List.replicate 0 PV.bad = []) | ((with_reducible refine And.intro ?_ ?_) <;> (first | (with_reducible exact wkV_same _ rfl) | exact wkV_pt rfl rfl | exact wkV_ow rfl rfl rfl | (refine wkV_ow rfl rfl ?_) | (refine wkV_sc (congrArg (Value.int .i64) ?_)) | (refine wkV_sc (congrArg Value.bool ?_)) | exact wkV_ls rfl | ((refine wkV_cl ?_); conv => whnf) | ((refine wkV_tu ?_); conv => whnf) | ((refine wkV_ag ?_); conv => whnf) | (conv => whnf))))))
    all_goals rfl
  rintro i ⟨hi, hal⟩
  conv => whnf
  ((first | (with_reducible refine split_dec (fun h => ?_) (fun h => ?_)) | (with_reducible refine split_beq (fun h => ?_) (fun h => ?_)) | (with_reducible refine split_bne (fun h => ?_) (fun h => ?_)) | (with_reducible refine split_not (fun h => ?_) (fun h => ?_)) | (with_reducible refine split_beqS (fun h => ?_) (fun h => ?_)) | (with_reducible refine split_intro (fun h => ?_) (fun h => ?_))) <;> conv => whnf)
  · have hlt : i < 7 := by omega
    clear h
    have kh := c_Has bits i
    rw [hasB_nat _ _ (by omega)] at kh
    cases ht : tb bits i with
    | true =>
      have hf : (List.range 7).find? (fun i => tb bits i) = some i := by
        rw [List.find?_eq_some_iff_getElem]
        exact ⟨ht, i, by simpa using hlt, by simp, fun j hj => by simp [hal j hj]⟩
      rw [ht] at kh
      ((try ((refine Exists.intro none ?_); (conv => whnf))); first | ((with_reducible refine call_by (kh) ?_); conv => whnf))
      exact exit_plain rfl (by unfold lowB; rw [hf])
    | false =>
      rw [ht] at kh
      ((try ((refine Exists.intro none ?_); (conv => whnf))); first | ((with_reducible refine call_by (kh) ?_); conv => whnf))
      refine ⟨i + 1, ⟨⟨by omega, fun j hj => ?_⟩, by omega⟩, ?_⟩
      · by_cases e : j = i
        · subst e; exact ht
        · exact hal j (by omega)
      conv => whnf
      (refine And.intro (And.intro (by with_unfolding_all rfl) (by intro q h; cases h)) ?_; refine And.intro ?_ (And.intro ?_ ?_) <;> (conv => whnf) <;> (repeat' (first | exact True.intro | (with_reducible exact rfl) | exact (rfl : List.replicate 0 PV.bad = []) | ((with_reducible refine And.intro ?_ ?_) <;> (first | (with_reducible exact wkV_same _ rfl) | exact wkV_pt rfl rfl | exact wkV_ow rfl rfl rfl | (refine wkV_ow rfl rfl ?_) | (refine wkV_sc (congrArg (Value.int .i64) ?_)) | (refine wkV_sc (congrArg Value.bool ?_)) | exact wkV_ls rfl | ((refine wkV_cl ?_); conv => whnf) | ((refine wkV_tu ?_); conv => whnf) | ((refine wkV_ag ?_); conv => whnf) | (conv => whnf))))))
      all_goals first | exact w1 (by omega) | rfl | trace_state
  · have hf : (List.range 7).find? (fun i => tb bits i) = none := by
      rw [List.find?_eq_none]
      intro j hj
      rw [hal j (by have := List.mem_range.1 hj; omega)]; simp
    exact exit_plain rfl (by unfold lowB; rw [hf])
abbrev wantE (r : Conf × Int) : PV := .ag [iv r.1.full, iv r.1.wit, iv r.1.learn, iv r.1.lwit, iv r.2]
theorem c_ofRemove (c : Conf) (i : Int) : Ctr Try.prog 119 [.ag c.enc, iv i] (wantE (removeR c i)) [] := by
  refine spec_of_body mixed Try.func119 rfl (by kernel_rfl) (by kernel_rfl) ?_; conv => whnf
  ((try ((refine Exists.intro none ?_); (conv => whnf))); first | ((with_reducible refine call_by (c_rRemove c i) ?_); conv => whnf))
  exact exit_plain rfl rfl
theorem c_ofPromote (c : Conf) (i : Int) : Ctr Try.prog 121 [.ag c.enc, iv i] (wantE (promoteR c i)) [] := by
  refine spec_of_body mixed Try.func121 rfl (by kernel_rfl) (by kernel_rfl) ?_; conv => whnf
  ((try ((refine Exists.intro none ?_); (conv => whnf))); first | ((with_reducible refine call_by (c_rPromote c i) ?_); conv => whnf))
  exact exit_plain rfl rfl
theorem c_ofLearn (c : Conf) (i : Int) (w : Bool) : Ctr Try.prog 122 [.ag c.enc, iv i, bv w] (wantE (learnR c i w)) [] := by
  refine spec_of_body mixed Try.func122 rfl (by kernel_rfl) (by kernel_rfl) ?_; conv => whnf
  ((try ((refine Exists.intro none ?_); (conv => whnf))); first | ((with_reducible refine call_by (c_rLearn c i w) ?_); conv => whnf))
  exact exit_plain rfl rfl
def moreS (r : Conf × Int) : List (List PV) := if r.2 = 0 then [stepV r.1] else []
theorem moreS_len (r : Conf × Int) : (moreS r).length ≤ 1 := by unfold moreS; split <;> simp
theorem c_step0 (r : Conf × Int) : Ctr Try.prog 118 [.nl, wantE r] (.ow 0 0 (moreS r).length) [(5, moreS r)] := by
  unfold moreS
  split
  · rename_i h0
    refine spec_of_body mixed Try.func118 rfl (by kernel_rfl) (by kernel_rfl) ?_; conv => whnf
    ((first | (with_reducible refine split_dec (fun h => ?_) (fun h => ?_)) | (with_reducible refine split_beq (fun h => ?_) (fun h => ?_)) | (with_reducible refine split_bne (fun h => ?_) (fun h => ?_)) | (with_reducible refine split_not (fun h => ?_) (fun h => ?_)) | (with_reducible refine split_beqS (fun h => ?_) (fun h => ?_)) | (with_reducible refine split_intro (fun h => ?_) (fun h => ?_))) <;> conv => whnf)
    · exact absurd h0 h
    refine ⟨rfl, ?_⟩
    conv => whnf
    refine ⟨⟨⟨by show 1 * 40 ≤ 140737488355328; decide, leMx (by show 1 ≤ 140737488355328; decide)⟩, rfl⟩, ?_⟩
    conv => whnf
    exact exit_own [(0, 224)] rfl ⟨rfl, True.intro⟩ (wkV_ow rfl rfl rfl)
  · rename_i h0
    refine Go.Pv.Ctr.born 5 ?_
    refine spec_of_body mixed Try.func118 rfl (by kernel_rfl) (by kernel_rfl) ?_; conv => whnf
    ((first | (with_reducible refine split_dec (fun h => ?_) (fun h => ?_)) | (with_reducible refine split_beq (fun h => ?_) (fun h => ?_)) | (with_reducible refine split_bne (fun h => ?_) (fun h => ?_)) | (with_reducible refine split_not (fun h => ?_) (fun h => ?_)) | (with_reducible refine split_beqS (fun h => ?_) (fun h => ?_)) | (with_reducible refine split_intro (fun h => ?_) (fun h => ?_))) <;> conv => whnf)
    · exact exit_plain rfl rfl
    · exact absurd (by first | exact h | exact Classical.byContradiction h) h0
theorem c_stepY (rows : List (List PV)) (hl : rows.length ≤ 100) (r : Conf × Int) (h0 : r.2 = 0) : CtrE Try.prog 118 [.ow 1000000 0 rows.length, wantE r] [] [(1000000, some (false, 5, rows))] (.ow 224 0 (rows ++ [stepV r.1]).length) [] [(1000000, none), (224, some (false, 5, rows ++ [stepV r.1]))] := by
  refine spec_of_bodyE mixed Try.func118 rfl (by kernel_rfl) (by kernel_rfl) ?_; conv => whnf
  ((first | (with_reducible refine split_dec (fun h => ?_) (fun h => ?_)) | (with_reducible refine split_beq (fun h => ?_) (fun h => ?_)) | (with_reducible refine split_bne (fun h => ?_) (fun h => ?_)) | (with_reducible refine split_not (fun h => ?_) (fun h => ?_)) | (with_reducible refine split_beqS (fun h => ?_) (fun h => ?_)) | (with_reducible refine split_intro (fun h => ?_) (fun h => ?_))) <;> conv => whnf)
  · exact absurd h0 h
  have b1 : (rows.length + 1) * 40 ≤ 140737488355328 := by omega
  have b2 : rows.length + 1 ≤ maxLen := leMx (by omega)
  (refine And.intro rfl ?_; (conv => whnf); refine And.intro (And.intro (And.intro (by kernel_rfl) (And.intro (Nat.le_refl _) (And.intro (b1) (And.intro (b2) (by intro r hr; rw [List.mem_singleton.1 hr]; rfl))))) (And.intro (by decide) rfl)) ?_; conv => whnf)
  (refine ExitE.mk ⟨[(1000000, 1000000), (224, 224)], [], ?_⟩; (conv => whnf); (refine And.intro (And.intro (by with_unfolding_all rfl) (by intro q h; cases h)) ?_; refine And.intro ?_ (And.intro ?_ ?_) <;> (conv => whnf) <;> (repeat' (first | exact True.intro | (with_reducible exact rfl) | exact (rfl : List.replicate 0 PV.bad = []) | ((with_reducible refine And.intro ?_ ?_) <;> (first | (with_reducible exact wkV_same _ rfl) | exact wkV_pt rfl rfl | exact wkV_ow rfl rfl rfl | (refine wkV_ow rfl rfl ?_) | (refine wkV_sc (congrArg (Value.int .i64) ?_)) | (refine wkV_sc (congrArg Value.bool ?_)) | exact wkV_ls rfl | ((refine wkV_cl ?_); conv => whnf) | ((refine wkV_tu ?_); conv => whnf) | ((refine wkV_ag ?_); conv => whnf) | (conv => whnf)))))))
  all_goals first | rfl | (refine obj_eq (by kernel_rfl) ?_; rw [List.take_of_length_le (Nat.le_refl _)]; done) | (refine obj_eq (by kernel_rfl) ?_; rw [List.take_of_length_le (Nat.le_refl _)]; rfl) | (rw [List.length_append]; done) | (rw [List.length_append]; rfl) | trace_state
theorem c_stepN (rows : List (List PV)) (r : Conf × Int) (h0 : ¬ r.2 = 0) : CtrE Try.prog 118 [.ow 1000000 0 rows.length, wantE r] [] [(1000000, some (false, 5, rows))] (.ow 1000000 0 rows.length) [] [(1000000, some (false, 5, rows))] := by
  refine spec_of_bodyE mixed Try.func118 rfl (by kernel_rfl) (by kernel_rfl) ?_; conv => whnf
  ((first | (with_reducible refine split_dec (fun h => ?_) (fun h => ?_)) | (with_reducible refine split_beq (fun h => ?_) (fun h => ?_)) | (with_reducible refine split_bne (fun h => ?_) (fun h => ?_)) | (with_reducible refine split_not (fun h => ?_) (fun h => ?_)) | (with_reducible refine split_beqS (fun h => ?_) (fun h => ?_)) | (with_reducible refine split_intro (fun h => ?_) (fun h => ?_))) <;> conv => whnf)
  · (refine ExitE.mk ⟨[(1000000, 1000000)], [], ?_⟩; (conv => whnf); (refine And.intro (And.intro (by with_unfolding_all rfl) (by intro q h; cases h)) ?_; refine And.intro ?_ (And.intro ?_ ?_) <;> (conv => whnf) <;> (repeat' (first | exact True.intro | (with_reducible exact rfl) | exact (rfl : List.replicate 0 PV.bad = []) | ((with_reducible refine And.intro ?_ ?_) <;> (first | (with_reducible exact wkV_same _ rfl) | exact wkV_pt rfl rfl | exact wkV_ow rfl rfl rfl | (refine wkV_ow rfl rfl ?_) | (refine wkV_sc (congrArg (Value.int .i64) ?_)) | (refine wkV_sc (congrArg Value.bool ?_)) | exact wkV_ls rfl | ((refine wkV_cl ?_); conv => whnf) | ((refine wkV_tu ?_); conv => whnf) | ((refine wkV_ag ?_); conv => whnf) | (conv => whnf)))))))
    all_goals first | rfl | trace_state
  · exact absurd (by first | exact h | exact Classical.byContradiction h) h0
end Go.Proofs
