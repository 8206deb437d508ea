/- Contracts of functions: hard states that may be. -/
import Derived.Test.YtnphfgphajejaaaC29
namespace Go.Proofs
open Go.Pv
set_option maxRecDepth 100000

structure HardA (h : Hrd) : Prop where
  t : 0 ≤ h.term ∧ h.term ≤ 1099511627776
  v : -1 ≤ h.vote ∧ h.vote ≤ 6
  b : 0 ≤ h.base ∧ h.base ≤ 1099511627776
  bt : 0 ≤ h.baseTerm ∧ h.baseTerm ≤ h.term
  z : h.baseTerm = 0 ↔ h.base = 0
noncomputable def hardB (h : Hrd) : Bool := dec (HardA h) && (confB h.baseConf && (decide (h.snap.length ≤ 16384 ∧ (0 < h.base ∨ h.snap.length = 0)) && rowB h.log h.baseTerm h.term))

theorem hardA_iff (h : Hrd) : HardA h ↔ ((0 ≤ h.term ∧ h.term ≤ 1099511627776) ∧ (-1 ≤ h.vote ∧ h.vote ≤ 6) ∧ (0 ≤ h.base ∧ h.base ≤ 1099511627776) ∧ (0 ≤ h.baseTerm ∧ h.baseTerm ≤ h.term) ∧ (h.baseTerm = 0 ↔ h.base = 0)) :=
  ⟨fun ⟨a, b, c, d, e⟩ => ⟨a, b, c, d, e⟩, fun ⟨a, b, c, d, e⟩ => ⟨a, b, c, d, e⟩⟩

set_option maxHeartbeats 2000000 in
theorem c_rHard (a : Hrd) (hm : a.log.length ≤ maxLen) : Ctr Try.prog 90 [.ag a.enc] (bv (hardB a)) [] := by
  have no : ¬ HardA a → hardB a = false := fun hn => by unfold hardB; rw [dec_false hn]; rfl
  have hz : ((a.baseTerm == 0) != (a.base == 0)) = true ↔ ¬ (a.baseTerm = 0 ↔ a.base = 0) := by
    rw [bne_iff_ne, ne_eq, Bool.eq_iff_iff, beq_iff_eq, beq_iff_eq]
  refine spec_of_body mixed Try.func90 rfl (by kernel_rfl) (by kernel_rfl) ?_; conv => whnf
  ((try ((refine Exists.intro none ?_); (conv => whnf))); first | ((with_reducible refine call_by (c_within08 _ _ _) ?_); conv => whnf))
  ((first | (with_reducible refine split_dec (fun h => ?_) (fun h => ?_)) | (with_reducible refine split_beq (fun h => ?_) (fun h => ?_)) | (with_reducible refine split_bne (fun h => ?_) (fun h => ?_)) | (with_reducible refine split_not (fun h => ?_) (fun h => ?_)) | (with_reducible refine split_beqS (fun h => ?_) (fun h => ?_)) | (with_reducible refine split_intro (fun h => ?_) (fun h => ?_))) <;> conv => whnf)
  · exact exit_plain rfl (by rw [no (fun k => of_decide_eq_false h k.t)])
  have g1 := of_decide_eq_true h
  ((try ((refine Exists.intro none ?_); (conv => whnf))); first | ((with_reducible refine call_by (c_within08 _ _ _) ?_); conv => whnf))
  ((first | (with_reducible refine split_dec (fun h => ?_) (fun h => ?_)) | (with_reducible refine split_beq (fun h => ?_) (fun h => ?_)) | (with_reducible refine split_bne (fun h => ?_) (fun h => ?_)) | (with_reducible refine split_not (fun h => ?_) (fun h => ?_)) | (with_reducible refine split_beqS (fun h => ?_) (fun h => ?_)) | (with_reducible refine split_intro (fun h => ?_) (fun h => ?_))) <;> conv => whnf)
  · exact exit_plain rfl (by rw [no (fun k => of_decide_eq_false h k.v)])
  have g2 := of_decide_eq_true h
  ((try ((refine Exists.intro none ?_); (conv => whnf))); first | ((with_reducible refine call_by (c_within08 _ _ _) ?_); conv => whnf))
  ((first | (with_reducible refine split_dec (fun h => ?_) (fun h => ?_)) | (with_reducible refine split_beq (fun h => ?_) (fun h => ?_)) | (with_reducible refine split_bne (fun h => ?_) (fun h => ?_)) | (with_reducible refine split_not (fun h => ?_) (fun h => ?_)) | (with_reducible refine split_beqS (fun h => ?_) (fun h => ?_)) | (with_reducible refine split_intro (fun h => ?_) (fun h => ?_))) <;> conv => whnf)
  · exact exit_plain rfl (by rw [no (fun k => of_decide_eq_false h k.b)])
  have g3 := of_decide_eq_true h
  ((try ((refine Exists.intro none ?_); (conv => whnf))); first | ((with_reducible refine call_by (c_within08 _ _ _) ?_); conv => whnf))
  ((first | (with_reducible refine split_dec (fun h => ?_) (fun h => ?_)) | (with_reducible refine split_beq (fun h => ?_) (fun h => ?_)) | (with_reducible refine split_bne (fun h => ?_) (fun h => ?_)) | (with_reducible refine split_not (fun h => ?_) (fun h => ?_)) | (with_reducible refine split_beqS (fun h => ?_) (fun h => ?_)) | (with_reducible refine split_intro (fun h => ?_) (fun h => ?_))) <;> conv => whnf)
  · exact exit_plain rfl (by rw [no (fun k => of_decide_eq_false h k.bt)])
  have g4 := of_decide_eq_true h
  ((with_reducible refine And.intro (show Try.prog.underlying _ = some .bool by kernel_rfl) ?_); conv => whnf)
  ((first | (with_reducible refine split_dec (fun h => ?_) (fun h => ?_)) | (with_reducible refine split_beq (fun h => ?_) (fun h => ?_)) | (with_reducible refine split_bne (fun h => ?_) (fun h => ?_)) | (with_reducible refine split_not (fun h => ?_) (fun h => ?_)) | (with_reducible refine split_beqS (fun h => ?_) (fun h => ?_)) | (with_reducible refine split_intro (fun h => ?_) (fun h => ?_))) <;> conv => whnf)
  · exact exit_plain rfl (by rw [no (fun k => hz.1 h k.z)])
  have g5 : a.baseTerm = 0 ↔ a.base = 0 := by
    apply Classical.byContradiction
    intro hn
    rw [hz.2 hn] at h; cases h
  have yes : dec (HardA a) = true := dec_true ⟨g1, g2, g3, g4, g5⟩
  unfold hardB
  rw [yes, Bool.true_and]
  repeat' (first | ((first | (with_reducible refine split_dec (fun h => ?_) (fun h => ?_)) | (with_reducible refine split_beq (fun h => ?_) (fun h => ?_)) | (with_reducible refine split_bne (fun h => ?_) (fun h => ?_)) | (with_reducible refine split_not (fun h => ?_) (fun h => ?_)) | (with_reducible refine split_beqS (fun h => ?_) (fun h => ?_)) | (with_reducible refine split_intro (fun h => ?_) (fun h => ?_))) <;> conv => whnf) | ((try ((refine Exists.intro none ?_); (conv => whnf))); first | ((with_reducible refine call_by (c_rConf a.baseConf) ?_); conv => whnf) | ((with_reducible refine call_by (c_row a.log hm _ _) ?_); conv => whnf)))
  all_goals (refine exit_plain rfl (congrArg (fun b : Bool => bv b) ?_))
  all_goals (try simp only [List.length_map] at *)
  all_goals (try simp_all)
  all_goals (try omega)

theorem c_lCheck (a : Hrd) (hm : a.log.length ≤ maxLen) : Ctr Try.prog 120 [.ag a.enc] (iv (if hardB a then 0 else 6)) [] := by
  have no : ¬ HardA a → hardB a = false := fun hn => by unfold hardB; rw [dec_false hn]; rfl
  have hz : ((a.baseTerm == 0) != (a.base == 0)) = true ↔ ¬ (a.baseTerm = 0 ↔ a.base = 0) := by
    rw [bne_iff_ne, ne_eq, Bool.eq_iff_iff, beq_iff_eq, beq_iff_eq]
  refine spec_of_body mixed Try.func120 rfl (by kernel_rfl) (by kernel_rfl) ?_; conv => whnf
  repeat' (first | ((first | (first | (with_reducible refine split_dt (by assumption) ?_) | (with_reducible refine split_df (by assumption) ?_) | (with_reducible refine split_et (by assumption) ?_) | (with_reducible refine split_ef (by assumption) ?_) | (with_reducible refine split_bt (by assumption) ?_) | (with_reducible refine split_bf (by assumption) ?_) | (with_reducible refine split_nt (by assumption) ?_) | (with_reducible refine split_nf (by assumption) ?_) | (with_reducible refine split_t (by assumption) ?_) | (with_reducible refine split_f (by assumption) ?_)) | (first | (with_reducible refine split_dec (fun h => ?_) (fun h => ?_)) | (with_reducible refine split_beq (fun h => ?_) (fun h => ?_)) | (with_reducible refine split_bne (fun h => ?_) (fun h => ?_)) | (with_reducible refine split_not (fun h => ?_) (fun h => ?_)) | (with_reducible refine split_beqS (fun h => ?_) (fun h => ?_)) | (with_reducible refine split_intro (fun h => ?_) (fun h => ?_)))) <;> conv => whnf) | ((with_reducible refine And.intro (show Try.prog.underlying _ = some .bool by kernel_rfl) ?_); conv => whnf))
  all_goals first
    | (refine exit_plain rfl (congrArg (fun n : Int => iv n) ?_)
       rw [no (by intro k; obtain ⟨k1, k2, k3, k4, k5⟩ := (hardA_iff a).1 k; first | omega | (exact hz.1 (by assumption) k5))]
       rfl)
    | skip
  have yes : dec (HardA a) = true := dec_true ⟨by omega, by omega, by omega, by omega, by
    apply Classical.byContradiction
    intro hn
    rw [hz.2 hn] at h; cases h⟩
  unfold hardB
  rw [yes, Bool.true_and]
  ((try ((refine Exists.intro none ?_); (conv => whnf))); first | ((with_reducible refine call_by (c_Check a.baseConf) ?_); conv => whnf))
  cases hc : confB a.baseConf
  · simp only [Bool.false_eq_true, if_false]
    conv => whnf
    exact exit_plain rfl rfl
  · simp only [if_true]
    conv => whnf
    repeat' (first | ((first | (first | (with_reducible refine split_dt (by assumption) ?_) | (with_reducible refine split_df (by assumption) ?_) | (with_reducible refine split_et (by assumption) ?_) | (with_reducible refine split_ef (by assumption) ?_) | (with_reducible refine split_bt (by assumption) ?_) | (with_reducible refine split_bf (by assumption) ?_) | (with_reducible refine split_nt (by assumption) ?_) | (with_reducible refine split_nf (by assumption) ?_) | (with_reducible refine split_t (by assumption) ?_) | (with_reducible refine split_f (by assumption) ?_)) | (first | (with_reducible refine split_dec (fun h => ?_) (fun h => ?_)) | (with_reducible refine split_beq (fun h => ?_) (fun h => ?_)) | (with_reducible refine split_bne (fun h => ?_) (fun h => ?_)) | (with_reducible refine split_not (fun h => ?_) (fun h => ?_)) | (with_reducible refine split_beqS (fun h => ?_) (fun h => ?_)) | (with_reducible refine split_intro (fun h => ?_) (fun h => ?_)))) <;> conv => whnf) | ((try ((refine Exists.intro none ?_); (conv => whnf))); first | ((with_reducible refine call_by (c_rightEntries a.log hm _ _) ?_); conv => whnf)))
    all_goals (refine exit_plain rfl (congrArg (fun n : Int => iv n) ?_))
    all_goals (try simp only [List.length_map] at *)
    all_goals (try simp_all)
    all_goals (try omega)
    all_goals (try (intro _ e; rw [e] at h; simp at h))
end Go.Proofs
