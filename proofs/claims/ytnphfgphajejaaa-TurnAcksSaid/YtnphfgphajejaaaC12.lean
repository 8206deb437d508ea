/- Contracts of functions: whether the configuration may change. -/
import Derived.Test.YtnphfgphajejaaaC11
namespace Go.Proofs
open Go.Pv
set_option maxRecDepth 100000

theorem c_Own (a : Hrd) (hm : a.log.length ≤ maxLen) (hb : isI a.base) (i : Int) (hi : isI i) : Ctr Try.prog 72 [.ag a.enc, iv i] (bv (fits a i a.term)) [] := by
  refine spec_of_body mixed Try.func72 rfl (by kernel_rfl) (by kernel_rfl) ?_; conv => whnf
  (first | ((with_reducible refine call_by (c_Fits a hm hb i hi _) ?_); conv => whnf))
  exact exit_plain rfl rfl
theorem c_May (a : Hrd) (hm : a.log.length ≤ maxLen) (hb : isI a.base) (i : Int) (hi : isI i) : Ctr Try.prog 73 [.ag a.enc, iv i] (bv (fits a i a.term && decide ((force a (lastI a)).2 ≤ i))) [] := by
  refine spec_of_body mixed Try.func73 rfl (by kernel_rfl) (by kernel_rfl) ?_; conv => whnf
  (first | ((with_reducible refine call_by (c_Last a hm) ?_); conv => whnf))
  (first | ((with_reducible refine call_by (c_lConf a hm _) ?_); conv => whnf))
  (first | ((with_reducible refine call_by (c_Own a hm hb i hi) ?_); conv => whnf))
  ((first | (with_reducible refine split_dec (fun h => ?_) (fun h => ?_)) | (with_reducible refine split_beq (fun h => ?_) (fun h => ?_)) | (with_reducible refine split_bne (fun h => ?_) (fun h => ?_)) | (with_reducible refine split_not (fun h => ?_) (fun h => ?_)) | (with_reducible refine split_beqS (fun h => ?_) (fun h => ?_)) | (with_reducible refine split_intro (fun h => ?_) (fun h => ?_))) <;> conv => whnf)
  all_goals (refine exit_plain rfl ?_; simp [*])

theorem entAt_mem {h : Hrd} {i : Int} {x : Ent} (e : entAt h i = some x) : x ∈ h.log := by
  unfold entAt at e
  split at e
  · exact List.mem_of_getElem? e
  · cases e
end Go.Proofs
