/- Contracts of functions: the reference's Grow, Next, messages compared, the wake. -/
import Derived.Test.YtbhfokahocgndaaGreatC55
import Derived.Test.YtbhfokahocgndaaGreatC54
import Derived.Test.YtbhfokahocgndaaGreatC49
set_option linter.unusedSimpArgs false
set_option linter.unusedVariables false
namespace Go.Proofs
open Go.Pv
set_option maxRecDepth 100000

theorem c_within16 (x lo hi : Int) : Ctr Tryz.prog 35 [iv x, iv lo, iv hi] (bv (decide (lo ≤ x ∧ x ≤ hi))) [] := by
  refine spec_of_body mixed Tryz.func35 rfl (by kernel_rfl) (by kernel_rfl) ?_; conv => whnf
  ((first | (with_reducible refine split_dec (fun h => ?_) (fun h => ?_)) | (with_reducible refine split_beq (fun h => ?_) (fun h => ?_)) | (with_reducible refine split_bne (fun h => ?_) (fun h => ?_)) | (with_reducible refine split_not (fun h => ?_) (fun h => ?_)) | (with_reducible refine split_beqS (fun h => ?_) (fun h => ?_)) | (with_reducible refine split_intro (fun h => ?_) (fun h => ?_))) <;> conv => whnf)
  · exact exit_plain rfl (by simp [h])
  · exact exit_plain rfl (by simp [h])

abbrev Mg.wi (m : Mg) (r : List (List PV)) : Mg := { m with inner := r }
abbrev w16 : Hrd := ⟨1, -1, 0, 0, ⟨1, 0, 0, 0⟩, [], [et 1]⟩
abbrev m16 : Mg := ⟨0, 0, 0, 0, 2, 1, 0, 0, false, [et 1], ⟨0, 0, 0, 0⟩, [], []⟩
end Go.Proofs
