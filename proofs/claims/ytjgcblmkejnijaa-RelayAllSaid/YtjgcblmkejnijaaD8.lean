/- Contracts of functions: the places' wake. -/
import Derived.Test.YtjgcblmkejnijaaD7
set_option linter.unusedSimpArgs false
set_option linter.unusedVariables false
namespace Go.Proofs
open Go.Pv
set_option maxRecDepth 100000

theorem c_bits14 (x : Nat) : Ctr Try.prog 101 [.sc (.float .f64 x)] (.sc (.int .u64 x)) [] := by
  refine ctr_extern (e := Go.Extern.MathFloatBits.float64bits) Try.func101 (by kernel_rfl) (by kernel_rfl) (by kernel_rfl) (by kernel_rfl) ?_
  intro w M vs hv
  simp only [RVL, RV] at hv
  obtain ⟨c, r, rfl, rfl, rfl⟩ := hv
  rfl
theorem c_negz : Ctr Try.prog 64 [.sc (.float .f64 0), .sc (.float .f64 13830554455654793216)] (.sc (.float .f64 9223372036854775808)) [] := by
  have e1 : iandn .u64 ((0 : Nat) : Int) 9223372036854775808 = 0 := by simp only [iandn_eq]; kernel_rfl
  have e2 : iand .u64 ((13830554455654793216 : Nat) : Int) 9223372036854775808 = 9223372036854775808 := by simp only [iand_eq]; kernel_rfl
  have e3 : ior .u64 0 9223372036854775808 = 9223372036854775808 := by simp only [ior_eq]; kernel_rfl
  refine spec_of_body mixed Try.func64 rfl (by kernel_rfl) (by kernel_rfl) ?_; conv => whnf
  ((try ((refine Exists.intro none ?_); (conv => whnf))); first | ((with_reducible refine call_by (c_bits14 0) ?_); conv => whnf))
  ((try ((refine Exists.intro none ?_); (conv => whnf))); first | ((with_reducible refine call_by (c_bits14 13830554455654793216) ?_); conv => whnf))
  rw [e1, e2, e3]
  ((try ((refine Exists.intro none ?_); (conv => whnf))); first | ((with_reducible refine call_by (c_fbits 9223372036854775808 (by decide)) ?_); conv => whnf))
  exact exit_plain rfl rfl
theorem c_NaN14 : Ctr Try.prog 65 [] (.sc (.float .f64 9221120237041090561)) [] := by
  refine spec_of_body mixed Try.func65 rfl (by kernel_rfl) (by kernel_rfl) ?_; conv => whnf
  ((try ((refine Exists.intro none ?_); (conv => whnf))); first | ((with_reducible refine call_by (c_fbits 9221120237041090561 (by decide)) ?_); conv => whnf))
  exact exit_plain rfl rfl
abbrev w14 : List Pl := [⟨2, 0, 0, 0⟩, ⟨1, 0, 9223372036854775808, 9223372036854775808⟩, ⟨0, 0, 9221120237041090561, 0⟩]
theorem w14_ok : plsB w14 = true := by
  have s2 : ∀ j, tb (shl 1 2) j = decide (2 = j) := fun j => tb_shl 2 j (by decide)
  have s1 : ∀ j, tb (shl 1 1) j = decide (1 = j) := fun j => tb_shl 1 j (by decide)
  simp [plsB, chkP, PlIn, tb_or, tb_zero, s1, s2]
theorem w14_best : bestP w14 7 = 1 := by kernel_rfl
theorem c_wakes14 : Ctr Try.prog 23 [] (bv true) [] := by
  have k := c_Best w14 (by decide) w14_ok 7
  rw [w14_best] at k
  refine spec_of_body mixed Try.func23 rfl (by kernel_rfl) (by kernel_rfl) ?_; conv => whnf
  ((try ((refine Exists.intro none ?_); (conv => whnf))); first | ((with_reducible refine call_by (c_negz) ?_); conv => whnf))
  ((try ((refine Exists.intro none ?_); (conv => whnf))); first | ((with_reducible refine call_by (c_negz) ?_); conv => whnf))
  ((try ((refine Exists.intro none ?_); (conv => whnf))); first | ((with_reducible refine call_by (c_NaN14) ?_); conv => whnf))
  ((try ((refine Exists.intro none ?_); (conv => whnf))); refine call_deep (k) (by (repeat' (first | exact subVL_nil | exact subVR_nil | refine subVL_cons ?_ ?_ | refine subVR_cons ?_ ?_ | exact SubV.refl _ | exact subV_nl | (with_reducible exact subV_tk rfl) | refine subV_ag ?_ | refine subV_sl ?_ | refine subV_ep ?_))) ?_; conv => whnf)
  exact exit_plain rfl rfl
end Go.Proofs
