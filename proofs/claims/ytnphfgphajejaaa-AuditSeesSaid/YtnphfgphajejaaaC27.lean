/- Contracts of functions: values, commands, calls that may be. -/
import Derived.Test.YtnphfgphajejaaaC22
import Derived.Test.YtnphfgphajejaaaC9
namespace Go.Proofs
open Go.Pv
set_option maxRecDepth 100000

noncomputable def checkV (v : VVal) : Int :=
  if v.kind < 0 ∨ 2 < v.kind then 15 else
  if v.kind = 2 ∧ 32 < (v.text.size : Int) then 2 else
  if (v.kind ≠ 2 ∧ v.text ≠ bz) ∨ (v.kind ≠ 1 ∧ v.num ≠ 0) then 8 else
  if fnan v.num = true ∧ v.num ≠ theNaN then 8 else 0

theorem fnan0 : fnan 0 = false := by decide +kernel
theorem canonF_0 : canonF 0 = 0 := by unfold canonF; rw [fnan0]; rfl
theorem canonF_eq0 (x : Nat) : canonF x = canonF 0 ↔ x = 0 := by
  rw [canonF_eq, fnan0]; simp
theorem canonF_id (x : Nat) : canonF x = x ↔ ¬ (fnan x = true ∧ x ≠ theNaN) := by
  unfold canonF
  cases h : fnan x
  · simp
  · simp only [if_true, true_and, ne_eq, Classical.not_not]; exact ⟨Eq.symm, Eq.symm⟩

theorem bl_nil (a : ByteArray) : a.toList = [] ↔ a = bz := by
  have h : (bz : ByteArray).toList = [] := by rw [bl_eq]
  rw [← h, bl_inj]
theorem bz_nil : (bz : ByteArray).toList = [] := by rw [bl_eq]
theorem c_nSame0 (x : Nat) : Ctr Try.prog 232 [.sc (.float .f64 x), .sc (.float .f64 0)] (bv (decide (x = 0))) [] := by
  have hs := c_nSame x 0
  rwa [decide_eq_decide.2 (canonF_eq0 x)] at hs

theorem nan_cast (x : Nat) : (x : Int) = 9221120237041090561 ↔ x = theNaN := by
  unfold theNaN; omega

theorem c_nought (x : Nat) : Ctr Try.prog 235 [.sc (.float .f64 x)] (bv (decide (x = 0))) [] := by
  refine spec_of_body mixed Try.func235 rfl (by kernel_rfl) (by kernel_rfl) ?_; conv => whnf
  ((try ((refine Exists.intro none ?_); (conv => whnf))); first | ((with_reducible refine call_by (c_bits x) ?_); conv => whnf))
  refine exit_plain rfl ?_
  show bv ((x : Int) == 0) = _
  have e : (x = 0) ↔ ((x : Int) = 0) := by omega
  rw [decide_eq_decide.2 e]; rfl
theorem c_rNaN : Ctr Try.prog 237 [] (.sc (.float .f64 theNaN)) [] := by
  have h := c_frombits theNaN (by decide)
  refine spec_of_body mixed Try.func237 rfl (by kernel_rfl) (by kernel_rfl) ?_; conv => whnf
  ((try ((refine Exists.intro none ?_); (conv => whnf))); first | ((with_reducible refine call_by (h) ?_); conv => whnf))
  exact exit_plain rfl rfl

theorem c_rCheck05 (v : VVal) : Ctr Try.prog 225 [.ag v.enc] (iv (checkV v)) [] := by
  refine spec_of_body mixed Try.func225 rfl (by kernel_rfl) (by kernel_rfl) ?_; conv => whnf
  repeat' (first | ((first | (with_reducible refine split_dec (fun h => ?_) (fun h => ?_)) | (with_reducible refine split_beq (fun h => ?_) (fun h => ?_)) | (with_reducible refine split_bne (fun h => ?_) (fun h => ?_)) | (with_reducible refine split_not (fun h => ?_) (fun h => ?_)) | (with_reducible refine split_beqS (fun h => ?_) (fun h => ?_)) | (with_reducible refine split_intro (fun h => ?_) (fun h => ?_))) <;> conv => whnf) | ((try ((refine Exists.intro none ?_); (conv => whnf))); first | ((with_reducible refine call_by (c_nought v.num) ?_); conv => whnf) | ((with_reducible refine call_by (c_bits v.num) ?_); conv => whnf) | ((with_reducible refine call_by (c_rNaN) ?_); conv => whnf) | ((with_reducible refine call_by (c_bits theNaN) ?_); conv => whnf)))
  all_goals (refine exit_plain rfl (congrArg (fun n : Int => iv n) ?_))
  all_goals (unfold checkV)
  all_goals (try simp only [bl_beq, decide_eq_true_eq, decide_eq_false_iff_not, fnan] at *)
  all_goals (try simp_all [bl_nil, nan_cast])
  all_goals (try ((repeat' split) <;> first | omega | simp_all [bl_nil, nan_cast] | skip))

theorem c_canon (x : Nat) : Ctr Try.prog 245 [.sc (.float .f64 x)] (bv (decide (canonF x = x))) [] := by
  refine spec_of_body mixed Try.func245 rfl (by kernel_rfl) (by kernel_rfl) ?_; conv => whnf
  ((try ((refine Exists.intro none ?_); (conv => whnf))); first | ((with_reducible refine call_by (c_Canon x) ?_); conv => whnf))
  ((try ((refine Exists.intro none ?_); (conv => whnf))); first | ((with_reducible refine call_by (c_bits (canonF x)) ?_); conv => whnf))
  ((try ((refine Exists.intro none ?_); (conv => whnf))); first | ((with_reducible refine call_by (c_bits x) ?_); conv => whnf))
  refine exit_plain rfl ?_
  show bv ((canonF x : Int) == (x : Int)) = _
  have e : (canonF x = x) ↔ ((canonF x : Int) = (x : Int)) := by omega
  rw [decide_eq_decide.2 e]; rfl

theorem c_vCheck (v : VVal) : Ctr Try.prog 239 [.ag v.enc] (iv (checkV v)) [] := by
  have f0 := fnan0
  refine spec_of_body mixed Try.func239 rfl (by kernel_rfl) (by kernel_rfl) ?_; conv => whnf
  repeat' (first | ((first | (with_reducible refine split_dec (fun h => ?_) (fun h => ?_)) | (with_reducible refine split_beq (fun h => ?_) (fun h => ?_)) | (with_reducible refine split_bne (fun h => ?_) (fun h => ?_)) | (with_reducible refine split_not (fun h => ?_) (fun h => ?_)) | (with_reducible refine split_beqS (fun h => ?_) (fun h => ?_)) | (with_reducible refine split_intro (fun h => ?_) (fun h => ?_))) <;> conv => whnf) | ((try ((refine Exists.intro none ?_); (conv => whnf))); first | ((with_reducible refine call_by (c_nSame0 v.num) ?_); conv => whnf) | ((with_reducible refine call_by (c_canon v.num) ?_); conv => whnf)))
  all_goals (refine exit_plain rfl (congrArg (fun n : Int => iv n) ?_))
  all_goals (unfold checkV)
  all_goals (try simp only [bl_beq, canonF_id, decide_eq_true_eq, decide_eq_false_iff_not] at *)
  all_goals (try simp_all [bl_nil])
  all_goals (try ((repeat' split) <;> first | omega | simp_all [bl_nil] | skip))
end Go.Proofs
