/- Contracts of functions: commands and calls that may be; the zero call. -/
import Derived.Test.YtnphfgphajejaaaC27
namespace Go.Proofs
open Go.Pv
set_option maxRecDepth 100000

/-- The zero value. -/
noncomputable def zeroV (v : VVal) : Bool := decide (v.kind = 0 ∧ v.num = 0 ∧ v.text = bz)
theorem zeroV_iff (v : VVal) : zeroV v = true ↔ v.kind = 0 ∧ checkV v = 0 := by
  unfold zeroV checkV
  rw [decide_eq_true_eq]
  have f0 := fnan0
  constructor
  · rintro ⟨h1, h2, h3⟩
    rw [h1, h2, h3]; simp [f0]
  · rintro ⟨h1, h2⟩
    rw [h1] at h2
    refine ⟨h1, ?_⟩
    simp only [show ¬ ((0 : Int) < 0 ∨ (2 : Int) < 0) by omega, if_false] at h2
    split at h2
    · omega
    · split at h2
      · omega
      · rename_i _ h3
        have h3' : ¬ ((0 : Int) ≠ 2 ∧ v.text ≠ bz) ∧ ¬ ((0 : Int) ≠ 1 ∧ v.num ≠ 0) := ⟨fun h => h3 (.inl h), fun h => h3 (.inr h)⟩
        simp at h3'
        exact ⟨h3'.2, h3'.1⟩

theorem c_zero (v : VVal) : Ctr Try.prog 224 [.ag v.enc] (bv (zeroV v)) [] := by
  refine spec_of_body mixed Try.func224 rfl (by kernel_rfl) (by kernel_rfl) ?_; conv => whnf
  ((first | (with_reducible refine split_dec (fun h => ?_) (fun h => ?_)) | (with_reducible refine split_beq (fun h => ?_) (fun h => ?_)) | (with_reducible refine split_bne (fun h => ?_) (fun h => ?_)) | (with_reducible refine split_not (fun h => ?_) (fun h => ?_)) | (with_reducible refine split_beqS (fun h => ?_) (fun h => ?_)) | (with_reducible refine split_intro (fun h => ?_) (fun h => ?_))) <;> conv => whnf)
  · ((try ((refine Exists.intro none ?_); (conv => whnf))); first | ((with_reducible refine call_by (c_rCheck05 v) ?_); conv => whnf))
    refine exit_plain rfl (congrArg (fun b : Bool => bv b) ?_)
    rw [Bool.eq_iff_iff, zeroV_iff, beq_iff_eq]
    simp [h]
  · exact exit_plain rfl (by simp [zeroV, h])
theorem c_none (v : VVal) : Ctr Try.prog 240 [.ag v.enc] (bv (zeroV v)) [] := by
  refine spec_of_body mixed Try.func240 rfl (by kernel_rfl) (by kernel_rfl) ?_; conv => whnf
  repeat' (first | ((first | (with_reducible refine split_dec (fun h => ?_) (fun h => ?_)) | (with_reducible refine split_beq (fun h => ?_) (fun h => ?_)) | (with_reducible refine split_bne (fun h => ?_) (fun h => ?_)) | (with_reducible refine split_not (fun h => ?_) (fun h => ?_)) | (with_reducible refine split_beqS (fun h => ?_) (fun h => ?_)) | (with_reducible refine split_intro (fun h => ?_) (fun h => ?_))) <;> conv => whnf) | ((try ((refine Exists.intro none ?_); (conv => whnf))); first | ((with_reducible refine call_by (c_nSame0 v.num) ?_); conv => whnf)))
  all_goals (refine exit_plain rfl (congrArg (fun n : Bool => bv n) ?_))
  all_goals (unfold zeroV)
  all_goals (try simp only [bl_beq, decide_eq_true_eq, decide_eq_false_iff_not] at *)
  all_goals (simp_all [bl_nil])
theorem c_noValue (v : VVal) : Ctr Try.prog 246 [.ag v.enc] (bv (zeroV v)) [] := by
  refine spec_of_body mixed Try.func246 rfl (by kernel_rfl) (by kernel_rfl) ?_; conv => whnf
  repeat' (first | ((first | (with_reducible refine split_dec (fun h => ?_) (fun h => ?_)) | (with_reducible refine split_beq (fun h => ?_) (fun h => ?_)) | (with_reducible refine split_bne (fun h => ?_) (fun h => ?_)) | (with_reducible refine split_not (fun h => ?_) (fun h => ?_)) | (with_reducible refine split_beqS (fun h => ?_) (fun h => ?_)) | (with_reducible refine split_intro (fun h => ?_) (fun h => ?_))) <;> conv => whnf) | ((try ((refine Exists.intro none ?_); (conv => whnf))); first | ((with_reducible refine call_by (c_nSame0 v.num) ?_); conv => whnf)))
  all_goals (refine exit_plain rfl (congrArg (fun n : Bool => bv n) ?_))
  all_goals (unfold zeroV)
  all_goals (try simp only [bl_beq, decide_eq_true_eq, decide_eq_false_iff_not] at *)
  all_goals (simp_all [bl_nil])

noncomputable def cmdR (c : VCmd) : Int :=
  if c.kind < 1 ∨ 6 < c.kind then 15 else
  if 8 < (c.key.size : Int) then 2 else
  if (c.key.size : Int) < 1 ∨ (c.kind ≠ 4 ∧ zeroV c.old = false) ∨ checkV c.old ≠ 0 ∨ checkV c.val ≠ 0 then 8 else
  if c.kind = 1 ∨ c.kind = 3 then (if zeroV c.val then 0 else 8) else
  if c.kind = 2 then (if c.val.kind = 0 then 8 else 0) else
  if c.kind = 5 ∨ c.kind = 6 then (if c.val.kind = 1 then 0 else 8) else 0

set_option maxHeartbeats 2000000 in
theorem c_rCmd (c : VCmd) : Ctr Try.prog 197 [.ag c.enc] (iv (cmdR c)) [] := by
  refine spec_of_body mixed Try.func197 rfl (by kernel_rfl) (by kernel_rfl) ?_; conv => whnf
  repeat' (first | ((first | (with_reducible refine split_dec (fun h => ?_) (fun h => ?_)) | (with_reducible refine split_beq (fun h => ?_) (fun h => ?_)) | (with_reducible refine split_bne (fun h => ?_) (fun h => ?_)) | (with_reducible refine split_not (fun h => ?_) (fun h => ?_)) | (with_reducible refine split_beqS (fun h => ?_) (fun h => ?_)) | (with_reducible refine split_intro (fun h => ?_) (fun h => ?_))) <;> conv => whnf) | ((try ((refine Exists.intro none ?_); (conv => whnf))); first | ((with_reducible refine call_by (c_zero c.old) ?_); conv => whnf) | ((with_reducible refine call_by (c_zero c.val) ?_); conv => whnf) | ((with_reducible refine call_by (c_rCheck05 c.old) ?_); conv => whnf) | ((with_reducible refine call_by (c_rCheck05 c.val) ?_); conv => whnf)))
  all_goals (refine exit_plain rfl (congrArg (fun n : Int => iv n) ?_))
  all_goals (unfold cmdR)
  all_goals (try simp_all)
  all_goals (try ((repeat' split) <;> first | omega | simp_all | skip))

theorem c_rightKey (s : ByteArray) : Ctr Try.prog 238 [sv s] (bv (decide (1 ≤ (s.size : Int) ∧ (s.size : Int) ≤ 8))) [] := by
  refine spec_of_body mixed Try.func238 rfl (by kernel_rfl) (by kernel_rfl) ?_; conv => whnf
  repeat' ((first | (with_reducible refine split_dec (fun h => ?_) (fun h => ?_)) | (with_reducible refine split_beq (fun h => ?_) (fun h => ?_)) | (with_reducible refine split_bne (fun h => ?_) (fun h => ?_)) | (with_reducible refine split_not (fun h => ?_) (fun h => ?_)) | (with_reducible refine split_beqS (fun h => ?_) (fun h => ?_)) | (with_reducible refine split_intro (fun h => ?_) (fun h => ?_))) <;> conv => whnf)
  all_goals (refine exit_plain rfl (congrArg (fun n : Bool => bv n) ?_))
  all_goals simp_all
  all_goals omega
set_option maxHeartbeats 2000000 in
theorem c_kvRight (c : VCmd) : Ctr Try.prog 227 [.ag c.enc] (iv (cmdR c)) [] := by
  have z1 := zeroV_iff c.old
  have z2 := zeroV_iff c.val
  refine spec_of_body mixed Try.func227 rfl (by kernel_rfl) (by kernel_rfl) ?_; conv => whnf
  repeat' (first | ((first | (with_reducible refine split_dec (fun h => ?_) (fun h => ?_)) | (with_reducible refine split_beq (fun h => ?_) (fun h => ?_)) | (with_reducible refine split_bne (fun h => ?_) (fun h => ?_)) | (with_reducible refine split_not (fun h => ?_) (fun h => ?_)) | (with_reducible refine split_beqS (fun h => ?_) (fun h => ?_)) | (with_reducible refine split_intro (fun h => ?_) (fun h => ?_))) <;> conv => whnf) | ((try ((refine Exists.intro none ?_); (conv => whnf))); first | ((with_reducible refine call_by (c_rightKey c.key) ?_); conv => whnf) | ((with_reducible refine call_by (c_none c.old) ?_); conv => whnf) | ((with_reducible refine call_by (c_none c.val) ?_); conv => whnf) | ((with_reducible refine call_by (c_vCheck c.old) ?_); conv => whnf) | ((with_reducible refine call_by (c_vCheck c.val) ?_); conv => whnf)))
  all_goals (refine exit_plain rfl (congrArg (fun n : Int => iv n) ?_))
  all_goals (unfold cmdR)
  all_goals (try simp_all)
  all_goals (try ((repeat' split) <;> first | omega | simp_all | skip))
end Go.Proofs
