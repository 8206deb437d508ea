/- Of the law ConfSteps. -/
import Derived.Test.YtbhfokahocgndaaGreatC21
set_option linter.unusedSimpArgs false
set_option linter.unusedVariables false
namespace Go.Proofs
open Go.Pv
set_option maxRecDepth 100000

theorem hit_err {e : Int} (he : e ≠ 0) (b : Conf) : hitS (cz, e) b = false := by
  simp [hitS, he]
theorem hit_stepped {x b : Conf} (hb : Cok b) : hitS (steppedR x) b = decide (x = b) := by
  unfold steppedR
  cases hc : confB x
  · rw [if_neg (by simp), hit_err (by decide)]
    symm
    apply decide_eq_false
    intro e; subst e
    rw [(confB_iff x).2 hb] at hc; cases hc
  · simp [hitS]

theorem nearI_eq {a b : Conf} (ha : Cok a) (hb : Cok b) {n : Nat} (hn : n < 7) : nearI a b n = (stepsAt a n).any fun x => decide (x = b) := by
  have one := ha.one n
  have hw := wrongR_ok ha hn
  have b1 := bit0_iff (x := a.learn) hn
  have b2 := bit0_iff (x := a.lwit) hn
  have bf := free_iff (c := a) hn
  unfold nearI learnR promoteR removeR stepsAt
  rw [if_pos hw, if_pos hw, if_pos hw, if_pos hw]
  unfold free at bf
  revert one
  cases hf : tb a.full n <;> cases hwt : tb a.wit n <;> cases hl : tb a.learn n <;> cases hx : tb a.lwit n <;> intro one <;> simp [one4] at one <;> (simp only [hl] at b1; simp only [hx] at b2; simp only [hf, hwt, hl, hx] at bf; simp at b1 b2 bf; simp [b1, b2, bf, hit_stepped hb, hit_err]) <;> exact Bool.or_comm _ _

theorem steps_any (a : Conf) (p : Conf → Bool) : ∀ n, (stepsL a n).any p = (List.range n).any fun i => (stepsAt a i).any p
  | 0 => rfl
  | n + 1 => by rw [List.range_succ]; simp only [stepsL, List.any_append, steps_any a p n]; simp

theorem nearL_eq (a b : Conf) : nearL a b = nearR a b := by
  unfold nearL nearR
  cases hA : confB a
  · rfl
  cases hB : confB b
  · rfl
  have ha := (confB_iff a).1 hA
  have hb := (confB_iff b).1 hB
  simp only [Bool.true_and]
  rw [Bool.or_comm, steps_any]
  congr 1
  rw [Bool.eq_iff_iff, List.any_eq_true, List.any_eq_true]
  constructor
  · rintro ⟨i, hi, h⟩; exact ⟨i, hi, by rw [nearI_eq ha hb (List.mem_range.1 hi)]; exact h⟩
  · rintro ⟨i, hi, h⟩; exact ⟨i, hi, by rw [nearI_eq ha hb (List.mem_range.1 hi)] at h; exact h⟩

end Go.Proofs
