/- Of the law ConfSteps. -/
import Derived.Test.YtnphfgphajejaaaC21
set_option linter.unusedSimpArgs false
set_option linter.unusedVariables false
namespace Go.Proofs
open Go.Pv
set_option maxRecDepth 100000

theorem hit_err {e : Int} (he : e ≠ 0) (b : Conf) : hitS (cz, e) b = false := by
  simp [hitS, he]
theorem hit_stepped {x b : Conf} (hb : Cok b) : hitS (steppedR x) b = decide (x = b) := by
  unfold steppedR
  cases hc : confB x
  · rw [if_neg (by simp), hit_err (by decide)]
    symm
    apply decide_eq_false
    intro e; subst e
    rw [(confB_iff x).2 hb] at hc; cases hc
  · simp [hitS]

theorem nearI_eq {a b : Conf} (ha : Cok a) (hb : Cok b) {n : Nat} (hn : n < 7) : nearI a b n = (stepsAt a n).any fun x => decide (x = b) := by
  have one := ha.one n
  have hw := wrongR_ok ha hn
  have b1 := bit0_iff (x := a.learn) hn
  have b2 := bit0_iff (x := a.lwit) hn
  have bf := free_iff (c := a) hn
  unfold nearI learnR promoteR removeR stepsAt
  rw [if_pos hw, if_pos hw, if_pos hw, if_pos hw]
  unfold free at bf
  revert one
  cases hf : tb a.full n <;> cases hwt : tb a.wit n <;> cases hl : tb a.learn n <;> cases hx : tb a.lwit n <;> intro one <;> simp [one4] at one <;> (simp only [hl] at b1; simp only [hx] at b2; simp only [hf, hwt, hl, hx] at bf; simp at b1 b2 bf; simp [b1, b2, bf, hit_stepped hb, hit_err]) <;> exact Bool.or_comm _ _

theorem steps_any (a : Conf) (p : Conf → Bool) : ∀ n, (stepsL a n).any p = (List.range n).any fun i => (stepsAt a i).any p
  | 0 => rfl
  | n + 1 => by rw [List.range_succ]; simp only [stepsL, List.any_append, steps_any a p n]; simp

theorem nearL_eq (a b : Conf) : nearL a b = nearR a b := by
  unfold nearL nearR
  cases hA : confB a
  · rfl
  cases hB : confB b
  · rfl
  have ha := (confB_iff a).1 hA
  have hb := (confB_iff b).1 hB
  simp only [Bool.true_and]
  rw [Bool.or_comm, steps_any]
  congr 1
  rw [Bool.eq_iff_iff, List.any_eq_true, List.any_eq_true]
  constructor
  · rintro ⟨i, hi, h⟩; exact ⟨i, hi, by rw [nearI_eq ha hb (List.mem_range.1 hi)]; exact h⟩
  · rintro ⟨i, hi, h⟩; exact ⟨i, hi, by rw [nearI_eq ha hb (List.mem_range.1 hi)] at h; exact h⟩

set_option maxHeartbeats 1000000 in
theorem l_ConfSteps (a b : Conf) (i : Int) (wit : Bool) : Ctr Try.prog 16 [.ag a.enc, .ag b.enc, iv i, bv wit] (bv true) [] := by
  have hk : ∀ x : Conf, Ctr Try.prog 56 [.ag x.enc, .ag x.enc] (bv true) [] := fun x => by have := c_kConf x x; rwa [decide_eq_true rfl] at this
  have n1 : ∀ x y, Ctr Try.prog 101 [.ag x.enc, .ag y.enc] (bv (nearR x y)) [] := fun x y => by rw [← nearL_eq]; exact c_rNear x y
  refine spec_of_body mixed Try.func16 rfl (by kernel_rfl) (by kernel_rfl) ?_; conv => whnf
  ((try ((refine Exists.intro none ?_); (conv => whnf))); first | ((with_reducible refine call_by (c_Learn a i wit) ?_); conv => whnf))
  ((try ((refine Exists.intro none ?_); (conv => whnf))); first | ((with_reducible refine call_by (c_rLearn a i wit) ?_); conv => whnf))
  ((try ((refine Exists.intro none ?_); (conv => whnf))); first | ((with_reducible refine call_by (hk _) ?_); conv => whnf))
  ((first | (with_reducible refine split_et rfl ?_) | (with_reducible refine split_bf rfl ?_) | (with_reducible refine split_t (beq_self_eq_true _) ?_) | (with_reducible refine split_f (bne_self_eq_false _) ?_)); conv => whnf)
  ((try ((refine Exists.intro none ?_); (conv => whnf))); first | ((with_reducible refine call_by (c_Promote a i) ?_); conv => whnf))
  ((try ((refine Exists.intro none ?_); (conv => whnf))); first | ((with_reducible refine call_by (c_rPromote a i) ?_); conv => whnf))
  ((try ((refine Exists.intro none ?_); (conv => whnf))); first | ((with_reducible refine call_by (hk _) ?_); conv => whnf))
  ((first | (with_reducible refine split_et rfl ?_) | (with_reducible refine split_bf rfl ?_) | (with_reducible refine split_t (beq_self_eq_true _) ?_) | (with_reducible refine split_f (bne_self_eq_false _) ?_)); conv => whnf)
  ((try ((refine Exists.intro none ?_); (conv => whnf))); first | ((with_reducible refine call_by (c_Remove a i) ?_); conv => whnf))
  ((try ((refine Exists.intro none ?_); (conv => whnf))); first | ((with_reducible refine call_by (c_rRemove a i) ?_); conv => whnf))
  ((try ((refine Exists.intro none ?_); (conv => whnf))); first | ((with_reducible refine call_by (hk _) ?_); conv => whnf))
  ((first | (with_reducible refine split_et rfl ?_) | (with_reducible refine split_bf rfl ?_) | (with_reducible refine split_t (beq_self_eq_true _) ?_) | (with_reducible refine split_f (bne_self_eq_false _) ?_)); conv => whnf)
  ((try ((refine Exists.intro none ?_); (conv => whnf))); first | ((with_reducible refine call_by (c_Near a b) ?_); conv => whnf))
  ((try ((refine Exists.intro none ?_); (conv => whnf))); first | ((with_reducible refine call_by (n1 a b) ?_); conv => whnf))
  ((with_reducible refine And.intro (show Try.prog.underlying _ = some .bool by kernel_rfl) ?_); conv => whnf)
  ((first | (with_reducible refine split_et rfl ?_) | (with_reducible refine split_bf rfl ?_) | (with_reducible refine split_t (beq_self_eq_true _) ?_) | (with_reducible refine split_f (bne_self_eq_false _) ?_)); conv => whnf)
  ((try ((refine Exists.intro none ?_); (conv => whnf))); first | ((with_reducible refine call_by (c_Near a _) ?_); conv => whnf))
  ((try ((refine Exists.intro none ?_); (conv => whnf))); first | ((with_reducible refine call_by (n1 a _) ?_); conv => whnf))
  ((with_reducible refine And.intro (show Try.prog.underlying _ = some .bool by kernel_rfl) ?_); conv => whnf)
  ((first | (with_reducible refine split_et rfl ?_) | (with_reducible refine split_bf rfl ?_) | (with_reducible refine split_t (beq_self_eq_true _) ?_) | (with_reducible refine split_f (bne_self_eq_false _) ?_)); conv => whnf)
  ((try ((refine Exists.intro none ?_); (conv => whnf))); first | ((with_reducible refine call_by (c_wakes08) ?_); conv => whnf))
  exact exit_plain rfl rfl

theorem told_ConfSteps (qs : List PV) (h : ArgsOf Try.prog [23, 23, 3, 4] qs) : Ctr Try.prog 16 qs (bv true) [] := by
  obtain ⟨p1, qs, rfl, h1, h⟩ := argsOf_cons h
  obtain ⟨p2, qs, rfl, h2, h⟩ := argsOf_cons h
  obtain ⟨p3, qs, rfl, h3, h⟩ := argsOf_cons h
  obtain ⟨p4, qs, rfl, h4, h⟩ := argsOf_cons h
  obtain rfl := argsOf_nil h
  obtain ⟨a, rfl, _⟩ := arg_Conf h1
  obtain ⟨b, rfl, _⟩ := arg_Conf h2
  obtain ⟨i, rfl, _⟩ := arg_i h3
  obtain ⟨w, rfl⟩ := arg_b h4
  exact l_ConfSteps a b i w
end Go.Proofs
