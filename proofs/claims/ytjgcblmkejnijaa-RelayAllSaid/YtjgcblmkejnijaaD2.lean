/- Contracts of functions: a place's score; how places are compared. -/
import Derived.Test.YtjgcblmkejnijaaD1
import Derived.Test.YtjgcblmkejnijaaPvZ1
import Derived.Test.YtjgcblmkejnijaaC1
set_option linter.unusedSimpArgs false
set_option linter.unusedVariables false
namespace Go.Proofs
open Go.Pv
set_option maxRecDepth 100000

def addW (x y : Nat) : Nat := match Ieee.double.add x y with
  | none => 9221120237041090561
  | some r => canonW r
theorem c_Add (x y : Nat) : Ctr Try.prog 61 [.sc (.float .f64 x), .sc (.float .f64 y)] (.sc (.float .f64 (addW x y))) [] := by
  refine spec_of_body mixed Try.func61 rfl (by kernel_rfl) (by kernel_rfl) ?_; conv => whnf
  refine split_opt (fun h => ?_) (fun r h => ?_)
  · conv => whnf
    ((try ((refine Exists.intro none ?_); (conv => whnf))); first | ((with_reducible refine call_by (c_CanonN) ?_); conv => whnf))
    exact exit_plain rfl (by unfold addW; rw [h])
  · conv => whnf
    ((try ((refine Exists.intro none ?_); (conv => whnf))); first | ((with_reducible refine call_by (c_CanonF r) ?_); conv => whnf))
    exact exit_plain rfl (by unfold addW; rw [h])
def scoreW (p : Pl) : Nat := if fnanB (addW p.cost p.delay) = true then infW else addW p.cost p.delay
theorem fnan_inf : fnanB infW = false := by kernel_rfl
theorem scoreW_num (p : Pl) : fnanB (scoreW p) = false := by
  unfold scoreW
  by_cases h : fnanB (addW p.cost p.delay) = true
  · rw [if_pos h]; exact fnan_inf
  · rw [if_neg h]; simpa using h
theorem c_Score (p : Pl) : Ctr Try.prog 20 [.ag p.enc] (.sc (.float .f64 (scoreW p))) [] := by
  refine spec_of_body mixed Try.func20 rfl (by kernel_rfl) (by kernel_rfl) ?_; conv => whnf
  ((try ((refine Exists.intro none ?_); (conv => whnf))); first | ((with_reducible refine call_by (c_Add p.cost p.delay) ?_); conv => whnf))
  ((try ((refine Exists.intro none ?_); (conv => whnf))); first | ((with_reducible refine call_by (c_isNaN (addW p.cost p.delay)) ?_); conv => whnf))
  ((first | (with_reducible refine split_dec (fun h => ?_) (fun h => ?_)) | (with_reducible refine split_beq (fun h => ?_) (fun h => ?_)) | (with_reducible refine split_bne (fun h => ?_) (fun h => ?_)) | (with_reducible refine split_not (fun h => ?_) (fun h => ?_)) | (with_reducible refine split_beqS (fun h => ?_) (fun h => ?_)) | (with_reducible refine split_intro (fun h => ?_) (fun h => ?_))) <;> conv => whnf)
  · ((try ((refine Exists.intro none ?_); (conv => whnf))); first | ((with_reducible refine call_by (c_Inf1) ?_); conv => whnf))
    exact exit_plain rfl (by unfold scoreW; rw [if_pos h])
  · exact exit_plain rfl (by unfold scoreW; rw [h, if_neg (by decide)])

def cmpZ (a b : Int) : Int := if a < b then -1 else if b < a then 1 else 0
theorem c_nanF (x : Nat) (h : fnanB x = false) : Ctr Try.prog 98 [.sc (.float .f64 x)] (bv false) [] := by
  refine spec_of_body mixed Try.func98 rfl (by kernel_rfl) (by kernel_rfl) ?_; conv => whnf
  refine exit_plain rfl (congrArg bv ?_)
  have := ord_eq h h
  simp only [bne, this]
  simp
theorem c_nanI (x : Int) : Ctr Try.prog 99 [iv x] (bv false) [] := by
  refine spec_of_body mixed Try.func99 rfl (by kernel_rfl) (by kernel_rfl) ?_; conv => whnf
  exact exit_plain rfl (by simp)
theorem c_CmpF (a b : Nat) (ha : fnanB a = false) (hb : fnanB b = false) : Ctr Try.prog 59 [.sc (.float .f64 a), .sc (.float .f64 b)] (iv (cmpZ (fv a) (fv b))) [] := by
  have e1 := ord_lt ha hb
  have e2 := ord_gt ha hb
  refine spec_of_body mixed Try.func59 rfl (by kernel_rfl) (by kernel_rfl) ?_; conv => whnf
  ((try ((refine Exists.intro none ?_); (conv => whnf))); first | ((with_reducible refine call_by (c_nanF a ha) ?_); conv => whnf))
  ((try ((refine Exists.intro none ?_); (conv => whnf))); first | ((with_reducible refine call_by (c_nanF b hb) ?_); conv => whnf))
  rw [e1]
  ((first | (with_reducible refine split_dec (fun h => ?_) (fun h => ?_)) | (with_reducible refine split_beq (fun h => ?_) (fun h => ?_)) | (with_reducible refine split_bne (fun h => ?_) (fun h => ?_)) | (with_reducible refine split_not (fun h => ?_) (fun h => ?_)) | (with_reducible refine split_beqS (fun h => ?_) (fun h => ?_)) | (with_reducible refine split_intro (fun h => ?_) (fun h => ?_))) <;> conv => whnf)
  · exact exit_plain rfl (by unfold cmpZ; rw [if_pos h])
  · rw [e2]
    have h0 := h
    ((first | (with_reducible refine split_dec (fun h => ?_) (fun h => ?_)) | (with_reducible refine split_beq (fun h => ?_) (fun h => ?_)) | (with_reducible refine split_bne (fun h => ?_) (fun h => ?_)) | (with_reducible refine split_not (fun h => ?_) (fun h => ?_)) | (with_reducible refine split_beqS (fun h => ?_) (fun h => ?_)) | (with_reducible refine split_intro (fun h => ?_) (fun h => ?_))) <;> conv => whnf)
    · exact exit_plain rfl (by unfold cmpZ; rw [if_neg h0, if_pos h])
    · exact exit_plain rfl (by unfold cmpZ; rw [if_neg h0, if_neg h])
theorem c_CmpI (a b : Int) : Ctr Try.prog 60 [iv a, iv b] (iv (cmpZ a b)) [] := by
  refine spec_of_body mixed Try.func60 rfl (by kernel_rfl) (by kernel_rfl) ?_; conv => whnf
  ((try ((refine Exists.intro none ?_); (conv => whnf))); first | ((with_reducible refine call_by (c_nanI a) ?_); conv => whnf))
  ((try ((refine Exists.intro none ?_); (conv => whnf))); first | ((with_reducible refine call_by (c_nanI b) ?_); conv => whnf))
  ((first | (with_reducible refine split_dec (fun h => ?_) (fun h => ?_)) | (with_reducible refine split_beq (fun h => ?_) (fun h => ?_)) | (with_reducible refine split_bne (fun h => ?_) (fun h => ?_)) | (with_reducible refine split_not (fun h => ?_) (fun h => ?_)) | (with_reducible refine split_beqS (fun h => ?_) (fun h => ?_)) | (with_reducible refine split_intro (fun h => ?_) (fun h => ?_))) <;> conv => whnf)
  · exact exit_plain rfl (by unfold cmpZ; rw [if_pos h])
  · have h0 := h
    ((first | (with_reducible refine split_dec (fun h => ?_) (fun h => ?_)) | (with_reducible refine split_beq (fun h => ?_) (fun h => ?_)) | (with_reducible refine split_bne (fun h => ?_) (fun h => ?_)) | (with_reducible refine split_not (fun h => ?_) (fun h => ?_)) | (with_reducible refine split_beqS (fun h => ?_) (fun h => ?_)) | (with_reducible refine split_intro (fun h => ?_) (fun h => ?_))) <;> conv => whnf)
    · exact exit_plain rfl (by unfold cmpZ; rw [if_neg h0, if_pos h])
    · exact exit_plain rfl (by unfold cmpZ; rw [if_neg h0, if_neg h])
theorem c_Or (x y : Int) : Ctr Try.prog 58 [.sl 1 [[iv x], [iv y]]] (iv (if x = 0 then y else x)) [] := by
  refine spec_of_body mixed Try.func58 rfl (by kernel_rfl) (by kernel_rfl) ?_; conv => whnf
  refine tri_rounds mixed (by kernel_rfl) 4 ?_
  conv => whnf
  ((with_reducible refine And.intro (by with_unfolding_all decide) ?_); refine Exists.intro _ (And.intro (by with_unfolding_all rfl) ?_); conv => whnf)
  ((first | (with_reducible refine split_dec (fun h => ?_) (fun h => ?_)) | (with_reducible refine split_beq (fun h => ?_) (fun h => ?_)) | (with_reducible refine split_bne (fun h => ?_) (fun h => ?_)) | (with_reducible refine split_not (fun h => ?_) (fun h => ?_)) | (with_reducible refine split_beqS (fun h => ?_) (fun h => ?_)) | (with_reducible refine split_intro (fun h => ?_) (fun h => ?_))) <;> conv => whnf)
  · exact exit_plain rfl (by rw [if_neg h])
  · have hx : x = 0 := by first | exact h | exact Classical.byContradiction h
    ((with_reducible refine And.intro (by with_unfolding_all decide) ?_); refine Exists.intro _ (And.intro (by with_unfolding_all rfl) ?_); conv => whnf)
    ((first | (with_reducible refine split_dec (fun h => ?_) (fun h => ?_)) | (with_reducible refine split_beq (fun h => ?_) (fun h => ?_)) | (with_reducible refine split_bne (fun h => ?_) (fun h => ?_)) | (with_reducible refine split_not (fun h => ?_) (fun h => ?_)) | (with_reducible refine split_beqS (fun h => ?_) (fun h => ?_)) | (with_reducible refine split_intro (fun h => ?_) (fun h => ?_))) <;> conv => whnf)
    · exact exit_plain rfl (by rw [if_pos hx])
    · have hy : y = 0 := by first | exact h | exact Classical.byContradiction h
      exact exit_plain rfl (by rw [if_pos hx, hy])
def cmpP (a b : Pl) : Int := if cmpZ (fv (scoreW a)) (fv (scoreW b)) = 0 then cmpZ a.node b.node else cmpZ (fv (scoreW a)) (fv (scoreW b))
theorem c_Cmp (a b : Pl) : Ctr Try.prog 57 [.ag a.enc, .ag b.enc] (iv (cmpP a b)) [] := by
  obtain ⟨ra, a1, a2, a3⟩ := add_zero_f (scoreW_num a)
  obtain ⟨rb, b1, b2, b3⟩ := add_zero_f (scoreW_num b)
  have k := c_CmpF ra rb a2 b2
  rw [a3, b3] at k
  refine spec_of_body mixed Try.func57 rfl (by kernel_rfl) (by kernel_rfl) ?_; conv => whnf
  ((try ((refine Exists.intro none ?_); (conv => whnf))); first | ((with_reducible refine call_by (c_Score a) ?_); conv => whnf))
  refine split_opt (fun h => by rw [a1] at h; cases h) (fun r h => ?_)
  obtain rfl : r = ra := by rw [a1] at h; injection h with h; exact h.symm
  conv => whnf
  ((try ((refine Exists.intro none ?_); (conv => whnf))); first | ((with_reducible refine call_by (c_Score b) ?_); conv => whnf))
  refine split_opt (fun h => by rw [b1] at h; cases h) (fun r h => ?_)
  obtain rfl : r = rb := by rw [b1] at h; injection h with h; exact h.symm
  conv => whnf
  ((try ((refine Exists.intro none ?_); (conv => whnf))); first | ((with_reducible refine call_by (k) ?_); conv => whnf))
  ((try ((refine Exists.intro none ?_); (conv => whnf))); first | ((with_reducible refine call_by (c_CmpI a.node b.node) ?_); conv => whnf))
  ((try ((refine Exists.intro none ?_); (conv => whnf))); refine call_deep (c_Or (cmpZ (fv (scoreW a)) (fv (scoreW b))) (cmpZ a.node b.node)) (by (repeat' (first | exact subVL_nil | exact subVR_nil | refine subVL_cons ?_ ?_ | refine subVR_cons ?_ ?_ | exact SubV.refl _ | exact subV_nl | (with_reducible exact subV_tk rfl) | refine subV_ag ?_ | refine subV_sl ?_ | refine subV_ep ?_))) ?_; conv => whnf)
  exact exit_plain rfl rfl
end Go.Proofs
