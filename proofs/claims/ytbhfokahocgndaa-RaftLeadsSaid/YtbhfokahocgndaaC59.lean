/- Contracts of functions: the reference's Grow. -/
import Derived.Test.YtbhfokahocgndaaC56
set_option linter.unusedSimpArgs false
set_option linter.unusedVariables false
namespace Go.Proofs
open Go.Pv
set_option maxRecDepth 100000

theorem termAt_ent {h : Hrd} {i : Int} {x : Ent} (h1 : h.base < i) (he : entAt h i = some x) : termAt h i = x.term := by
  unfold termAt
  rw [if_neg (by omega), he]
theorem gBrk_stop {h : Hrd} {c p : Int} {l : List Ent} {j : Nat} (hAt : ∀ i : Int, p < i → i ≤ c → ∃ x, entAt h i = some x ∧ termAt h i = x.term) (hal : ∀ k (hk : k < l.length), k < j → ∀ x, entAt h (p + 1 + k) = some x → x.term = (l[k]'hk).term) (hout : ∀ k, k < l.length → j ≤ k → c < p + 1 + k) : gBrk h c p l = false := by
  refine gBrk_f fun k hk hle => ?_
  by_cases hkj : k < j
  · obtain ⟨x, hx, ht⟩ := hAt (p + 1 + k) (by omega) hle
    rw [ht]
    exact hal k hk hkj x hx
  · have := hout k hk (by omega)
    omega

end Go.Proofs
