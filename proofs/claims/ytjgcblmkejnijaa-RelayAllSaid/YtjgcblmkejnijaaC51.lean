/- Contracts of functions: the reference's Put. -/
import Derived.Test.YtjgcblmkejnijaaC50
set_option linter.unusedSimpArgs false
set_option linter.unusedVariables false
namespace Go.Pv
/-- An answer whose own slices are shown as values. -/
theorem exit_fz {c : CSt} {p r : PV} (fz : List (Nat × Bool × Nat × List (List PV))) (h : ∀ q ∈ fz, lkA c.ob q.1 = some (some q.2)) (h3 : WkV [] [] fz p r) : ExitOk c p r [] := by
  refine ⟨.inl ⟨fz, [], ⟨h, ?_, ?_, ?_⟩, h3⟩⟩
  · intro k o e; cases e
  · intro k k0 e; cases e
  · intro k k' k0 e; cases e
end Go.Pv
namespace Go.Proofs
open Go.Pv
set_option maxRecDepth 100000

end Go.Proofs
