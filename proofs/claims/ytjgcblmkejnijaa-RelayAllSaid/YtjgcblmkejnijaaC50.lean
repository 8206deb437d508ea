/- Contracts of functions: what spoils; a twin as a value. -/
import Derived.Test.YtjgcblmkejnijaaC49
set_option linter.unusedSimpArgs false
set_option linter.unusedVariables false
namespace Go.Proofs
open Go.Pv
set_option maxRecDepth 100000

def spoilEn (x : Ent) : Ent := { x with term := -77 }
theorem upTo_all {α : Type} (f : α → α) (l : List α) : upTo f l l.length = l.map f := by unfold upTo; simp
end Go.Proofs
