/- Contracts of functions: what spoils bytes, and a hard state. -/
import Derived.Test.YtjgcblmkejnijaaC52
set_option linter.unusedSimpArgs false
set_option linter.unusedVariables false
namespace Go.Proofs
open Go.Pv
set_option maxRecDepth 100000

def spoilB (b : Int) : Int := IntKind.u8.wrap (b + 101)
end Go.Proofs
