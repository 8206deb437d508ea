/- Contracts of functions: the references' Compact, Install. -/
import Derived.Test.YtjgcblmkejnijaaC51
set_option linter.unusedSimpArgs false
set_option linter.unusedVariables false
namespace Go.Proofs
open Go.Pv
set_option maxRecDepth 100000

end Go.Proofs
