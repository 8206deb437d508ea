/- Contracts of functions: the reference's Grow. -/
import Derived.Test.YtbhfokahocgndaaGreatC56
set_option linter.unusedSimpArgs false
set_option linter.unusedVariables false
namespace Go.Proofs
open Go.Pv
set_option maxRecDepth 100000

end Go.Proofs
