import Derived.Test.YtbhfokahocgndabGreatC1
import Derived.Test.YtbhfokahocgndabGreatR3
import Derived.Test.YtbhfokahocgndabGreatC24
/- Contracts of functions: a message that is under way is put under way once more. -/
set_option linter.unusedSimpArgs false
set_option linter.unusedVariables false
namespace Go.Proofs
open Go.Pv
set_option maxRecDepth 100000
end Go.Proofs
