import Derived.Test.YtbhfokahocgndabGreatC1
import Derived.Test.YtbhfokahocgndabGreatU6
import Derived.Test.YtbhfokahocgndabGreatU5
/- Contracts of functions: an act of a play: a call, a configuration, a question, a snapshot. (genU6.py prints this) -/
set_option linter.unusedSimpArgs false
set_option linter.unusedVariables false
namespace Go.Proofs
open Go.Pv
set_option maxRecDepth 100000
end Go.Proofs
