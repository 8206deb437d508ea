/- Contracts of functions: which questions are ready. -/
import Derived.Test.YtbhfokahocgndaaGreatC13
set_option linter.unusedSimpArgs false
set_option linter.unusedVariables false
namespace Go.Proofs
open Go.Pv
set_option maxRecDepth 100000

noncomputable def rdy (c : Conf) (applied : Int) (x : Rd) : Bool := quorum c x.acks && decide (x.index ≤ applied)
noncomputable def rdyL (l : List Rd) (c : Conf) (applied : Int) (i : Nat) : List Rd := (l.take i).filter (rdy c applied)
noncomputable def lftL (l : List Rd) (c : Conf) (applied : Int) (i : Nat) : List Rd := (l.take i).filter fun x => !rdy c applied x

def heavyRd (l : List Rd) : Bool := decide (100 < (l.length : Int)) || l.any fun x => heavyCmd x.call.cmd
end Go.Proofs
