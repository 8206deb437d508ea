/- Contracts of functions: a leader learns of an answer. (genH16.py prints this) -/
import Derived.Test.YtbhfokahocgndaaGreatH14
import Derived.Test.YtbhfokahocgndaaGreatC13
set_option linter.unusedSimpArgs false
set_option linter.unusedVariables false
namespace Go.Proofs
open Go.Pv
set_option maxRecDepth 100000

abbrev lrnI (r : Rft) (m : Mg) : Int := if lastI r.hard < m.index then lastI r.hard else m.index
abbrev lrnNx (r : Rft) (m : Mg) : Arr := r.next.put m.frm.toNat (nxN (r.next.at m.frm.toNat) (r.mtch.at m.frm.toNat) m.yes (lrnI r m))
abbrev lrnMt (r : Rft) (m : Mg) : Arr := r.mtch.put m.frm.toNat (nxM (r.mtch.at m.frm.toNat) m.yes (lrnI r m))
noncomputable def lrnAll (r : Rft) (m : Mg) : Rft := if r.role = 3 then { r with silent := r.silent.put m.frm.toNat 0, next := lrnNx r m, mtch := lrnMt r m, reads := r.reads.map (ack1 m.frm m.round), commit := commitR r.hard r.commit (lrnMt r m) } else r
end Go.Proofs
