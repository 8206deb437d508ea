/- Contracts of functions: a message that may come; a message is taken. -/
import Derived.Test.YtbhfokahocgndaaGreatH16
set_option linter.unusedSimpArgs false
set_option linter.unusedVariables false
namespace Go.Proofs
open Go.Pv
set_option maxRecDepth 100000

noncomputable def rightM (r : Rft) (m : Mg) : Bool := inR 6 m.frm && (decide (¬ m.frm = r.id) && (decide (m.to = r.id) && (decide (1 ≤ m.kind) && (decide (m.kind ≤ 8) && ((inR far m.term && inR far m.logTerm) && (inR far m.index && inR far m.round))))))
/-- No replica. -/
abbrev rzv : List PV := [iv 0, iv 0, iv 0, iv 0, iv 0, iv 0, iv 0, iv 0, iv 0, .nl, .nl, iv 0, iv 0, iv 0, iv 0, iv 0, iv 0, iv 0, iv 0, iv 0, iv 0, iv 0, iv 0, iv 0, iv 0, iv 0, iv 0, iv 0, iv 0, iv 0, iv 0, iv 0, iv 0, iv 0, iv 0, iv 0, iv 0, iv 0, iv 0, .nl]
end Go.Proofs
