/- Contracts of functions: what is fed is new memory. -/
import Derived.Test.YtbhfokahocgndaaGreatC60
set_option linter.unusedSimpArgs false
set_option linter.unusedVariables false
namespace Go.Proofs
open Go.Pv
set_option maxRecDepth 100000

abbrev feedSo (g : Hrd) (kd : Int) (k : Nat) : List PV := [iv kd, iv 0, iv 0, iv 0, iv g.base, iv g.baseTerm, iv 0, iv 0, bv false, .nl, iv g.baseConf.full, iv g.baseConf.wit, iv g.baseConf.learn, iv g.baseConf.lwit, .ow k 0 (g.snap.map encB).length, .nl]
abbrev feedAo (g : Hrd) (next : Int) (kd : Int) (k : Nat) : List PV := [iv kd, iv 0, iv 0, iv 0, iv (feedP g next), iv (termAt g (feedP g next)), iv 0, iv 0, bv false, .ow k 0 ((feedL g next).map Ent.enc).length, iv 0, iv 0, iv 0, iv 0, .nl, .nl]

end Go.Proofs
