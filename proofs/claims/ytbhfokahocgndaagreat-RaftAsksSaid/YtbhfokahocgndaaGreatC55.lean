/- Contracts of functions: grow.Take. -/
import Derived.Test.YtbhfokahocgndaaGreatC54
import Derived.Test.YtbhfokahocgndaaGreatC49
set_option linter.unusedSimpArgs false
set_option linter.unusedVariables false
namespace Go.Proofs
open Go.Pv
set_option maxRecDepth 100000

abbrev mzv : List PV := [iv 0, iv 0, iv 0, iv 0, iv 0, iv 0, iv 0, iv 0, bv false, .nl, iv 0, iv 0, iv 0, iv 0, .nl, .nl]
abbrev ansV (yes : Bool) (i : Int) : List PV := [iv 6, iv 0, iv 0, iv 0, iv i, iv 0, iv 0, iv 0, bv yes, .nl, iv 0, iv 0, iv 0, iv 0, .nl, .nl]
def resG (e : Int) (o : GOut) : PV := if e = 0 then .tu [.ag (o.h.own 0), iv o.c, .ag (ansV o.yes o.i), iv 0] else .tu [.ag hzv, iv 0, .ag mzv, iv e]
def resGO (e : Int) (o : GOut) : List (Nat × List (List PV)) := if e = 0 then o.h.obs else []
def resGW (e : Int) (o : GOut) : PV := if e = 0 then .tu [.ag o.h.enc, iv o.c, .ag (ansV o.yes o.i), iv 0] else .tu [.ag hzv, iv 0, .ag mzv, iv e]
end Go.Proofs
