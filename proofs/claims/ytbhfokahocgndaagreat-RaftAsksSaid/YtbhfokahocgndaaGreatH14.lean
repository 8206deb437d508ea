import Derived.Test.YtbhfokahocgndaaGreatH10
import Derived.Test.YtbhfokahocgndaaGreatC56
import Derived.Test.YtbhfokahocgndaaGreatC47
/- Contracts of functions: answers; who asks is answered; messages of elder terms. -/
set_option linter.unusedSimpArgs false
set_option linter.unusedVariables false
namespace Go.Proofs
open Go.Pv
set_option maxRecDepth 100000

noncomputable def askedO (r : Rft) (m : Mg) : List (List PV) := if asked r m = true then [msgV 2 r.id m.frm m.term 0 0 0 0 true .nl cz .nl] else [msgV 2 r.id m.frm r.hard.term 0 0 0 0 false .nl cz .nl]
noncomputable def elderO (r : Rft) (m : Mg) : List (List PV) := if m.kind = 3 then [msgV 4 r.id m.frm r.hard.term 0 0 0 0 false .nl cz .nl] else if m.kind = 5 ∨ m.kind = 7 then [msgV 6 r.id m.frm r.hard.term 0 0 0 0 false .nl cz .nl] else []
end Go.Proofs

/- Contracts of functions: who leads is followed; entries, a snapshot are taken. -/
namespace Go.Proofs
open Go.Pv
set_option maxRecDepth 100000

/-- It follows. -/
noncomputable abbrev folR (r : Rft) (m : Mg) : Rft := { fallR r r.hard.term m.frm with quiet := 0 }
noncomputable abbrev folM (r : Rft) (m : Mg) (ix : Int) (y : Bool) : List PV := msgV 6 (folR r m).id m.frm (folR r m).hard.term ix 0 0 m.round y .nl cz .nl
abbrev setH (r : Rft) (h : Hrd) (c : Int) : Rft := { r with hard := h, commit := c }
noncomputable def appE (r : Rft) (m : Mg) : Int := if r.role = 3 then 0 else growE r.hard r.commit m
noncomputable def appR (r : Rft) (m : Mg) : Rft := if r.role = 3 then r else if growE r.hard r.commit m = 0 then folR (setH r (growO r.hard r.commit m).h (growO r.hard r.commit m).c) m else r
noncomputable def appO (r : Rft) (m : Mg) : List (List PV) := if r.role = 3 then [] else if growE r.hard r.commit m = 0 then [folM (setH r (growO r.hard r.commit m).h (growO r.hard r.commit m).c) m (growO r.hard r.commit m).i (growO r.hard r.commit m).yes] else []
noncomputable abbrev insEE (r : Rft) (m : Mg) : Int := instE r.hard m.index m.logTerm m.conf m.snap
noncomputable abbrev insHH (r : Rft) (m : Mg) : Hrd := instH r.hard m.index m.logTerm m.conf m.snap
noncomputable def insE (r : Rft) (m : Mg) : Int := if r.role = 3 then 0 else if r.commit < m.index then insEE r m else 0
noncomputable def insR (r : Rft) (m : Mg) : Rft := if r.role = 3 then r else if r.commit < m.index then (if insEE r m = 0 then folR (setH r (insHH r m) m.index) m else r) else folR r m
noncomputable def insO (r : Rft) (m : Mg) : List (List PV) := if r.role = 3 then [] else if r.commit < m.index then (if insEE r m = 0 then [folM (setH r (insHH r m) m.index) m m.index true] else []) else [folM r m r.commit true]
end Go.Proofs
