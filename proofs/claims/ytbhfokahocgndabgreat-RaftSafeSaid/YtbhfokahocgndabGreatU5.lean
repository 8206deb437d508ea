import Derived.Test.YtbhfokahocgndabGreatR3
import Derived.Test.YtbhfokahocgndabGreatQ6
import Derived.Test.YtbhfokahocgndabGreatC48
/- Contracts of functions: a play's calls, configurations, questions, snapshots. (without the walk: RaftSafe has its own, ZzW9) -/
set_option linter.unusedSimpArgs false
set_option linter.unusedVariables false
namespace Go.Proofs
open Go.Pv
set_option maxRecDepth 100000
abbrev rz:Rft:=⟨0,⟨0,0,0,0,cz,[],[]⟩,0,0,0,0,0,0,0,zA,zA,zA,[]⟩
noncomputable def zo9 (r:Rft):Rft:={ r with reads:=r.reads.filter fun x=>!rdy (zab r) r.commit x }
abbrev byteL (n:Int):List Int:=[IntKind.u8.wrap n]
noncomputable def compR (r:Rft) (n:Int):Rft:={ r with hard:=compH r.hard r.commit (byteL n) }
inductive ActS (r:Rft) (a:Act) (c:Conf):Int→Rft→Prop where
 | prop (h:propE r a.call=0):ActS r a c 12 (addR r (ec r a.call))
 | chg (h:chgE r c=0):ActS r a c 13 (addR (nxR r c 7) (ecf r c))
 | ask (h:askE r a.call=0):ActS r a c 14 (askR r a.call)
 | ready:ActS r a c 15 (zo9 r)
 | comp (h:compE r.hard r.commit (byteL a.n)=0):ActS r a c 16 (compR r a.n)
inductive ActN (r:Rft) (a:Act) (c:Conf):Int→Prop where
 | prop (h:¬ propE r a.call=0):ActN r a c 12
 | chg (h:¬ chgE r c=0):ActN r a c 13
 | ask (h:¬ askE r a.call=0):ActN r a c 14
 | comp (h:¬ compE r.hard r.commit (byteL a.n)=0):ActN r a c 16
def ActE (r:Rft) (a:Act) (c:Conf) (kd:Int) (R:Rft):Prop:=ActS r a c kd R∨(ActN r a c kd∧R=r)
theorem z4h (s:Svn) {k:Nat} (hk:k < 7):s.put k (s.at k)=s:=by
 rcases (by omega:k=0∨k=1∨k=2∨k=3∨k=4∨k=5∨k=6) with rfl | rfl | rfl | rfl | rfl | rfl | rfl<;>rfl
end Go.Proofs
