import Derived.Test.YtbhfokahocgndabGreatPvQ3
import Derived.Test.YtbhfokahocgndabGreatC1
import Derived.Test.YtbhfokahocgndabGreatS11
/- Contracts of functions: a page's leader's tick. (genS14.py prints this) -/
set_option linter.unusedSimpArgs false
set_option linter.unusedVariables false
set_option maxHeartbeats 8000000
namespace Go.Proofs
open Go.Pv
set_option maxRecDepth 100000
theorem z2q (r:Rft) (hf:Fit r) (hn:r.role=3):Ctr Tryz.prog 33 [.ag r.enc] (.tu [.ag (beatF r).enc,.sl 16 (beatO r)]) []:=by
 have kt:=za4 r hf.small
 have kb:=c_zbeat r hf
 refine sBody Tryz.func33 ?_;conv=>whnf
 refine tC kt ?_
 refine tN0 ?_
 refine tK ?_
 refine tER ([(9990,1)],[],[]) kb ?_
 exact za7 [] (by intro q hq;cases hq) (zat ⟨zao agD,zae _ rfl,rfl⟩)
end Go.Proofs
