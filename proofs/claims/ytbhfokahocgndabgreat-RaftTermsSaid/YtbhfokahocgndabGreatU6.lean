import Derived.Test.YtbhfokahocgndabGreatC1
import Derived.Test.YtbhfokahocgndabGreatS13
import Derived.Test.YtbhfokahocgndabGreatR3
import Derived.Test.YtbhfokahocgndabGreatPvV4
/- Contracts of functions: an act of a play: a tick. (genU6.py prints this) -/
set_option linter.unusedSimpArgs false
set_option linter.unusedVariables false
namespace Go.Proofs
open Go.Pv
set_option maxRecDepth 100000
set_option maxHeartbeats 32000000 in
theorem zwt (s : Svn) (M : List (List PV)) (hM : M.length ≤ 100) (a : Act) (k : Nat) (hk : k < 7) (hki : IntKind.i64.wrap ((IntKind.u64.wrap a.i).tmod 7) = (k : Int)) (kd : Int) (hd : (IntKind.u64.wrap a.doo).tmod 18 = kd) (hsm : (s.at k).small) (hkd : 0 ≤ kd ∧ kd < 4) (R : Rft) (ys : List My) (kz : Ctr Tryz.prog 33 [.ag (s.at k).enc] (.tu [.ag R.enc, .sl 16 (ys.map My.enc)]) []) :
    CtrE Tryz.prog 11 [.pt 1000000 0,.ag a.enc,bv true] [(1000000,someI s M)] (someO M) (bv true) [(1000000,someV (s.put k R) (.ow 1 0 (capM M (ys.map My.enc)).length))] [(1000000,none),(1,some (false,16,capM M (ys.map My.enc)))]:=by
 have ksd:=fun s'=>zp1 s' M ys hM
 have kt0:=zao (s.at k) hsm
 have ks0:=zgb (s.at k) (zak hsm.snap) (zak hsm.log) (zak hsm.reads)
 refine zbe mixed Tryz.func11 rfl (by kernel_rfl) (by kernel_rfl) ?_
 refine tSeq ?_
 conv=>whnf
 refine tSeq ?_
 conv=>whnf
 refine ⟨⟨by decide,by decide⟩,?_⟩
 conv=>whnf
 rw [hki]
 refine tCut (fun _:Unit=>True) (fun _=>[(8,.pt 8 0)]) (fun _=>[(1000000,someI s M),(4,a.enc),(8,(s.at k).enc)]) (fun _=>someO M) ?_ ?_
 ·rcases (by omega:k=0∨k=1∨k=2∨k=3∨k=4∨k=5∨k=6) with rfl | rfl | rfl | rfl | rfl | rfl | rfl
  ·conv=>whnf
   refine ⟨⟨by decide,by decide⟩,?_⟩
   conv=>whnf
   refine ⟨(),[(1000000,1000000)],True.intro,?_⟩
   rw [show s.at 0=s.r0 from rfl]
   conv=>whnf
   exact wkD
  ·conv=>whnf
   refine ⟨⟨by decide,by decide⟩,?_⟩
   conv=>whnf
   refine ⟨(),[(1000000,1000000)],True.intro,?_⟩
   rw [show s.at 1=s.r1 from rfl]
   conv=>whnf
   exact wkD
  ·conv=>whnf
   refine ⟨⟨by decide,by decide⟩,?_⟩
   conv=>whnf
   refine ⟨(),[(1000000,1000000)],True.intro,?_⟩
   rw [show s.at 2=s.r2 from rfl]
   conv=>whnf
   exact wkD
  ·conv=>whnf
   refine ⟨⟨by decide,by decide⟩,?_⟩
   conv=>whnf
   refine ⟨(),[(1000000,1000000)],True.intro,?_⟩
   rw [show s.at 3=s.r3 from rfl]
   conv=>whnf
   exact wkD
  ·conv=>whnf
   refine ⟨⟨by decide,by decide⟩,?_⟩
   conv=>whnf
   refine ⟨(),[(1000000,1000000)],True.intro,?_⟩
   rw [show s.at 4=s.r4 from rfl]
   conv=>whnf
   exact wkD
  ·conv=>whnf
   refine ⟨⟨by decide,by decide⟩,?_⟩
   conv=>whnf
   refine ⟨(),[(1000000,1000000)],True.intro,?_⟩
   rw [show s.at 5=s.r5 from rfl]
   conv=>whnf
   exact wkD
  ·conv=>whnf
   refine ⟨⟨by decide,by decide⟩,?_⟩
   conv=>whnf
   refine ⟨(),[(1000000,1000000)],True.intro,?_⟩
   rw [show s.at 6=s.r6 from rfl]
   conv=>whnf
   exact wkD
 rintro _ _
 generalize hrr:s.at k=r at *
 conv=>whnf
 refine tSeq ?_
 conv=>whnf
 ((try (refine Exists.intro none ?_;conv=>whnf));(with_reducible refine zaa (kt0) ?_);conv=>whnf)
 (refine tNew0 ?_;conv=>whnf)
 refine tSeq ?_
 conv=>whnf
 refine tCut (fun _:Unit=>True) (fun _=>[(10,bv true)]) (fun _=>[(1000000,someV (s.put k R) (.ow 1000 0 (capM M (ys.map My.enc)).length)),(4,a.enc),(8,r.enc),(9,r.enc)]) (fun _=>[(1000000,none),(1000,some (false,16,capM M (ys.map My.enc)))]) ?_ ?_
 ·conv=>whnf
  refine ⟨⟨by decide,by decide⟩,?_⟩
  conv=>whnf
  rw [hd]
  conv=>whnf
  (first | refine tYes ?_ | refine tNo ?_)
  conv=>whnf
  ((try (refine Exists.intro none ?_;conv=>whnf));(with_reducible refine zaa (kz) ?_);conv=>whnf)
  (refine tNew0 ?_;conv=>whnf)
  clear hrr hki
  rcases (by omega:k=0∨k=1∨k=2∨k=3∨k=4∨k=5∨k=6) with rfl | rfl | rfl | rfl | rfl | rfl | rfl
  ·rw [show s.put 0 R={ s with r0:=R } from rfl]
   have ksd:=ksd { s with r0:=R }
   refine ⟨⟨by decide,by decide⟩,?_⟩
   conv=>whnf
   refine Exists.intro (some ([(1000000,1000000)],[(1000000,1000000)],[(1,1001)])) ?_
   conv=>whnf
   refine zbf (r2:=.tu []) (wb:=[(1000000,someV { s with r0:=R } (.ow 1001 0 (capM M (ys.map My.enc)).length))]) ksd (by kernel_rfl) (by kernel_rfl) (by kernel_rfl) (by kernel_rfl) (by kernel_rfl) ?_
   conv=>whnf
   refine ⟨(),[(1000000,1000000),(1000,1001)],True.intro,?_⟩
   conv=>whnf
   exact wkD
  ·rw [show s.put 1 R={ s with r1:=R } from rfl]
   have ksd:=ksd { s with r1:=R }
   refine ⟨⟨by decide,by decide⟩,?_⟩
   conv=>whnf
   refine Exists.intro (some ([(1000000,1000000)],[(1000000,1000000)],[(1,1001)])) ?_
   conv=>whnf
   refine zbf (r2:=.tu []) (wb:=[(1000000,someV { s with r1:=R } (.ow 1001 0 (capM M (ys.map My.enc)).length))]) ksd (by kernel_rfl) (by kernel_rfl) (by kernel_rfl) (by kernel_rfl) (by kernel_rfl) ?_
   conv=>whnf
   refine ⟨(),[(1000000,1000000),(1000,1001)],True.intro,?_⟩
   conv=>whnf
   exact wkD
  ·rw [show s.put 2 R={ s with r2:=R } from rfl]
   have ksd:=ksd { s with r2:=R }
   refine ⟨⟨by decide,by decide⟩,?_⟩
   conv=>whnf
   refine Exists.intro (some ([(1000000,1000000)],[(1000000,1000000)],[(1,1001)])) ?_
   conv=>whnf
   refine zbf (r2:=.tu []) (wb:=[(1000000,someV { s with r2:=R } (.ow 1001 0 (capM M (ys.map My.enc)).length))]) ksd (by kernel_rfl) (by kernel_rfl) (by kernel_rfl) (by kernel_rfl) (by kernel_rfl) ?_
   conv=>whnf
   refine ⟨(),[(1000000,1000000),(1000,1001)],True.intro,?_⟩
   conv=>whnf
   exact wkD
  ·rw [show s.put 3 R={ s with r3:=R } from rfl]
   have ksd:=ksd { s with r3:=R }
   refine ⟨⟨by decide,by decide⟩,?_⟩
   conv=>whnf
   refine Exists.intro (some ([(1000000,1000000)],[(1000000,1000000)],[(1,1001)])) ?_
   conv=>whnf
   refine zbf (r2:=.tu []) (wb:=[(1000000,someV { s with r3:=R } (.ow 1001 0 (capM M (ys.map My.enc)).length))]) ksd (by kernel_rfl) (by kernel_rfl) (by kernel_rfl) (by kernel_rfl) (by kernel_rfl) ?_
   conv=>whnf
   refine ⟨(),[(1000000,1000000),(1000,1001)],True.intro,?_⟩
   conv=>whnf
   exact wkD
  ·rw [show s.put 4 R={ s with r4:=R } from rfl]
   have ksd:=ksd { s with r4:=R }
   refine ⟨⟨by decide,by decide⟩,?_⟩
   conv=>whnf
   refine Exists.intro (some ([(1000000,1000000)],[(1000000,1000000)],[(1,1001)])) ?_
   conv=>whnf
   refine zbf (r2:=.tu []) (wb:=[(1000000,someV { s with r4:=R } (.ow 1001 0 (capM M (ys.map My.enc)).length))]) ksd (by kernel_rfl) (by kernel_rfl) (by kernel_rfl) (by kernel_rfl) (by kernel_rfl) ?_
   conv=>whnf
   refine ⟨(),[(1000000,1000000),(1000,1001)],True.intro,?_⟩
   conv=>whnf
   exact wkD
  ·rw [show s.put 5 R={ s with r5:=R } from rfl]
   have ksd:=ksd { s with r5:=R }
   refine ⟨⟨by decide,by decide⟩,?_⟩
   conv=>whnf
   refine Exists.intro (some ([(1000000,1000000)],[(1000000,1000000)],[(1,1001)])) ?_
   conv=>whnf
   refine zbf (r2:=.tu []) (wb:=[(1000000,someV { s with r5:=R } (.ow 1001 0 (capM M (ys.map My.enc)).length))]) ksd (by kernel_rfl) (by kernel_rfl) (by kernel_rfl) (by kernel_rfl) (by kernel_rfl) ?_
   conv=>whnf
   refine ⟨(),[(1000000,1000000),(1000,1001)],True.intro,?_⟩
   conv=>whnf
   exact wkD
  ·rw [show s.put 6 R={ s with r6:=R } from rfl]
   have ksd:=ksd { s with r6:=R }
   refine ⟨⟨by decide,by decide⟩,?_⟩
   conv=>whnf
   refine Exists.intro (some ([(1000000,1000000)],[(1000000,1000000)],[(1,1001)])) ?_
   conv=>whnf
   refine zbf (r2:=.tu []) (wb:=[(1000000,someV { s with r6:=R } (.ow 1001 0 (capM M (ys.map My.enc)).length))]) ksd (by kernel_rfl) (by kernel_rfl) (by kernel_rfl) (by kernel_rfl) (by kernel_rfl) ?_
   conv=>whnf
   refine ⟨(),[(1000000,1000000),(1000,1001)],True.intro,?_⟩
   conv=>whnf
   exact wkD
 rintro _ _
 refine pwS ?_
 conv=>whnf
 ((try (refine Exists.intro none ?_;conv=>whnf));(with_reducible refine zaa (ks0) ?_);conv=>whnf)
 (refine zae [(1000000,1000000),(1,1000)] [] ?_;(conv=>whnf);exact wkD)
end Go.Proofs
