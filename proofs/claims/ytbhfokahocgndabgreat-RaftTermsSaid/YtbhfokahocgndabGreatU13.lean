import Derived.Test.YtbhfokahocgndabGreatC1
import Derived.Test.YtbhfokahocgndabGreatU6
import Derived.Test.YtbhfokahocgndabGreatU5
/- Contracts of functions: an act of a play: a call, a configuration, a question, a snapshot. (genU6.py prints this) -/
set_option linter.unusedSimpArgs false
set_option linter.unusedVariables false
namespace Go.Proofs
open Go.Pv
set_option maxRecDepth 100000
set_option maxHeartbeats 32000000 in
theorem zxy (s : Svn) (M : List (List PV)) (hM : M.length ≤ 100) (a : Act) (k : Nat) (hk : k < 7) (hki : IntKind.i64.wrap ((IntKind.u64.wrap a.i).tmod 7) = (k : Int)) (kd : Int) (hd : (IntKind.u64.wrap a.doo).tmod 18 = kd) (hsm : (s.at k).small) (hkd : 12 ≤ kd ∧ kd ≤ 16) (R : Rft) (ka : CtrE Tryz.prog 43 [.pt 1000000 0, .ag a.enc, iv k, .ag (s.at k).enc, bv true] [(1000000, someI s M)] (someO M) (bv true) [(1000000, someI (s.put k R) M)] (someO M)) :
    CtrE Tryz.prog 11 [.pt 1000000 0,.ag a.enc,bv true] [(1000000,someI s M)] (someO M) (bv true) [(1000000,someI (s.put k R) M)] (someO M):=by
 have kt0:=zao (s.at k) hsm
 have ks0:=zgb (s.at k) (zak hsm.snap) (zak hsm.log) (zak hsm.reads)
 refine zbe mixed Tryz.func11 rfl (by kernel_rfl) (by kernel_rfl) ?_
 refine tSeq ?_
 conv=>whnf
 refine tSeq ?_
 conv=>whnf
 refine ⟨⟨by decide,by decide⟩,?_⟩
 conv=>whnf
 rw [hki]
 refine tCut (fun _:Unit=>True) (fun _=>[(8,.pt 8 0)]) (fun _=>[(1000000,someI s M),(4,a.enc),(8,(s.at k).enc)]) (fun _=>someO M) ?_ ?_
 ·rcases (by omega:k=0∨k=1∨k=2∨k=3∨k=4∨k=5∨k=6) with rfl | rfl | rfl | rfl | rfl | rfl | rfl
  ·conv=>whnf
   refine ⟨⟨by decide,by decide⟩,?_⟩
   conv=>whnf
   refine ⟨(),[(1000000,1000000)],True.intro,?_⟩
   rw [show s.at 0=s.r0 from rfl]
   conv=>whnf
   exact wkD
  ·conv=>whnf
   refine ⟨⟨by decide,by decide⟩,?_⟩
   conv=>whnf
   refine ⟨(),[(1000000,1000000)],True.intro,?_⟩
   rw [show s.at 1=s.r1 from rfl]
   conv=>whnf
   exact wkD
  ·conv=>whnf
   refine ⟨⟨by decide,by decide⟩,?_⟩
   conv=>whnf
   refine ⟨(),[(1000000,1000000)],True.intro,?_⟩
   rw [show s.at 2=s.r2 from rfl]
   conv=>whnf
   exact wkD
  ·conv=>whnf
   refine ⟨⟨by decide,by decide⟩,?_⟩
   conv=>whnf
   refine ⟨(),[(1000000,1000000)],True.intro,?_⟩
   rw [show s.at 3=s.r3 from rfl]
   conv=>whnf
   exact wkD
  ·conv=>whnf
   refine ⟨⟨by decide,by decide⟩,?_⟩
   conv=>whnf
   refine ⟨(),[(1000000,1000000)],True.intro,?_⟩
   rw [show s.at 4=s.r4 from rfl]
   conv=>whnf
   exact wkD
  ·conv=>whnf
   refine ⟨⟨by decide,by decide⟩,?_⟩
   conv=>whnf
   refine ⟨(),[(1000000,1000000)],True.intro,?_⟩
   rw [show s.at 5=s.r5 from rfl]
   conv=>whnf
   exact wkD
  ·conv=>whnf
   refine ⟨⟨by decide,by decide⟩,?_⟩
   conv=>whnf
   refine ⟨(),[(1000000,1000000)],True.intro,?_⟩
   rw [show s.at 6=s.r6 from rfl]
   conv=>whnf
   exact wkD
 rintro _ _
 generalize hrr:s.at k=r at *
 conv=>whnf
 refine tSeq ?_
 conv=>whnf
 ((try (refine Exists.intro none ?_;conv=>whnf));(with_reducible refine zaa (kt0) ?_);conv=>whnf)
 (refine tNew0 ?_;conv=>whnf)
 refine tSeq ?_
 conv=>whnf
 refine tCut (fun _:Unit=>True) (fun _=>[(10,bv true)]) (fun _=>[(1000000,someI (s.put k R) M),(4,a.enc),(8,r.enc),(9,r.enc)]) (fun _=>someO M) ?_ ?_
 ·conv=>whnf
  refine ⟨⟨by decide,by decide⟩,?_⟩
  conv=>whnf
  rw [hd]
  conv=>whnf
  (first | refine tYes ?_ | refine tNo ?_)
  conv=>whnf
  (first | refine tYes ?_ | refine tNo ?_)
  conv=>whnf
  (first | refine tYes ?_ | refine tNo ?_)
  conv=>whnf
  (first | refine tYes ?_ | refine tNo ?_)
  conv=>whnf
  (first | refine tYes ?_ | refine tNo ?_)
  conv=>whnf
  refine Exists.intro (some ([(1000000,1000000)],[(1000000,1000000)],[])) ?_
  conv=>whnf
  refine cFast (r2:=bv true) (wb:=[(1000000,someI (s.put k R) M)]) ka ?_
  conv=>whnf
  refine ⟨(),[(1000000,1000000)],True.intro,?_⟩
  conv=>whnf
  exact wkD
 rintro _ _
 refine pwS ?_
 conv=>whnf
 ((try (refine Exists.intro none ?_;conv=>whnf));(with_reducible refine zaa (ks0) ?_);conv=>whnf)
 (refine zae [(1000000,1000000)] [] ?_;(conv=>whnf);exact wkD)
end Go.Proofs
