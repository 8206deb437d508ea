import Derived.Test.YtbhfokahocgndabGreatC1
import Derived.Test.YtbhfokahocgndabGreatU6
/- Contracts of functions: an act of a play that does nothing. (genU6.py prints this) -/
set_option linter.unusedSimpArgs false
set_option linter.unusedVariables false
namespace Go.Proofs
open Go.Pv
set_option maxRecDepth 100000
set_option maxHeartbeats 32000000 in
theorem zu2 (s : Svn) (M : List (List PV)) (hM : M.length ≤ 100) (a : Act) (k : Nat) (hk : k < 7) (hki : IntKind.i64.wrap ((IntKind.u64.wrap a.i).tmod 7) = (k : Int)) (kd : Int) (hd : (IntKind.u64.wrap a.doo).tmod 18 = kd) (hsm : (s.at k).small) (hM0 : M = []) (hkd : 4 ≤ kd ∧ kd ≤ 11) :
    CtrE Tryz.prog 11 [.pt 1000000 0,.ag a.enc,bv true] [(1000000,someI s M)] (someO M) (bv true) [(1000000,someI s M)] (someO M):=by
 subst hM0
 have kt0:=zao (s.at k) hsm
 have ks0:=zgb (s.at k) (zak hsm.snap) (zak hsm.log) (zak hsm.reads)
 refine zbe mixed Tryz.func11 rfl (by kernel_rfl) (by kernel_rfl) ?_
 refine tSeq ?_
 conv=>whnf
 refine tSeq ?_
 conv=>whnf
 refine ⟨⟨by decide,by decide⟩,?_⟩
 conv=>whnf
 rw [hki]
 refine tCut (fun _:Unit=>True) (fun _=>[(8,.pt 8 0)]) (fun _=>[(1000000,someI s []),(4,a.enc),(8,(s.at k).enc)]) (fun _=>someO []) ?_ ?_
 ·rcases (by omega:k=0∨k=1∨k=2∨k=3∨k=4∨k=5∨k=6) with rfl | rfl | rfl | rfl | rfl | rfl | rfl
  ·conv=>whnf
   refine ⟨⟨by decide,by decide⟩,?_⟩
   conv=>whnf
   refine ⟨(),[(1000000,1000000)],True.intro,?_⟩
   rw [show s.at 0=s.r0 from rfl]
   conv=>whnf
   exact wkD
  ·conv=>whnf
   refine ⟨⟨by decide,by decide⟩,?_⟩
   conv=>whnf
   refine ⟨(),[(1000000,1000000)],True.intro,?_⟩
   rw [show s.at 1=s.r1 from rfl]
   conv=>whnf
   exact wkD
  ·conv=>whnf
   refine ⟨⟨by decide,by decide⟩,?_⟩
   conv=>whnf
   refine ⟨(),[(1000000,1000000)],True.intro,?_⟩
   rw [show s.at 2=s.r2 from rfl]
   conv=>whnf
   exact wkD
  ·conv=>whnf
   refine ⟨⟨by decide,by decide⟩,?_⟩
   conv=>whnf
   refine ⟨(),[(1000000,1000000)],True.intro,?_⟩
   rw [show s.at 3=s.r3 from rfl]
   conv=>whnf
   exact wkD
  ·conv=>whnf
   refine ⟨⟨by decide,by decide⟩,?_⟩
   conv=>whnf
   refine ⟨(),[(1000000,1000000)],True.intro,?_⟩
   rw [show s.at 4=s.r4 from rfl]
   conv=>whnf
   exact wkD
  ·conv=>whnf
   refine ⟨⟨by decide,by decide⟩,?_⟩
   conv=>whnf
   refine ⟨(),[(1000000,1000000)],True.intro,?_⟩
   rw [show s.at 5=s.r5 from rfl]
   conv=>whnf
   exact wkD
  ·conv=>whnf
   refine ⟨⟨by decide,by decide⟩,?_⟩
   conv=>whnf
   refine ⟨(),[(1000000,1000000)],True.intro,?_⟩
   rw [show s.at 6=s.r6 from rfl]
   conv=>whnf
   exact wkD
 rintro _ _
 generalize hrr:s.at k=r at *
 conv=>whnf
 refine tSeq ?_
 conv=>whnf
 ((try (refine Exists.intro none ?_;conv=>whnf));(with_reducible refine zaa (kt0) ?_);conv=>whnf)
 (refine tNew0 ?_;conv=>whnf)
 refine tSeq ?_
 conv=>whnf
 refine tCut (fun _:Unit=>True) (fun _=>[(10,bv true)]) (fun _=>[(1000000,someI (s) []),(4,a.enc),(8,r.enc),(9,r.enc)]) (fun _=>someO []) ?_ ?_
 ·conv=>whnf
  refine ⟨⟨by decide,by decide⟩,?_⟩
  conv=>whnf
  rw [hd]
  conv=>whnf
  by_cases h10:kd < 10
  ·(first | refine tYes ?_ | refine tNo ?_)
   conv=>whnf
   (first | refine tYes ?_ | refine tNo ?_)
   conv=>whnf
   (refine zae [(1000000,1000000)] [] ?_;(conv=>whnf);exact wkD)
  ·(first | refine tYes ?_ | refine tNo ?_)
   conv=>whnf
   (first | refine tYes ?_ | refine tNo ?_)
   conv=>whnf
   by_cases h11:kd=10
   ·(first | refine tYes ?_ | refine tNo ?_)
    conv=>whnf
    refine ⟨(),[(1000000,1000000)],True.intro,?_⟩
    conv=>whnf
    exact wkD
   ·(first | refine tYes ?_ | refine tNo ?_)
    conv=>whnf
    (first | refine tYes ?_ | refine tNo ?_)
    conv=>whnf
    refine ⟨(),[(1000000,1000000)],True.intro,?_⟩
    conv=>whnf
    exact wkD
 rintro _ _
 refine pwS ?_
 conv=>whnf
 ((try (refine Exists.intro none ?_;conv=>whnf));(with_reducible refine zaa (ks0) ?_);conv=>whnf)
 (refine zae [(1000000,1000000)] [] ?_;(conv=>whnf);exact wkD)
end Go.Proofs
