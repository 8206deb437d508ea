import Derived.Test.YtbhfokahocgndabGreatC1
import Derived.Test.YtbhfokahocgndabGreatS11
import Derived.Test.YtbhfokahocgndabGreatR3
import Derived.Test.YtbhfokahocgndabGreatPvV4
/- Contracts of functions: a page's leader's tick. (genS14.py prints this) -/
set_option linter.unusedSimpArgs false
set_option linter.unusedVariables false
namespace Go.Proofs
open Go.Pv
set_option maxRecDepth 100000
set_option maxHeartbeats 8000000 in
theorem zyi (r:Rft) (hf:Fit r) (hn:r.role=3):Ctr Tryz.prog 33 [.ag r.enc] (.tu [.ag (beatF r).enc,.sl 16 (beatO r)]) []:=by
 have kt:=zao r hf.small
 have kb:=c_zbeat r hf
 refine sBody Tryz.func33 ?_;conv=>whnf
 ((try (refine Exists.intro none ?_;conv=>whnf));(with_reducible refine zaa (kt) ?_);conv=>whnf)
 (refine tNew0 ?_;conv=>whnf)
 (first | refine tYes ?_ | refine tNo ?_)
 conv=>whnf
 ((refine Exists.intro (some ([(1000000,1)],[],[])) ?_);(conv=>whnf);refine zax (kb) (by kernel_rfl) (by kernel_rfl) (by kernel_rfl) ?_;conv=>whnf)
 exact zat [] (by intro q hq;cases hq) (zah ⟨zag agD,zaj _ rfl,rfl⟩)
theorem my_sh (y:My) {kb ko:List (Nat×Nat)}:shE kb ko (.ag y.enc)=.ag y.enc:=by
 obtain ⟨kd,fr,tt,tm,ix,lt,cm,rd,ye,cf,bd⟩:=y
 cases bd<;>rfl
set_option maxHeartbeats 32000000 in
theorem zu5 (s : Svn) (ms : List My) (hM : ms.length ≤ 100) (a : Act) (k : Nat) (hk : k < 7) (hki : IntKind.i64.wrap ((IntKind.u64.wrap a.i).tmod 7) = (k : Int)) (kd : Int) (hd : (IntKind.u64.wrap a.doo).tmod 18 = kd) (hsm : (s.at k).small) (j : Nat) (hj : j < ms.length) (hdr : IntKind.i64.wrap ((IntKind.u64.wrap a.n).tmod (IntKind.u64.wrap (ms.length : Int))) = (j : Int)) (y : My) (hy : ms[j]'hj = y) (hkd : kd = 10) :
    CtrE Tryz.prog 11 [.pt 1000000 0,.ag a.enc,bv true] [(1000000,someI s (ms.map My.enc))] (someO (ms.map My.enc)) (bv true) [(1000000,someV s (.ow 1 0 ((ms.eraseIdx j).map My.enc).length))] [(1000000,some (false,16,ms.map My.enc)),(1,some (false,16,((ms.eraseIdx j).map My.enc)))]:=by
 have ko:=zpd s ms hM j hj
 rw [hy] at ko
 have hml:(ms.map My.enc).length=ms.length:=List.length_map ..
 have hn0:¬ IntKind.u64.wrap ((ms.map My.enc).length:Int)=0:=by rw [hml,zb4 (by omega) (by omega)];omega
 have hdr2:IntKind.i64.wrap ((IntKind.u64.wrap a.n).tmod (IntKind.u64.wrap ((ms.map My.enc).length:Int)))=(j:Int):=by rw [hml];exact hdr
 have hne:¬ ((ms.map My.enc).length:Int)=0:=by omega
 have hgt:((ms.map My.enc).length:Int) > 0:=by omega
 have kt0:=zao (s.at k) hsm
 have ks0:=zgb (s.at k) (zak hsm.snap) (zak hsm.log) (zak hsm.reads)
 refine zbe mixed Tryz.func11 rfl (by kernel_rfl) (by kernel_rfl) ?_
 refine tSeq ?_
 conv=>whnf
 refine tSeq ?_
 conv=>whnf
 refine ⟨⟨by decide,by decide⟩,?_⟩
 conv=>whnf
 rw [hki]
 refine tCut (fun _:Unit=>True) (fun _=>[(8,.pt 8 0)]) (fun _=>[(1000000,someI s (ms.map My.enc)),(4,a.enc),(8,(s.at k).enc)]) (fun _=>someO (ms.map My.enc)) ?_ ?_
 ·rcases (by omega:k=0∨k=1∨k=2∨k=3∨k=4∨k=5∨k=6) with rfl | rfl | rfl | rfl | rfl | rfl | rfl
  ·conv=>whnf
   refine ⟨⟨by decide,by decide⟩,?_⟩
   conv=>whnf
   refine ⟨(),[(1000000,1000000)],True.intro,?_⟩
   rw [show s.at 0=s.r0 from rfl]
   conv=>whnf
   exact wkD
  ·conv=>whnf
   refine ⟨⟨by decide,by decide⟩,?_⟩
   conv=>whnf
   refine ⟨(),[(1000000,1000000)],True.intro,?_⟩
   rw [show s.at 1=s.r1 from rfl]
   conv=>whnf
   exact wkD
  ·conv=>whnf
   refine ⟨⟨by decide,by decide⟩,?_⟩
   conv=>whnf
   refine ⟨(),[(1000000,1000000)],True.intro,?_⟩
   rw [show s.at 2=s.r2 from rfl]
   conv=>whnf
   exact wkD
  ·conv=>whnf
   refine ⟨⟨by decide,by decide⟩,?_⟩
   conv=>whnf
   refine ⟨(),[(1000000,1000000)],True.intro,?_⟩
   rw [show s.at 3=s.r3 from rfl]
   conv=>whnf
   exact wkD
  ·conv=>whnf
   refine ⟨⟨by decide,by decide⟩,?_⟩
   conv=>whnf
   refine ⟨(),[(1000000,1000000)],True.intro,?_⟩
   rw [show s.at 4=s.r4 from rfl]
   conv=>whnf
   exact wkD
  ·conv=>whnf
   refine ⟨⟨by decide,by decide⟩,?_⟩
   conv=>whnf
   refine ⟨(),[(1000000,1000000)],True.intro,?_⟩
   rw [show s.at 5=s.r5 from rfl]
   conv=>whnf
   exact wkD
  ·conv=>whnf
   refine ⟨⟨by decide,by decide⟩,?_⟩
   conv=>whnf
   refine ⟨(),[(1000000,1000000)],True.intro,?_⟩
   rw [show s.at 6=s.r6 from rfl]
   conv=>whnf
   exact wkD
 rintro _ _
 generalize hrr:s.at k=r at *
 conv=>whnf
 refine tSeq ?_
 conv=>whnf
 ((try (refine Exists.intro none ?_;conv=>whnf));(with_reducible refine zaa (kt0) ?_);conv=>whnf)
 (refine tNew0 ?_;conv=>whnf)
 refine tSeq ?_
 conv=>whnf
 refine tCut (fun _:Unit=>True) (fun _=>[(10,bv true)]) (fun _=>[(1000000,someV (s) (.ow 1000 0 (((ms.eraseIdx j).map My.enc)).length)),(4,a.enc),(8,r.enc),(9,r.enc)]) (fun _=>[(1000000,some (false,16,ms.map My.enc)),(1000,some (false,16,((ms.eraseIdx j).map My.enc)))]) ?_ ?_
 ·conv=>whnf
  refine ⟨⟨by decide,by decide⟩,?_⟩
  conv=>whnf
  rw [hd]
  conv=>whnf
  subst hkd
  conv=>whnf
  (first | refine tYes ?_ | refine tNo ?_)
  conv=>whnf
  refine ⟨⟨hn0,by decide⟩,?_⟩
  conv=>whnf
  rw [hdr2]
  refine Exists.intro (some ([(1000000,1000000)],[(1000000,1000000)],[(1,1002)])) ?_
  conv=>whnf
  refine zbf (r2:=.ag y.enc) (wb:=[(1000000,someV s (.ow 1002 0 ((ms.eraseIdx j).map My.enc).length))]) ko (by kernel_rfl) (by kernel_rfl) (by kernel_rfl) (my_sh y) (by kernel_rfl) ?_
  conv=>whnf
  refine ⟨(),[(1000000,1000000),(1000,1002)],True.intro,?_⟩
  conv=>whnf
  exact wkD
 rintro _ _
 refine pwS ?_
 conv=>whnf
 ((try (refine Exists.intro none ?_;conv=>whnf));(with_reducible refine zaa (ks0) ?_);conv=>whnf)
 (refine zae [(1000000,1000000),(1,1000)] [] ?_;(conv=>whnf);exact wkD)
end Go.Proofs
