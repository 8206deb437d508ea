import Derived.Test.YtbhfokahocgndabGreatC1
import Derived.Test.YtbhfokahocgndabGreatU9
/- Contracts of functions: an act of a play: a message is refused. (genU6.py prints this) -/
set_option linter.unusedSimpArgs false
set_option linter.unusedVariables false
namespace Go.Proofs
open Go.Pv
set_option maxRecDepth 100000
set_option maxHeartbeats 64000000 in
theorem zjk (s : Svn) (ms : List My) (hM : ms.length ≤ 100) (a : Act) (k : Nat) (hk : k < 7) (hki : IntKind.i64.wrap ((IntKind.u64.wrap a.i).tmod 7) = (k : Int)) (kd : Int) (hd : (IntKind.u64.wrap a.doo).tmod 18 = kd) (hsm : (s.at k).small) (j : Nat) (hj : j < ms.length) (hdr : IntKind.i64.wrap ((IntKind.u64.wrap a.n).tmod (IntKind.u64.wrap (ms.length : Int))) = (j : Int)) (y : My) (hy : ms[j]'hj = y) (hkd : 4 ≤ kd ∧ kd < 10) (t : Nat) (ht : t < 7) (hyt : y.to = (t : Int)) (hsm2 : (s.at t).small) (E : Int) (hE : ¬ E = 0) (kz : Ctr Tryz.prog 40 [.ag (s.at t).enc, .ag y.mg.enc] (.tu [.ag rzv, .nl, iv E]) []) :
    CtrE Tryz.prog 11 [.pt 1000000 0,.ag a.enc,bv true] [(1000000,someI s (ms.map My.enc))] (someO (ms.map My.enc)) (bv true) [(1000000,someV s (.ow 1 0 ((ms.eraseIdx j).map My.enc).length))] [(1000000,some (false,16,ms.map My.enc)),(1,some (false,16,((ms.eraseIdx j).map My.enc)))]:=by
 have kt2:=zao (s.at t) hsm2
 have ks2:=zgb (s.at t) (zak hsm2.snap) (zak hsm2.log) (zak hsm2.reads)
 have ko:=zpd s ms hM j hj
 rw [hy] at ko
 have hml:(ms.map My.enc).length=ms.length:=List.length_map ..
 have hn0:¬ IntKind.u64.wrap ((ms.map My.enc).length:Int)=0:=by rw [hml,zb4 (by omega) (by omega)];omega
 have hdr2:IntKind.i64.wrap ((IntKind.u64.wrap a.n).tmod (IntKind.u64.wrap ((ms.map My.enc).length:Int)))=(j:Int):=by rw [hml];exact hdr
 have hne:¬ ((ms.map My.enc).length:Int)=0:=by omega
 have hgt:((ms.map My.enc).length:Int) > 0:=by omega
 have kt0:=zao (s.at k) hsm
 have ks0:=zgb (s.at k) (zak hsm.snap) (zak hsm.log) (zak hsm.reads)
 refine zbe mixed Tryz.func11 rfl (by kernel_rfl) (by kernel_rfl) ?_
 refine tSeq ?_
 conv=>whnf
 refine tSeq ?_
 conv=>whnf
 refine ⟨⟨by decide,by decide⟩,?_⟩
 conv=>whnf
 rw [hki]
 refine tCut (fun _:Unit=>True) (fun _=>[(8,.pt 8 0)]) (fun _=>[(1000000,someI s (ms.map My.enc)),(4,a.enc),(8,(s.at k).enc)]) (fun _=>someO (ms.map My.enc)) ?_ ?_
 ·rcases (by omega:k=0∨k=1∨k=2∨k=3∨k=4∨k=5∨k=6) with rfl | rfl | rfl | rfl | rfl | rfl | rfl
  ·conv=>whnf
   refine ⟨⟨by decide,by decide⟩,?_⟩
   conv=>whnf
   refine ⟨(),[(1000000,1000000)],True.intro,?_⟩
   rw [show s.at 0=s.r0 from rfl]
   conv=>whnf
   exact wkD
  ·conv=>whnf
   refine ⟨⟨by decide,by decide⟩,?_⟩
   conv=>whnf
   refine ⟨(),[(1000000,1000000)],True.intro,?_⟩
   rw [show s.at 1=s.r1 from rfl]
   conv=>whnf
   exact wkD
  ·conv=>whnf
   refine ⟨⟨by decide,by decide⟩,?_⟩
   conv=>whnf
   refine ⟨(),[(1000000,1000000)],True.intro,?_⟩
   rw [show s.at 2=s.r2 from rfl]
   conv=>whnf
   exact wkD
  ·conv=>whnf
   refine ⟨⟨by decide,by decide⟩,?_⟩
   conv=>whnf
   refine ⟨(),[(1000000,1000000)],True.intro,?_⟩
   rw [show s.at 3=s.r3 from rfl]
   conv=>whnf
   exact wkD
  ·conv=>whnf
   refine ⟨⟨by decide,by decide⟩,?_⟩
   conv=>whnf
   refine ⟨(),[(1000000,1000000)],True.intro,?_⟩
   rw [show s.at 4=s.r4 from rfl]
   conv=>whnf
   exact wkD
  ·conv=>whnf
   refine ⟨⟨by decide,by decide⟩,?_⟩
   conv=>whnf
   refine ⟨(),[(1000000,1000000)],True.intro,?_⟩
   rw [show s.at 5=s.r5 from rfl]
   conv=>whnf
   exact wkD
  ·conv=>whnf
   refine ⟨⟨by decide,by decide⟩,?_⟩
   conv=>whnf
   refine ⟨(),[(1000000,1000000)],True.intro,?_⟩
   rw [show s.at 6=s.r6 from rfl]
   conv=>whnf
   exact wkD
 rintro _ _
 generalize hrr:s.at k=r at *
 conv=>whnf
 refine tSeq ?_
 conv=>whnf
 ((try (refine Exists.intro none ?_;conv=>whnf));(with_reducible refine zaa (kt0) ?_);conv=>whnf)
 (refine tNew0 ?_;conv=>whnf)
 refine tSeq ?_
 conv=>whnf
 refine tCut (fun _:Unit=>True) (fun _=>[(10,bv true),(8,.pt 8 0),(9,.pt 9 0)]) (fun _=>[(1000000,someV (s) (.ow 1000 0 (((ms.eraseIdx j).map My.enc)).length)),(4,a.enc),(8,(s.at t).enc),(9,(s.at t).enc)]) (fun _=>[(1000000,some (false,16,ms.map My.enc)),(1000,some (false,16,((ms.eraseIdx j).map My.enc)))]) ?_ ?_
 ·conv=>whnf
  refine ⟨⟨by decide,by decide⟩,?_⟩
  conv=>whnf
  rw [hd]
  conv=>whnf
  (first | refine tYes ?_ | refine tNo ?_)
  conv=>whnf
  (first | refine tYes ?_ | refine tNo ?_)
  conv=>whnf
  (first | refine tYes ?_ | refine tNo ?_)
  conv=>whnf
  refine ⟨⟨hn0,by decide⟩,?_⟩
  conv=>whnf
  rw [hdr2]
  refine Exists.intro (some ([(1000000,1000000)],[(1000000,1000000)],[(1,1002)])) ?_
  conv=>whnf
  refine zbf (r2:=.ag y.enc) (wb:=[(1000000,someV s (.ow 1002 0 ((ms.eraseIdx j).map My.enc).length))]) ko (by kernel_rfl) (by kernel_rfl) (by kernel_rfl) (my_sh y) (by kernel_rfl) ?_
  conv=>whnf
  rw [zi5 y]
  conv=>whnf
  (first | refine tYes ?_ | refine tNo ?_)
  conv=>whnf
  (first | refine tYes ?_ | refine tNo ?_)
  conv=>whnf
  rcases (by omega:t=0∨t=1∨t=2∨t=3∨t=4∨t=5∨t=6) with rfl | rfl | rfl | rfl | rfl | rfl | rfl
  ·rw [show s.at 0=s.r0 from rfl] at *
   have ht3:Int.toNat y.to=0:=by omega
   refine ⟨⟨by omega,by omega⟩,?_⟩
   rw [ht3]
   conv=>whnf
   ((try (refine Exists.intro none ?_;conv=>whnf));(with_reducible refine zaa (kt2) ?_);conv=>whnf)
   (refine tNew0 ?_;conv=>whnf)
   refine Exists.intro none ?_
   show zby _ _ _ _ _ _
   unfold zby
   refine zdw ?_
   refine zaw kz (by (repeat' (first | exact zav | exact zau | refine zar ?_ ?_ | refine zaq ?_ ?_ | exact SubV.refl _ | exact za2 | (with_reducible exact za7 rfl) | refine za6 ?_ | refine za8 ?_ | refine za5 ?_))<;>first | exact zdd _ | exact zdc _) ?_
   conv=>whnf
   (first | refine tYes ?_ | refine tNo ?_)
   conv=>whnf
   refine ⟨(),[(1000000,1000000),(1000,1002)],True.intro,?_⟩
   conv=>whnf
   exact wkD
  ·rw [show s.at 1=s.r1 from rfl] at *
   have ht3:Int.toNat y.to=1:=by omega
   refine ⟨⟨by omega,by omega⟩,?_⟩
   rw [ht3]
   conv=>whnf
   ((try (refine Exists.intro none ?_;conv=>whnf));(with_reducible refine zaa (kt2) ?_);conv=>whnf)
   (refine tNew0 ?_;conv=>whnf)
   refine Exists.intro none ?_
   show zby _ _ _ _ _ _
   unfold zby
   refine zdw ?_
   refine zaw kz (by (repeat' (first | exact zav | exact zau | refine zar ?_ ?_ | refine zaq ?_ ?_ | exact SubV.refl _ | exact za2 | (with_reducible exact za7 rfl) | refine za6 ?_ | refine za8 ?_ | refine za5 ?_))<;>first | exact zdd _ | exact zdc _) ?_
   conv=>whnf
   (first | refine tYes ?_ | refine tNo ?_)
   conv=>whnf
   refine ⟨(),[(1000000,1000000),(1000,1002)],True.intro,?_⟩
   conv=>whnf
   exact wkD
  ·rw [show s.at 2=s.r2 from rfl] at *
   have ht3:Int.toNat y.to=2:=by omega
   refine ⟨⟨by omega,by omega⟩,?_⟩
   rw [ht3]
   conv=>whnf
   ((try (refine Exists.intro none ?_;conv=>whnf));(with_reducible refine zaa (kt2) ?_);conv=>whnf)
   (refine tNew0 ?_;conv=>whnf)
   refine Exists.intro none ?_
   show zby _ _ _ _ _ _
   unfold zby
   refine zdw ?_
   refine zaw kz (by (repeat' (first | exact zav | exact zau | refine zar ?_ ?_ | refine zaq ?_ ?_ | exact SubV.refl _ | exact za2 | (with_reducible exact za7 rfl) | refine za6 ?_ | refine za8 ?_ | refine za5 ?_))<;>first | exact zdd _ | exact zdc _) ?_
   conv=>whnf
   (first | refine tYes ?_ | refine tNo ?_)
   conv=>whnf
   refine ⟨(),[(1000000,1000000),(1000,1002)],True.intro,?_⟩
   conv=>whnf
   exact wkD
  ·rw [show s.at 3=s.r3 from rfl] at *
   have ht3:Int.toNat y.to=3:=by omega
   refine ⟨⟨by omega,by omega⟩,?_⟩
   rw [ht3]
   conv=>whnf
   ((try (refine Exists.intro none ?_;conv=>whnf));(with_reducible refine zaa (kt2) ?_);conv=>whnf)
   (refine tNew0 ?_;conv=>whnf)
   refine Exists.intro none ?_
   show zby _ _ _ _ _ _
   unfold zby
   refine zdw ?_
   refine zaw kz (by (repeat' (first | exact zav | exact zau | refine zar ?_ ?_ | refine zaq ?_ ?_ | exact SubV.refl _ | exact za2 | (with_reducible exact za7 rfl) | refine za6 ?_ | refine za8 ?_ | refine za5 ?_))<;>first | exact zdd _ | exact zdc _) ?_
   conv=>whnf
   (first | refine tYes ?_ | refine tNo ?_)
   conv=>whnf
   refine ⟨(),[(1000000,1000000),(1000,1002)],True.intro,?_⟩
   conv=>whnf
   exact wkD
  ·rw [show s.at 4=s.r4 from rfl] at *
   have ht3:Int.toNat y.to=4:=by omega
   refine ⟨⟨by omega,by omega⟩,?_⟩
   rw [ht3]
   conv=>whnf
   ((try (refine Exists.intro none ?_;conv=>whnf));(with_reducible refine zaa (kt2) ?_);conv=>whnf)
   (refine tNew0 ?_;conv=>whnf)
   refine Exists.intro none ?_
   show zby _ _ _ _ _ _
   unfold zby
   refine zdw ?_
   refine zaw kz (by (repeat' (first | exact zav | exact zau | refine zar ?_ ?_ | refine zaq ?_ ?_ | exact SubV.refl _ | exact za2 | (with_reducible exact za7 rfl) | refine za6 ?_ | refine za8 ?_ | refine za5 ?_))<;>first | exact zdd _ | exact zdc _) ?_
   conv=>whnf
   (first | refine tYes ?_ | refine tNo ?_)
   conv=>whnf
   refine ⟨(),[(1000000,1000000),(1000,1002)],True.intro,?_⟩
   conv=>whnf
   exact wkD
  ·rw [show s.at 5=s.r5 from rfl] at *
   have ht3:Int.toNat y.to=5:=by omega
   refine ⟨⟨by omega,by omega⟩,?_⟩
   rw [ht3]
   conv=>whnf
   ((try (refine Exists.intro none ?_;conv=>whnf));(with_reducible refine zaa (kt2) ?_);conv=>whnf)
   (refine tNew0 ?_;conv=>whnf)
   refine Exists.intro none ?_
   show zby _ _ _ _ _ _
   unfold zby
   refine zdw ?_
   refine zaw kz (by (repeat' (first | exact zav | exact zau | refine zar ?_ ?_ | refine zaq ?_ ?_ | exact SubV.refl _ | exact za2 | (with_reducible exact za7 rfl) | refine za6 ?_ | refine za8 ?_ | refine za5 ?_))<;>first | exact zdd _ | exact zdc _) ?_
   conv=>whnf
   (first | refine tYes ?_ | refine tNo ?_)
   conv=>whnf
   refine ⟨(),[(1000000,1000000),(1000,1002)],True.intro,?_⟩
   conv=>whnf
   exact wkD
  ·rw [show s.at 6=s.r6 from rfl] at *
   have ht3:Int.toNat y.to=6:=by omega
   refine ⟨⟨by omega,by omega⟩,?_⟩
   rw [ht3]
   conv=>whnf
   ((try (refine Exists.intro none ?_;conv=>whnf));(with_reducible refine zaa (kt2) ?_);conv=>whnf)
   (refine tNew0 ?_;conv=>whnf)
   refine Exists.intro none ?_
   show zby _ _ _ _ _ _
   unfold zby
   refine zdw ?_
   refine zaw kz (by (repeat' (first | exact zav | exact zau | refine zar ?_ ?_ | refine zaq ?_ ?_ | exact SubV.refl _ | exact za2 | (with_reducible exact za7 rfl) | refine za6 ?_ | refine za8 ?_ | refine za5 ?_))<;>first | exact zdd _ | exact zdc _) ?_
   conv=>whnf
   (first | refine tYes ?_ | refine tNo ?_)
   conv=>whnf
   refine ⟨(),[(1000000,1000000),(1000,1002)],True.intro,?_⟩
   conv=>whnf
   exact wkD
 rintro _ _
 refine pwS ?_
 conv=>whnf
 ((try (refine Exists.intro none ?_;conv=>whnf));(with_reducible refine zaa (ks2) ?_);conv=>whnf)
 (refine zae [(1000000,1000000),(1,1000)] [] ?_;(conv=>whnf);exact wkD)
end Go.Proofs
