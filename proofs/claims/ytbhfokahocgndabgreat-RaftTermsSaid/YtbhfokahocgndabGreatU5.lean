import Derived.Test.YtbhfokahocgndabGreatC1
import Derived.Test.YtbhfokahocgndabGreatR3
import Derived.Test.YtbhfokahocgndabGreatQ6
import Derived.Test.YtbhfokahocgndabGreatC47
/- Contracts of functions: a play's calls, configurations, questions, snapshots. (genU5.py prints this) -/
set_option linter.unusedSimpArgs false
set_option linter.unusedVariables false
namespace Go.Proofs
open Go.Pv
set_option maxRecDepth 100000
abbrev rz:Rft:=⟨0,⟨0,0,0,0,cz,[],[]⟩,0,0,0,0,0,0,0,zA,zA,zA,[]⟩
noncomputable def readyR (r:Rft):Rft:={ r with reads:=r.reads.filter fun x=>!rdy (zac r) r.commit x }
abbrev byteL (n:Int):List Int:=[IntKind.u8.wrap n]
noncomputable def compR (r:Rft) (n:Int):Rft:={ r with hard:=compH r.hard r.commit (byteL n) }
inductive ActS (r:Rft) (a:Act) (c:Conf):Int→Rft→Prop where
 | prop (h:propE r a.call=0):ActS r a c 12 (addR r (ec r a.call))
 | chg (h:chgE r c=0):ActS r a c 13 (addR (nxR r c 7) (ecf r c))
 | ask (h:askE r a.call=0):ActS r a c 14 (askR r a.call)
 | ready:ActS r a c 15 (readyR r)
 | comp (h:compE r.hard r.commit (byteL a.n)=0):ActS r a c 16 (compR r a.n)
inductive ActN (r:Rft) (a:Act) (c:Conf):Int→Prop where
 | prop (h:¬ propE r a.call=0):ActN r a c 12
 | chg (h:¬ chgE r c=0):ActN r a c 13
 | ask (h:¬ askE r a.call=0):ActN r a c 14
 | comp (h:¬ compE r.hard r.commit (byteL a.n)=0):ActN r a c 16
def ActE (r:Rft) (a:Act) (c:Conf) (kd:Int) (R:Rft):Prop:=ActS r a c kd R∨(ActN r a c kd∧R=r)
theorem zy1 (s:Svn) {k:Nat} (hk:k < 7):s.put k (s.at k)=s:=by
 rcases (by omega:k=0∨k=1∨k=2∨k=3∨k=4∨k=5∨k=6) with rfl | rfl | rfl | rfl | rfl | rfl | rfl<;>rfl
set_option maxHeartbeats 32000000 in
theorem c_ask18 (s : Svn) (M : List (List PV)) (a : Act) (i : Int) (hi : 0 ≤ i ∧ i < 7) (q : Rft) (kd : Int) (hd : (IntKind.u64.wrap a.doo).tmod 18 = kd) (hk : 12 ≤ kd ∧ kd ≤ 16) (hl : (s.at i.toNat).hard.log.length < 4294967) (hsm : (s.at i.toNat).small) (hr : zcw (s.at i.toNat) = true) (hI : isI (s.at i.toNat).commit ∧ isI (s.at i.toNat).hard.base)
    (hrd:(s.at i.toNat).reads.length≤4294967) {c:Conf} (kn:Ctr Tryz.prog 101 [.ag (s.at i.toNat).enc,.ag a.enc] (.ag c.enc) []) {R:Rft} (hE:ActE (s.at i.toNat) a c kd R) :
    CtrE Tryz.prog 43 [.pt 1000000 0,.ag a.enc,iv i,.ag q.enc,bv true] [(1000000,someI s M)] (someO M) (bv true)
     [(1000000,someI (s.put i.toNat R) M)] (someO M):=by
 obtain ⟨hi0,hi7⟩:=hi
 have hself:=zy1 s (k:=i.toNat) (by omega)
 refine zbe mixed Tryz.func43 rfl (by kernel_rfl) (by kernel_rfl) ?_
 refine tSeq ?_
 conv=>whnf
 refine tCut (fun _:Unit=>True) (fun _=>[(11,.pt 11 0)]) (fun _=>[(1000000,someI s M),(6,a.enc),(8,q.enc),(11,(s.at i.toNat).enc)]) (fun _=>someO M) ?_ ?_
 ·rcases (by omega:i=0∨i=1∨i=2∨i=3∨i=4∨i=5∨i=6) with rfl | rfl | rfl | rfl | rfl | rfl | rfl
  ·conv=>whnf
   refine ⟨⟨by decide,by decide⟩,?_⟩
   conv=>whnf
   refine ⟨(),[(1000000,1000000)],True.intro,?_⟩
   rw [show s.at (Int.toNat 0)=s.r0 from rfl]
   conv=>whnf
   exact wkD
  ·conv=>whnf
   refine ⟨⟨by decide,by decide⟩,?_⟩
   conv=>whnf
   refine ⟨(),[(1000000,1000000)],True.intro,?_⟩
   rw [show s.at (Int.toNat 1)=s.r1 from rfl]
   conv=>whnf
   exact wkD
  ·conv=>whnf
   refine ⟨⟨by decide,by decide⟩,?_⟩
   conv=>whnf
   refine ⟨(),[(1000000,1000000)],True.intro,?_⟩
   rw [show s.at (Int.toNat 2)=s.r2 from rfl]
   conv=>whnf
   exact wkD
  ·conv=>whnf
   refine ⟨⟨by decide,by decide⟩,?_⟩
   conv=>whnf
   refine ⟨(),[(1000000,1000000)],True.intro,?_⟩
   rw [show s.at (Int.toNat 3)=s.r3 from rfl]
   conv=>whnf
   exact wkD
  ·conv=>whnf
   refine ⟨⟨by decide,by decide⟩,?_⟩
   conv=>whnf
   refine ⟨(),[(1000000,1000000)],True.intro,?_⟩
   rw [show s.at (Int.toNat 4)=s.r4 from rfl]
   conv=>whnf
   exact wkD
  ·conv=>whnf
   refine ⟨⟨by decide,by decide⟩,?_⟩
   conv=>whnf
   refine ⟨(),[(1000000,1000000)],True.intro,?_⟩
   rw [show s.at (Int.toNat 5)=s.r5 from rfl]
   conv=>whnf
   exact wkD
  ·conv=>whnf
   refine ⟨⟨by decide,by decide⟩,?_⟩
   conv=>whnf
   refine ⟨(),[(1000000,1000000)],True.intro,?_⟩
   rw [show s.at (Int.toNat 6)=s.r6 from rfl]
   conv=>whnf
   exact wkD
 rintro _ _
 generalize hrr:s.at i.toNat=r at *
 conv=>whnf
 refine tSeq ?_
 conv=>whnf
 refine tSeq ?_
 conv=>whnf
 refine tCut (fun x:Rft×Int=>(x.2=0∧x.1=R)∨(¬ x.2=0∧R=r)) (fun x=>[(11,.pt 11 0),(12,.pt 12 0),(14,iv x.2)]) (fun x=>[(1000000,someI s M),(6,a.enc),(8,q.enc),(11,r.enc),(12,x.1.enc)]) (fun _=>someO M) ?_ ?_
 ·conv=>whnf
  refine ⟨⟨by decide,by decide⟩,?_⟩
  rw [hd]
  rcases hE with hE | ⟨hN,hRr⟩
  ·cases hE with
   | prop he =>
    have kp:=zr9 r a.call hl hr he
    conv=>whnf
    ((try (refine Exists.intro none ?_;conv=>whnf));(with_reducible refine zaa (kp) ?_);conv=>whnf)
    (refine tNew0 ?_;conv=>whnf)
    refine ⟨(_,0),[(1000000,1000000)],.inl ⟨rfl,rfl⟩,?_⟩
    conv=>whnf
    exact wkD
   | chg he =>
    have kp:=zvk r c hl hr he
    conv=>whnf
    ((try (refine Exists.intro none ?_;conv=>whnf));(with_reducible refine zaa (kn) ?_);conv=>whnf)
    ((try (refine Exists.intro none ?_;conv=>whnf));(with_reducible refine zaa (kp) ?_);conv=>whnf)
    (refine tNew0 ?_;conv=>whnf)
    refine ⟨(_,0),[(1000000,1000000)],.inl ⟨rfl,rfl⟩,?_⟩
    conv=>whnf
    exact wkD
   | ask he =>
    have kp:=zw6 r a.call hl hr he
    conv=>whnf
    ((try (refine Exists.intro none ?_;conv=>whnf));(with_reducible refine zaa (kp) ?_);conv=>whnf)
    (refine tNew0 ?_;conv=>whnf)
    refine ⟨(_,0),[(1000000,1000000)],.inl ⟨rfl,rfl⟩,?_⟩
    conv=>whnf
    exact wkD
   | ready =>
    have kt:=zao r hsm
    have kc:=zb7 r (zak (by omega))
    have kp:Ctr Tryz.prog 103 [.sl 13 (r.reads.map Rd.enc),.ag (zac r).enc,iv r.commit] (.tu [.sl 13 ((r.reads.filter (rdy (zac r) r.commit)).map Rd.enc),.sl 13 ((r.reads.filter fun x=>!rdy (zac r) r.commit x).map Rd.enc)]) [] :=
     Ctr.frz (zx9 r.reads hrd (zac r) r.commit) (zah ⟨zbw (b:=false) (List.Mem.head _) rfl,zbw (b:=false) (List.Mem.tail _ (List.Mem.head _)) rfl,rfl⟩)
    conv=>whnf
    ((try (refine Exists.intro none ?_;conv=>whnf));(with_reducible refine zaa (kt) ?_);conv=>whnf)
    (refine tNew0 ?_;conv=>whnf)
    ((try (refine Exists.intro none ?_;conv=>whnf));(with_reducible refine zaa (kc) ?_);conv=>whnf)
    ((try (refine Exists.intro none ?_;conv=>whnf));(with_reducible refine zaa (kp) ?_);conv=>whnf)
    (refine tNew0 ?_;conv=>whnf)
    refine ⟨(_,0),[(1000000,1000000)],.inl ⟨rfl,rfl⟩,?_⟩
    conv=>whnf
    exact wkD
   | comp he =>
    have kt:=zao r hsm
    have kp:=zj8 r.hard (by omega) hI.2 r.commit hI.1 (byteL a.n) (by show 1≤4294967296;decide)
    rw [(zea he).2.2] at kp
    conv=>whnf
    ((try (refine Exists.intro none ?_;conv=>whnf));(with_reducible refine zaa (kt) ?_);conv=>whnf)
    (refine tNew0 ?_;conv=>whnf)
    ((try ((refine Exists.intro none ?_);(conv=>whnf)));refine zai (kp) (by kernel_rfl) ?_;conv=>whnf)
    (refine tNew0 ?_;conv=>whnf)
    refine ⟨(_,0),[(1000000,1000000)],.inl ⟨rfl,rfl⟩,?_⟩
    conv=>whnf
    exact wkD
  ·cases hN with
   | prop he =>
    have kp:=zoa r a.call hl he
    conv=>whnf
    ((try (refine Exists.intro none ?_;conv=>whnf));(with_reducible refine zaa (kp) ?_);conv=>whnf)
    refine ⟨(rz,(propE r a.call)),[(1000000,1000000)],.inr ⟨he,hRr⟩,?_⟩
    conv=>whnf
    exact wkD
   | chg he =>
    have kp:=zrz r c hl hr he
    conv=>whnf
    ((try (refine Exists.intro none ?_;conv=>whnf));(with_reducible refine zaa (kn) ?_);conv=>whnf)
    ((try (refine Exists.intro none ?_;conv=>whnf));(with_reducible refine zaa (kp) ?_);conv=>whnf)
    refine ⟨(rz,(chgE r c)),[(1000000,1000000)],.inr ⟨he,hRr⟩,?_⟩
    conv=>whnf
    exact wkD
   | ask he =>
    have kp:=zr3 r a.call hl hr he
    conv=>whnf
    ((try (refine Exists.intro none ?_;conv=>whnf));(with_reducible refine zaa (kp) ?_);conv=>whnf)
    refine ⟨(rz,(askE r a.call)),[(1000000,1000000)],.inr ⟨he,hRr⟩,?_⟩
    conv=>whnf
    exact wkD
   | comp he =>
    have kt:=zao r hsm
    have kp:=zj8 r.hard (by omega) hI.2 r.commit hI.1 (byteL a.n) (by show 1≤4294967296;decide)
    rw [(zc0 he).2.2] at kp
    generalize compE r.hard r.commit (byteL a.n)=e at *
    conv=>whnf
    ((try (refine Exists.intro none ?_;conv=>whnf));(with_reducible refine zaa (kt) ?_);conv=>whnf)
    (refine tNew0 ?_;conv=>whnf)
    ((try ((refine Exists.intro none ?_);(conv=>whnf)));refine zai (kp) (by kernel_rfl) ?_;conv=>whnf)
    (refine tSp (fun h=>?_) (fun h=>?_)<;>conv=>whnf)
    ·refine ⟨(rz,e),[(1000000,1000000)],.inr ⟨he,hRr⟩,?_⟩
     conv=>whnf
     exact wkD
    ·exact absurd (by first | exact h | (simpa using h)) he
 rintro ⟨X,e⟩ hx
 conv=>whnf
 refine tSeq ?_
 conv=>whnf
 refine tSeq ?_
 conv=>whnf
 refine pwS ?_
 rcases hx with ⟨he,hX⟩ | ⟨he,hRr⟩
 ·have he:e=0:=he
  subst he
  have hX:X=R:=hX
  subst hX
  clear hrr
  rcases (by omega:i=0∨i=1∨i=2∨i=3∨i=4∨i=5∨i=6) with rfl | rfl | rfl | rfl | rfl | rfl | rfl
  ·conv=>whnf
   refine ⟨⟨by decide,by decide⟩,?_⟩
   rw [show s.put (Int.toNat 0) X={ s with r0:=X } from rfl]
   conv=>whnf
   (refine zae [(1000000,1000000)] [] ?_;(conv=>whnf);exact wkD)
  ·conv=>whnf
   refine ⟨⟨by decide,by decide⟩,?_⟩
   rw [show s.put (Int.toNat 1) X={ s with r1:=X } from rfl]
   conv=>whnf
   (refine zae [(1000000,1000000)] [] ?_;(conv=>whnf);exact wkD)
  ·conv=>whnf
   refine ⟨⟨by decide,by decide⟩,?_⟩
   rw [show s.put (Int.toNat 2) X={ s with r2:=X } from rfl]
   conv=>whnf
   (refine zae [(1000000,1000000)] [] ?_;(conv=>whnf);exact wkD)
  ·conv=>whnf
   refine ⟨⟨by decide,by decide⟩,?_⟩
   rw [show s.put (Int.toNat 3) X={ s with r3:=X } from rfl]
   conv=>whnf
   (refine zae [(1000000,1000000)] [] ?_;(conv=>whnf);exact wkD)
  ·conv=>whnf
   refine ⟨⟨by decide,by decide⟩,?_⟩
   rw [show s.put (Int.toNat 4) X={ s with r4:=X } from rfl]
   conv=>whnf
   (refine zae [(1000000,1000000)] [] ?_;(conv=>whnf);exact wkD)
  ·conv=>whnf
   refine ⟨⟨by decide,by decide⟩,?_⟩
   rw [show s.put (Int.toNat 5) X={ s with r5:=X } from rfl]
   conv=>whnf
   (refine zae [(1000000,1000000)] [] ?_;(conv=>whnf);exact wkD)
  ·conv=>whnf
   refine ⟨⟨by decide,by decide⟩,?_⟩
   rw [show s.put (Int.toNat 6) X={ s with r6:=X } from rfl]
   conv=>whnf
   (refine zae [(1000000,1000000)] [] ?_;(conv=>whnf);exact wkD)
 ·have he:¬ e=0:=he
  have hRr:R=r:=hRr
  rw [hRr,hself]
  conv=>whnf
  (first | refine tYes ?_ | refine tNo ?_)
  conv=>whnf
  (refine zae [(1000000,1000000)] [] ?_;(conv=>whnf);exact wkD)
end Go.Proofs
