import Derived.Test.YtbhfokahocgndabGreatC1
import Derived.Test.YtbhfokahocgndabGreatR8
import Derived.Test.YtbhfokahocgndabGreatR3
import Derived.Test.YtbhfokahocgndabGreatC24
import Derived.Test.YtbhfokahocgndabGreatI1
/- The law: what a play's replica makes of a tick, and of each message, lowers no term. (genT3.py prints this) -/
set_option linter.unusedSimpArgs false
set_option linter.unusedVariables false
namespace Go.Proofs
open Go.Pv
set_option maxRecDepth 100000
def oP:Option (Rft×List My)→List PV
 | some x=>x.1.enc
 | none=>rzv
def oK:Option (Rft×List My)→PV
 | some x=>.sl 16 (x.2.map My.enc)
 | none=>.nl
def oIn (r:Rft):Option (Rft×List My)→Int→Prop
 | some x,E=>E=0∧Gd r x.1 x.2∧x.2.length≤8
 | none,E=>¬ E=0
set_option maxHeartbeats 64000000 in
theorem zoh (c:Conf) (l:List Act) (a:Act) (hlm:l.length≤maxLen):Ctr Tryz.prog 3 [.ag c.enc,.sl 17 (l.map Act.enc),.ag a.enc] (bv true) []:=by
 have kh:=zxe l hlm
 have kc:=zhx c
 have kv:=zko a.call.cmd
 have kb:=zv7 c
 have hml:(l.map Act.enc).length=l.length:=List.length_map ..
 cases hv:zif l with
 | true =>
  rw [hv] at kh
  refine sBody Tryz.func3 ?_;conv=>whnf
  ((try (refine Exists.intro none ?_;conv=>whnf));(with_reducible refine zaa (kh) ?_);conv=>whnf)
  exact zab rfl rfl
 | false =>
 rw [hv] at kh
 have hl6:=zrn hv
 cases hcf:confB c with
 | false =>
  rw [hcf] at kc
  refine sBody Tryz.func3 ?_;conv=>whnf
  ((try (refine Exists.intro none ?_;conv=>whnf));(with_reducible refine zaa (kh) ?_);conv=>whnf)
  ((try (refine Exists.intro none ?_;conv=>whnf));(with_reducible refine zaa (kc) ?_);conv=>whnf)
  exact zab rfl rfl
 | true =>
 rw [hcf] at kc
 cases hcm:zdl a.call.cmd with
 | true =>
  rw [hcm] at kv
  refine sBody Tryz.func3 ?_;conv=>whnf
  ((try (refine Exists.intro none ?_;conv=>whnf));(with_reducible refine zaa (kh) ?_);conv=>whnf)
  ((try (refine Exists.intro none ?_;conv=>whnf));(with_reducible refine zaa (kc) ?_);conv=>whnf)
  ((try (refine Exists.intro none ?_;conv=>whnf));(with_reducible refine zaa (kv) ?_);conv=>whnf)
  exact zab rfl rfl
 | false =>
 rw [hcm] at kv
 refine zom mixed Tryz.func3 rfl (by kernel_rfl) (by kernel_rfl) ?_
 refine tSeq ?_
 conv=>whnf
 refine tSeq ?_
 conv=>whnf
 ((try (refine Exists.intro none ?_;conv=>whnf));(with_reducible refine zaa (kh) ?_);conv=>whnf)
 ((try (refine Exists.intro none ?_;conv=>whnf));(with_reducible refine zaa (kc) ?_);conv=>whnf)
 ((try (refine Exists.intro none ?_;conv=>whnf));(with_reducible refine zaa (kv) ?_);conv=>whnf)
 refine tSeq ?_
 conv=>whnf
 ((refine Exists.intro (some ([(6,500)],[],[(0,600)])) ?_);(conv=>whnf);first | ((with_reducible refine zam (kb) ?_);conv=>whnf))
 refine tCut (fun x:Svn×List My=>Ply 150 x.1 x.2) (fun _=>[]) (fun x=>[(3,c.enc),(5,a.enc),(500,someV x.1 (.ow 1000 0 (x.2.map My.enc).length))]) (fun x=>[(1000,some (false,16,x.2.map My.enc))]) ?_ ?_
 ·conv=>whnf
  refine tFor (fun x:Nat×Svn×List My=>x.1≤l.length∧x.1≤150∧Ply x.1 x.2.1 x.2.2) (fun x=>[(8,iv x.1)]) (fun x=>[(3,c.enc),(5,a.enc),(500,someV x.2.1 (.ow 1000 0 (x.2.2.map My.enc).length))]) (fun x=>[(1000,some (false,16,x.2.2.map My.enc))]) [(1000,600)] (fun x=>l.length - x.1) (0,begS c 7,[]) ⟨Nat.zero_le _,Nat.zero_le _,beg_ply hcf⟩ ?_ ?_
  ·conv=>whnf
   exact wkD
  rintro ⟨i,s,ms⟩ ⟨hi,hi2,hp⟩
  have hi:i≤l.length:=hi
  have hi2:i≤150:=hi2
  have hp:Ply i s ms:=hp
  conv=>whnf
  (refine tSp (fun h=>?_) (fun h=>?_)<;>conv=>whnf)
  ·have hlt:i < l.length:=by rw [hml] at h;omega
   clear h
   (refine tSp (fun h=>?_) (fun h=>?_)<;>conv=>whnf)
   ·have h150:i < 150:=by omega
    clear h
    obtain ⟨s',ms',hst,hdo⟩:=do_ex hp (by omega) (l[i]'hlt)
    have hrow:=zbn (f:=Act.enc) hlt
    generalize l[i]'hlt=b at *
    refine ⟨by omega,_,hrow,?_⟩
    conv=>whnf
    cases hdo with
    | same e hd =>
     refine Exists.intro (some ([(1000000,500)],[(1000000,1000)],[])) ?_
     conv=>whnf
     refine cFast (r2:=bv true) (wb:=[(500,someV s' (.ow 1000 0 (ms'.map My.enc).length))]) hd ?_
     conv=>whnf
     refine ⟨(i+1,s',ms'),[(1000,1000)],⟨⟨by show i+1≤l.length;omega,by show i+1≤150;omega,zme hp (by omega) hst⟩,by show l.length - (i+1) < l.length - i;omega⟩,?_⟩
     conv=>whnf
     exact wkD
    | lost hd =>
     refine Exists.intro (some ([(1000000,500)],[(1000000,1000)],[(1,1001)])) ?_
     conv=>whnf
     refine cFast (r2:=bv true) (wb:=[(500,someV s' (.ow 1001 0 (ms'.map My.enc).length))]) hd ?_
     conv=>whnf
     refine ⟨(i+1,s',ms'),[(1000,1001)],⟨⟨by show i+1≤l.length;omega,by show i+1≤150;omega,zme hp (by omega) hst⟩,by show l.length - (i+1) < l.length - i;omega⟩,?_⟩
     conv=>whnf
     exact wkD
    | kept hd =>
     refine Exists.intro (some ([(1000000,500)],[(1000000,1000)],[(1,1001)])) ?_
     conv=>whnf
     refine cFast (r2:=bv true) (wb:=[(500,someV s' (.ow 1001 0 (ms'.map My.enc).length))]) hd ?_
     conv=>whnf
     refine ⟨(i+1,s',ms'),[(1000,1001)],⟨⟨by show i+1≤l.length;omega,by show i+1≤150;omega,zme hp (by omega) hst⟩,by show l.length - (i+1) < l.length - i;omega⟩,?_⟩
     conv=>whnf
     exact wkD
   ·clear h
    refine ⟨(s,ms),[(1000,1000)],hp.mono hi2,?_⟩
    conv=>whnf
    exact wkD
  ·clear h
   refine ⟨(s,ms),[(1000,1000)],hp.mono hi2,?_⟩
   conv=>whnf
   exact wkD
 rintro ⟨s,ms⟩ hp
 have hp:Ply 150 s ms:=hp
 have hpl:=hp.len
 obtain ⟨k,hk,hki0⟩:=zht a.i (m:=7) (by decide) (by decide)
 have hki:IntKind.i64.wrap ((IntKind.u64.wrap a.i).tmod 7)=(k:Int):=by
  rw [← hki0,zb4 (n:=((7:Nat):Int)) (by omega) (by omega)];rfl
 conv=>whnf
 refine tCut (fun _:Unit=>True) (fun _=>[(9,.pt 9 0)]) (fun _=>[(3,c.enc),(5,a.enc),(500,someV s (.ow 1000 0 (ms.map My.enc).length)),(9,(s.at k).enc)]) (fun _=>[(1000,some (false,16,ms.map My.enc))]) ?_ ?_
 ·conv=>whnf
  refine ⟨⟨by decide,by decide⟩,?_⟩
  conv=>whnf
  rw [hki]
  clear hki hki0
  refine ⟨⟨Int.natCast_nonneg _,Int.ofNat_lt.2 hk⟩,?_⟩
  conv=>whnf
  refine at_rft hk (by show 0+0+((k:Nat):Int).toNat * 40=k * 40;omega) ?_
  conv=>whnf
  refine ⟨(),[(1000,1000)],True.intro,?_⟩
  conv=>whnf
  exact wkD
 rintro _ _
 have hr:=hp.rp k hk
 have hlg:=hr.log
 have hg:=zxg hr.id' (by decide)
 obtain ⟨L0,e0,hG0,hl0⟩:=gd_of hr (by decide) hg
 have kt:=c_TickA (s.at k) (zf3 hr.rgt) (by omega)
 rw [e0] at kt
 generalize hrr:s.at k=r at *
 conv=>whnf
 refine tSeq ?_
 conv=>whnf
 ((try (refine Exists.intro none ?_;conv=>whnf));(with_reducible refine zaa (kt) ?_);conv=>whnf)
 (refine tNew0 ?_;conv=>whnf)
 refine tCut (fun _:Option (Rft×List My)=>True) (fun _=>[]) (fun X=>[(3,c.enc),(5,a.enc),(9,r.enc),(10,oP X),(500,someV s (.ow 1000 0 (ms.map My.enc).length))]) (fun _=>[(1000,some (false,16,ms.map My.enc))]) ?_ ?_
 ·conv=>whnf
  refine zxs (fun x:Nat×Option (Rft×List My)×Int=>x.1≤ms.length+1∧oIn r x.2.1 x.2.2) (fun x=>[(13,iv x.1),(11,oK x.2.1),(12,iv x.2.2)]) (fun x=>[(3,c.enc),(5,a.enc),(9,r.enc),(10,oP x.2.1),(500,someV s (.ow 1000 0 (ms.map My.enc).length))]) (fun _=>[(1000,some (false,16,ms.map My.enc))]) [(1000,1000)] (fun x=>ms.length+1 - x.1) (0,some (tkR r,L0),0) ⟨Nat.zero_le _,rfl,hG0,hl0⟩ ?_ ?_
  ·conv=>whnf
   exact wkD
  rintro ⟨i,o,E⟩ ⟨hi,hE⟩
  have hi:i≤ms.length+1:=hi
  have hmm:(ms.map My.enc).length=ms.length:=List.length_map ..
  rcases o with _ | ⟨S,ys⟩
  ·have hE:¬ E=0:=hE
   conv=>whnf
   refine tSeq ?_
   conv=>whnf
   (refine tSp (fun h=>?_) (fun h=>?_)<;>conv=>whnf)
   ·have hle:i≤ms.length:=by rw [hmm] at h;omega
    clear h
    refine zqw ?_
    refine zmy ?_
    refine zqy (fun _:Unit=>True) (fun _=>[]) (fun _=>[(3,c.enc),(5,a.enc),(9,r.enc),(10,rzv),(500,someV s (.ow 1000 0 (ms.map My.enc).length))]) (fun _=>[(1000,some (false,16,ms.map My.enc))]) ?_ ?_
    ·refine pwS ?_
     conv=>whnf
     (first | refine tYes ?_ | refine tNo ?_)
     conv=>whnf
     refine ⟨(),[(1000,1000)],True.intro,?_⟩
     conv=>whnf
     exact wkD
    rintro _ _
    conv=>whnf
    refine pwS ?_
    conv=>whnf
    (refine tSp (fun h=>?_) (fun h=>?_)<;>conv=>whnf)
    ·have hlt2:i < ms.length:=by rw [hmm] at h;omega
     clear h
     obtain ⟨S2,ys2,E2,kt2,hG2⟩:=zpv hr (by decide) (hp.my _ (List.getElem_mem hlt2))
     have hrow2:(ms.map My.enc)[0+((i:Nat):Int).toNat]?=some (ms[i]'hlt2).enc:=by
      rw [Nat.zero_add,Int.toNat_natCast,List.getElem?_map,List.getElem?_eq_getElem hlt2];rfl
     generalize ms[i]'hlt2=y at *
     refine ⟨⟨by omega,by omega⟩,?_⟩
     conv=>whnf
     refine ⟨_,hrow2,?_⟩
     conv=>whnf
     rw [zi5 y]
     conv=>whnf
     refine Exists.intro none ?_
     show zby _ _ _ _ _ _
     unfold zby
     refine zdw (y:={ y with to:=r.id }) ?_
     by_cases hE2:E2=0
     ·subst hE2
      rw [zb5] at kt2
      refine zaw kt2 (by (repeat' (first | exact zav | exact zau | refine zar ?_ ?_ | refine zaq ?_ ?_ | exact SubV.refl _ | exact za2 | (with_reducible exact za7 rfl) | refine za6 ?_ | refine za8 ?_ | refine za5 ?_))<;>first | exact zdd _ | exact zdc _) ?_
      conv=>whnf
      (refine tNew0 ?_;conv=>whnf)
      refine pwS ?_
      conv=>whnf
      refine ⟨(i+1,some (S2,ys2),0),[(1000,1000)],⟨⟨by show i+1≤ms.length+1;omega,rfl,hG2 rfl⟩,by show ms.length+1 - (i+1) < ms.length+1 - i;omega⟩,?_⟩
      conv=>whnf
      exact wkD
     ·rw [zeu _ _ hE2] at kt2
      refine zaw kt2 (by (repeat' (first | exact zav | exact zau | refine zar ?_ ?_ | refine zaq ?_ ?_ | exact SubV.refl _ | exact za2 | (with_reducible exact za7 rfl) | refine za6 ?_ | refine za8 ?_ | refine za5 ?_))<;>first | exact zdd _ | exact zdc _) ?_
      conv=>whnf
      refine pwS ?_
      conv=>whnf
      refine ⟨(i+1,none,E2),[(1000,1000)],⟨⟨by show i+1≤ms.length+1;omega,hE2⟩,by show ms.length+1 - (i+1) < ms.length+1 - i;omega⟩,?_⟩
      conv=>whnf
      exact wkD
    ·clear h
     refine pwS ?_
     conv=>whnf
     refine ⟨(i+1,none,E),[(1000,1000)],⟨⟨by show i+1≤ms.length+1;omega,hE⟩,by show ms.length+1 - (i+1) < ms.length+1 - i;omega⟩,?_⟩
     conv=>whnf
     exact wkD
   ·clear h
    refine ⟨none,[(1000,1000)],True.intro,?_⟩
    conv=>whnf
    exact wkD
  ·obtain ⟨hE,hg,hyl⟩:E=0∧Gd r S ys∧ys.length≤8:=hE
   conv=>whnf
   refine tSeq ?_
   conv=>whnf
   (refine tSp (fun h=>?_) (fun h=>?_)<;>conv=>whnf)
   ·have hle:i≤ms.length:=by rw [hmm] at h;omega
    clear h
    refine zqw ?_
    refine zmy ?_
    refine zqy (fun _:Unit=>True) (fun _=>[]) (fun _=>[(3,c.enc),(5,a.enc),(9,r.enc),(10,S.enc),(500,someV s (.ow 1000 0 (ms.map My.enc).length))]) (fun _=>[(1000,some (false,16,ms.map My.enc))]) ?_ ?_
    ·refine tSeq ?_
     conv=>whnf
     refine zx8 ?_
     conv=>whnf
     (first | refine tYes ?_ | refine tNo ?_)
     conv=>whnf
     refine tCut (fun _:Unit=>True) (fun _=>[]) (fun _=>[(3,c.enc),(5,a.enc),(9,r.enc),(10,S.enc),(500,someV s (.ow 1000 0 (ms.map My.enc).length))]) (fun _=>[(1000,some (false,16,ms.map My.enc))]) ?_ ?_
     ·conv=>whnf
      have kck:=zqg S (zak (by have:=hg.log;omega)) (zak (by have:=(zh0 hg.rgt.reads).1;omega))
      rw [zf3 hg.rgt,if_pos rfl] at kck
      have u1:¬ S.hard.term < r.hard.term:=by have:=hg.up.term;omega
      have u2:¬ S.commit < r.commit:=by have:=hg.up.com;omega
      (first | refine tYes ?_ | refine tNo ?_)
      conv=>whnf
      (first | refine tYes ?_ | refine tNo ?_)
      conv=>whnf
      by_cases ht:S.hard.term=r.hard.term
      ·(first | refine tYes ?_ | refine tNo ?_)
       conv=>whnf
       by_cases hv:r.hard.vote=-1
       ·(first | refine tYes ?_ | refine tNo ?_)
        conv=>whnf
        ((try (refine Exists.intro none ?_;conv=>whnf));(with_reducible refine zaa (kck) ?_);conv=>whnf)
        refine ⟨(),[(1000,1000)],True.intro,?_⟩
        conv=>whnf
        exact wkD
       ·have hvv:S.hard.vote=r.hard.vote:=(hg.up.vote ht).resolve_left hv
        (first | refine tYes ?_ | refine tNo ?_)
        conv=>whnf
        (first | refine tYes ?_ | refine tNo ?_)
        conv=>whnf
        ((try (refine Exists.intro none ?_;conv=>whnf));(with_reducible refine zaa (kck) ?_);conv=>whnf)
        refine ⟨(),[(1000,1000)],True.intro,?_⟩
        conv=>whnf
        exact wkD
      ·(first | refine tYes ?_ | refine tNo ?_)
       conv=>whnf
       ((try (refine Exists.intro none ?_;conv=>whnf));(with_reducible refine zaa (kck) ?_);conv=>whnf)
       refine ⟨(),[(1000,1000)],True.intro,?_⟩
       conv=>whnf
       exact wkD
     rintro _ _
     conv=>whnf
     refine pwS ?_
     conv=>whnf
     refine tFor (fun j:Nat=>j≤ys.length) (fun j=>[(14,iv j)]) (fun _=>[(3,c.enc),(5,a.enc),(9,r.enc),(10,S.enc),(500,someV s (.ow 1000 0 (ms.map My.enc).length))]) (fun _=>[(1000,some (false,16,ms.map My.enc))]) [(1000,1000)] (fun j=>ys.length - j) 0 (Nat.zero_le _) ?_ ?_
     ·conv=>whnf
      exact wkD
     intro j hj
     have hj:j≤ys.length:=hj
     conv=>whnf
     (refine tSp (fun h=>?_) (fun h=>?_)<;>conv=>whnf)
     ·have hlt:j < ys.length:=by simp only [List.length_map] at h;omega
      clear h
      obtain ⟨t1,t2,t3⟩:=hg.sent (ys[j]'hlt) (List.getElem_mem hlt)
      have hrow:=zbn (f:=My.enc) hlt
      generalize ys[j]'hlt=y at *
      refine ⟨by omega,_,hrow,?_⟩
      conv=>whnf
      (first | refine tYes ?_ | refine tNo ?_)
      conv=>whnf
      refine ⟨by omega,_,hrow,?_⟩
      conv=>whnf
      (first | refine tYes ?_ | refine tNo ?_)
      conv=>whnf
      refine ⟨by omega,_,hrow,?_⟩
      conv=>whnf
      by_cases q1:y.kind=1
      ·(first | refine tYes ?_ | refine tNo ?_)
       conv=>whnf
       refine ⟨j+1,[(1000,1000)],⟨by show j+1≤ys.length;omega,by show ys.length - (j+1) < ys.length - j;omega⟩,?_⟩
       conv=>whnf
       exact wkD
      ·(first | refine tYes ?_ | refine tNo ?_)
       conv=>whnf
       refine ⟨by omega,_,hrow,?_⟩
       conv=>whnf
       by_cases q2:y.kind=2
       ·(first | refine tYes ?_ | refine tNo ?_)
        conv=>whnf
        refine ⟨j+1,[(1000,1000)],⟨by show j+1≤ys.length;omega,by show ys.length - (j+1) < ys.length - j;omega⟩,?_⟩
        conv=>whnf
        exact wkD
       ·have t3:=t3 q1 q2
        (first | refine tYes ?_ | refine tNo ?_)
        conv=>whnf
        refine ⟨by omega,_,hrow,?_⟩
        conv=>whnf
        (first | refine tYes ?_ | refine tNo ?_)
        conv=>whnf
        refine ⟨j+1,[(1000,1000)],⟨by show j+1≤ys.length;omega,by show ys.length - (j+1) < ys.length - j;omega⟩,?_⟩
        conv=>whnf
        exact wkD
     ·clear h
      refine ⟨(),[(1000,1000)],True.intro,?_⟩
      conv=>whnf
      exact wkD
    rintro _ _
    conv=>whnf
    refine pwS ?_
    conv=>whnf
    (refine tSp (fun h=>?_) (fun h=>?_)<;>conv=>whnf)
    ·have hlt2:i < ms.length:=by rw [hmm] at h;omega
     clear h
     obtain ⟨S2,ys2,E2,kt2,hG2⟩:=zpv hr (by decide) (hp.my _ (List.getElem_mem hlt2))
     have hrow2:(ms.map My.enc)[0+((i:Nat):Int).toNat]?=some (ms[i]'hlt2).enc:=by
      rw [Nat.zero_add,Int.toNat_natCast,List.getElem?_map,List.getElem?_eq_getElem hlt2];rfl
     generalize ms[i]'hlt2=y at *
     refine ⟨⟨by omega,by omega⟩,?_⟩
     conv=>whnf
     refine ⟨_,hrow2,?_⟩
     conv=>whnf
     rw [zi5 y]
     conv=>whnf
     refine Exists.intro none ?_
     show zby _ _ _ _ _ _
     unfold zby
     refine zdw (y:={ y with to:=r.id }) ?_
     by_cases hE2:E2=0
     ·subst hE2
      rw [zb5] at kt2
      refine zaw kt2 (by (repeat' (first | exact zav | exact zau | refine zar ?_ ?_ | refine zaq ?_ ?_ | exact SubV.refl _ | exact za2 | (with_reducible exact za7 rfl) | refine za6 ?_ | refine za8 ?_ | refine za5 ?_))<;>first | exact zdd _ | exact zdc _) ?_
      conv=>whnf
      (refine tNew0 ?_;conv=>whnf)
      refine pwS ?_
      conv=>whnf
      refine ⟨(i+1,some (S2,ys2),0),[(1000,1000)],⟨⟨by show i+1≤ms.length+1;omega,rfl,hG2 rfl⟩,by show ms.length+1 - (i+1) < ms.length+1 - i;omega⟩,?_⟩
      conv=>whnf
      exact wkD
     ·rw [zeu _ _ hE2] at kt2
      refine zaw kt2 (by (repeat' (first | exact zav | exact zau | refine zar ?_ ?_ | refine zaq ?_ ?_ | exact SubV.refl _ | exact za2 | (with_reducible exact za7 rfl) | refine za6 ?_ | refine za8 ?_ | refine za5 ?_))<;>first | exact zdd _ | exact zdc _) ?_
      conv=>whnf
      refine pwS ?_
      conv=>whnf
      refine ⟨(i+1,none,E2),[(1000,1000)],⟨⟨by show i+1≤ms.length+1;omega,hE2⟩,by show ms.length+1 - (i+1) < ms.length+1 - i;omega⟩,?_⟩
      conv=>whnf
      exact wkD
    ·clear h
     refine pwS ?_
     conv=>whnf
     refine ⟨(i+1,some (S,ys),E),[(1000,1000)],⟨⟨by show i+1≤ms.length+1;omega,⟨hE,hg,hyl⟩⟩,by show ms.length+1 - (i+1) < ms.length+1 - i;omega⟩,?_⟩
     conv=>whnf
     exact wkD
   ·clear h
    refine ⟨some (S,ys),[(1000,1000)],True.intro,?_⟩
    conv=>whnf
    exact wkD
 ·rintro _ _
  refine pwS ?_
  conv=>whnf
  ((try (refine Exists.intro none ?_;conv=>whnf));(with_reducible refine zaa (zuy) ?_);conv=>whnf)
  exact zab rfl rfl
theorem told_RaftTerms (qs:List PV) (h:zk9 Tryz.prog [23,24,33] qs):Ctr Tryz.prog 3 qs (bv true) []:=by
 obtain ⟨p1,qs,rfl,h1,h⟩:=zgf h
 obtain ⟨p2,qs,rfl,h2,h⟩:=zgf h
 obtain ⟨p3,qs,rfl,h3,h⟩:=zgf h
 obtain rfl:=zru h
 obtain ⟨c,rfl,_⟩:=zy0 h1
 obtain ⟨l,rfl,hl,_⟩:=zy9 h2
 obtain ⟨a,rfl,_⟩:=arg_Act h3
 exact zoh c l a hl
end Go.Proofs
