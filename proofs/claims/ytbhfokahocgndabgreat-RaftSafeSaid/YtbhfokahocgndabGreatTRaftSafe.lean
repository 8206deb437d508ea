import Derived.Test.YtbhfokahocgndabGreatPvQ3
import Derived.Test.YtbhfokahocgndabGreatW8
import Derived.Test.YtbhfokahocgndabGreatW11
import Derived.Test.YtbhfokahocgndabGreatY6
import Derived.Test.YtbhfokahocgndabGreatR3
import Derived.Test.YtbhfokahocgndabGreatI8
/- The law: whatever is lost, doubled, late, whoever forgets: no two lead in one term; logs match, what is committed agrees. (genT4.py prints this) -/
set_option linter.unusedSimpArgs false
set_option linter.unusedVariables false
set_option maxHeartbeats 64000000
namespace Go.Proofs
open Go.Pv
set_option maxRecDepth 100000
theorem z1z {n:Nat}{s:Svn}{ms:List My}{f:Nat→Int} (h:SP n s ms f) (hn:n≤200) {i k:Nat} (hi:i < 7) (hk:k < 7):Ctr Tryz.prog 16 [.ag (s.at i).enc,.ag (s.at k).enc] (bv true) []:=by
 have r1:=h.ply.rp i hi
 have r2:=h.ply.rp k hk
 have b1:=(zaq r1.rgt.hard).1.b
 have b2:=(zaq r2.rgt.hard).1.b
 have l1:=r1.log
 have l2:=r2.log
 exact z0p _ _ ⟨b1.1,b1.2⟩ ⟨b2.1,b2.2⟩ (by omega) (by omega) (h.same hi hk)
theorem zwk (c:Conf) (l:List Act) (hlm:l.length≤maxLen):Ctr Tryz.prog 4 [.ag c.enc,.sl 17 (l.map Act.enc)] (bv true) []:=by
 have kh:=z0d l hlm
 have kc:=ziy c
 have kb:=zy2 c
 have hml:(l.map Act.enc).length=l.length:=List.length_map ..
 cases hh:zjt l with
 | true =>
  rw [hh] at kh
  refine sBody Tryz.func4 ?_;conv=>whnf
  refine tC kh ?_
  exact zaa rfl rfl
 | false =>
 rw [hh] at kh
 have hl6:=zvi hh
 cases hcf:confB c with
 | false =>
  rw [hcf] at kc
  refine sBody Tryz.func4 ?_;conv=>whnf
  refine tC kh ?_
  refine tC kc ?_
  exact zaa rfl rfl
 | true =>
 rw [hcf] at kc
 refine zkn mixed Tryz.func4 rfl (by kernel_rfl) (by kernel_rfl) ?_
 refine tQ ?_
 refine tQ ?_
 refine tC kh ?_
 refine tC kc ?_
 refine tQ ?_
 refine tE ([(6,500)],[],[(0,600)]) kb ?_
 refine tCut (fun _:Unit=>True) (fun _=>[(6,.pt 6 0)]) (fun _=>[(2,c.enc),(500,someV (begS c 7) (.ow 1000 0 0)),(6,wl fun _=>0)]) (fun _=>[(1000,some (false,16,[]))]) ?_ ?_
 ·conv=>whnf
  refine ⟨(),[(1000,600)],True.intro,?_⟩
  (refine tWK ?_;and_intros<;>try exact ⟨⟩)
  all_goals first | rfl | exact .inl rfl | exact wkw0 _ (by kernel_rfl) | trace_state
 rintro _ _
 conv=>whnf
 refine tCut (fun x:Svn×List My=>∃ n f,n≤150∧SP n x.1 x.2 f) (fun _=>[(6,.bad)]) (fun x=>[(2,c.enc),(500,someV x.1 (.ow 1000 0 (x.2.map My.enc).length))]) (fun x=>[(1000,some (false,16,x.2.map My.enc))]) ?_ ?_
 ·conv=>whnf
  refine zt4 (fun x:Nat×Svn×List My×(Nat→Int)=>x.1≤l.length∧x.1≤150∧SP x.1 x.2.1 x.2.2.1 x.2.2.2) (fun x=>[(7,iv x.1)]) (fun x=>[(2,c.enc),(500,someV x.2.1 (.ow 1000 0 (x.2.2.1.map My.enc).length)),(6,wl x.2.2.2)]) (fun x=>[(1000,some (false,16,x.2.2.1.map My.enc))]) [(1000,1000)] (fun x=>l.length - x.1) (0,begS c 7,[],fun _=>0) ⟨Nat.zero_le _,Nat.zero_le _,z29 hcf⟩ ?_ ?_
  ·(refine tWK ?_;and_intros<;>try exact ⟨⟩)
   all_goals first | rfl | exact wkw _ | exact .inl rfl | exact w1 (by omega) | trace_state
  rintro ⟨i,s,ms,f⟩ ⟨hi,hi2,hP⟩
  have hi:i≤l.length:=hi
  have hi2:i≤150:=hi2
  have hP:SP i s ms f:=hP
  conv=>whnf
  refine tQ ?_
  refine tS ?_ ?_<;>intro h
  ·have hlt:i < l.length:=by rw [hml] at h;omega
   clear h
   refine tS ?_ ?_<;>intro h
   ·have h150:i < 150:=by omega
    clear h
    refine zue ?_
    refine zff ?_
    have hrow:=za3 (f:=Act.enc) hlt
    obtain ⟨s',ms',hst,hdo⟩:=do_exF hP.ply (by omega) (l[i]'hlt)
    have hP:=hP.step (by omega) hst
    generalize l[i]'hlt=b at *
    refine tCut (fun _:Unit=>True) (fun _=>[]) (fun _=>[(2,c.enc),(500,someV s' (.ow 1000 0 (ms'.map My.enc).length)),(6,wl f)]) (fun _=>[(1000,some (false,16,ms'.map My.enc))]) ?_ ?_
    ·conv=>whnf
     refine ⟨by omega,_,hrow,?_⟩
     conv=>whnf
     clear hst hP
     rcases hdo with ⟨e,hd⟩ | hd | hd
     ·subst e
      refine Exists.intro (some ([(9990,500)],[(9990,1000)],[])) ?_
      conv=>whnf
      refine cFast (r2:=bv true) (wb:=[(500,someV s' (.ow 1000 0 (ms'.map My.enc).length))]) hd ?_
      conv=>whnf
      refine ⟨(),[(1000,1000)],True.intro,?_⟩
      (refine tWK ?_;and_intros<;>try exact ⟨⟩)
      all_goals first | rfl | exact wkw _ | exact .inl rfl | exact w1 (by omega) | trace_state
     ·refine Exists.intro (some ([(9990,500)],[(9990,1000)],[(1,1002)])) ?_
      conv=>whnf
      refine cFast (r2:=bv true) (wb:=[(500,someV s' (.ow 1002 0 (ms'.map My.enc).length))]) hd ?_
      conv=>whnf
      refine ⟨(),[(1000,1002)],True.intro,?_⟩
      (refine tWK ?_;and_intros<;>try exact ⟨⟩)
      all_goals first | rfl | exact wkw _ | exact .inl rfl | exact w1 (by omega) | trace_state
     ·refine Exists.intro (some ([(9990,500)],[(9990,1000)],[(1,1002)])) ?_
      conv=>whnf
      refine cFast (r2:=bv true) (wb:=[(500,someV s' (.ow 1002 0 (ms'.map My.enc).length))]) hd ?_
      conv=>whnf
      refine ⟨(),[(1000,1002)],True.intro,?_⟩
      (refine tWK ?_;and_intros<;>try exact ⟨⟩)
      all_goals first | rfl | exact wkw _ | exact .inl rfl | exact w1 (by omega) | trace_state
    rintro _ _
    clear hdo hst hrow
    generalize s'=s at *
    generalize ms'=ms at *
    conv=>whnf
    refine tQ ?_
    refine zff ?_
    refine zt4 (fun x:Nat×(Nat→Int)=>x.1≤7∧SP (i+1) s ms x.2) (fun x=>[(8,iv x.1)]) (fun x=>[(2,c.enc),(500,someV s (.ow 1000 0 (ms.map My.enc).length)),(6,wl x.2)]) (fun _=>[(1000,some (false,16,ms.map My.enc))]) [(1000,1000)] (fun x=>7 - x.1) (0,f) ⟨Nat.zero_le _,hP⟩ ?_ ?_
    ·(refine tWK ?_;and_intros<;>try exact ⟨⟩)
     all_goals first | rfl | exact wkw _ | exact .inl rfl | exact w1 (by omega) | trace_state
    clear hP
    rintro ⟨k,f⟩ ⟨hk,hP⟩
    have hk:k≤7:=hk
    have hP:SP (i+1) s ms f:=hP
    conv=>whnf
    refine tQ ?_
    refine tS ?_ ?_<;>intro h
    ·have hk7:k < 7:=by omega
     clear h
     have htp:=(zaq (hP.ply.rp k hk7).rgt.hard).1.t
     obtain ⟨t,ht⟩:∃ t:Nat,(s.at k).hard.term=t:=⟨(s.at k).hard.term.toNat,by omega⟩
     refine zue ?_
     refine zff ?_
     refine tQ ?_
     refine ⟨⟨Int.natCast_nonneg _,Int.ofNat_lt.2 hk7⟩,?_⟩
     conv=>whnf
     refine ze7 hk7 (by first | (show 0+0+((k:Nat):Int).toNat * 40=k * 40;omega) | (show 0+((k:Nat):Int).toNat * 40=k * 40;omega)) ?_
     conv=>whnf
     by_cases h3:(s.at k).role=3
     ·refine tQ ?_
      by_cases h12:(s.at k).hard.term < 1200
      ·obtain ⟨hled,hP'⟩:=hP.led hk7 h3 ht
       have ewk:IntKind.i64.wrap ((k:Int)+1)=(k:Int)+1:=zaf (by omega) (by omega)
       refine tK ?_
       refine tK ?_
       refine tQ ?_
       refine ⟨⟨by omega,by omega⟩,?_⟩
       conv=>whnf
       refine at_wl (f:=f) (t:=t) (by omega) (by first | (show 0+Int.toNat (s.at k).hard.term * 1=t;omega) | (show 0+Int.toNat (s.at k).hard.term=t;omega) | (show Int.toNat (s.at k).hard.term * 1=t;omega)) ?_
       conv=>whnf
       rcases hled with e | e
       ·rw [e]
        conv=>whnf
        refine tZ ?_
        refine ⟨⟨by omega,by omega⟩,?_⟩
        conv=>whnf
        rw [ewk]
        refine put_wl (f:=f) (t:=t) (by omega) (by first | (show 0+Int.toNat (s.at k).hard.term * 1=t;omega) | (show 0+Int.toNat (s.at k).hard.term=t;omega) | (show Int.toNat (s.at k).hard.term * 1=t;omega)) ?_
        conv=>whnf
        refine tZ ?_
        refine ⟨(k+1,fun j=>if j=t then (k:Int)+1 else f j),[(1000,1000)],⟨⟨by show k+1≤7;omega,hP'⟩,by show 7 - (k+1) < 7 - k;omega⟩,?_⟩
        (refine tWK ?_;and_intros<;>try exact ⟨⟩)
        all_goals first | rfl | exact wkw _ | exact .inl rfl | exact w1 (by omega) | trace_state
       ·rw [e]
        conv=>whnf
        refine ⟨⟨by omega,by omega⟩,?_⟩
        conv=>whnf
        refine at_wl (f:=f) (t:=t) (by omega) (by first | (show 0+Int.toNat (s.at k).hard.term * 1=t;omega) | (show 0+Int.toNat (s.at k).hard.term=t;omega) | (show Int.toNat (s.at k).hard.term * 1=t;omega)) ?_
        rw [e]
        conv=>whnf
        rw [ewk]
        refine tSame ?_
        refine tZ ?_
        refine ⟨⟨by omega,by omega⟩,?_⟩
        conv=>whnf
        rw [ewk]
        refine put_wl (f:=f) (t:=t) (by omega) (by first | (show 0+Int.toNat (s.at k).hard.term * 1=t;omega) | (show 0+Int.toNat (s.at k).hard.term=t;omega) | (show Int.toNat (s.at k).hard.term * 1=t;omega)) ?_
        conv=>whnf
        refine tZ ?_
        refine ⟨(k+1,fun j=>if j=t then (k:Int)+1 else f j),[(1000,1000)],⟨⟨by show k+1≤7;omega,hP'⟩,by show 7 - (k+1) < 7 - k;omega⟩,?_⟩
        (refine tWK ?_;and_intros<;>try exact ⟨⟩)
        all_goals first | rfl | exact wkw _ | exact .inl rfl | exact w1 (by omega) | trace_state
      ·refine tK ?_
       refine tK ?_
       refine tZ ?_
       refine ⟨(k+1,f),[(1000,1000)],⟨⟨by show k+1≤7;omega,hP⟩,by show 7 - (k+1) < 7 - k;omega⟩,?_⟩
       (refine tWK ?_;and_intros<;>try exact ⟨⟩)
       all_goals first | rfl | exact wkw _ | exact .inl rfl | exact w1 (by omega) | trace_state
     ·refine tQ ?_
      refine tK ?_
      refine tZ ?_
      refine ⟨(k+1,f),[(1000,1000)],⟨⟨by show k+1≤7;omega,hP⟩,by show 7 - (k+1) < 7 - k;omega⟩,?_⟩
      (refine tWK ?_;and_intros<;>try exact ⟨⟩)
      all_goals first | rfl | exact wkw _ | exact .inl rfl | exact w1 (by omega) | trace_state
    ·clear h
     refine tZ ?_
     refine ⟨(i+1,s,ms,f),[(1000,1000)],⟨⟨by show i+1≤l.length;omega,by show i+1≤150;omega,hP⟩,by show l.length - (i+1) < l.length - i;omega⟩,?_⟩
     (refine tWK ?_;and_intros<;>try exact ⟨⟩)
     all_goals first | rfl | exact wkw _ | exact .inl rfl | exact w1 (by omega) | trace_state
   ·clear h
    refine ⟨(s,ms),[(1000,1000)],⟨i,f,hi2,hP⟩,?_⟩
    (refine tWK ?_;and_intros<;>try exact ⟨⟩)
    all_goals first | rfl | exact wkw _ | exact .inl rfl | exact w1 (by omega) | trace_state
  ·clear h
   refine ⟨(s,ms),[(1000,1000)],⟨i,f,hi2,hP⟩,?_⟩
   (refine tWK ?_;and_intros<;>try exact ⟨⟩)
   all_goals first | rfl | exact wkw _ | exact .inl rfl | exact w1 (by omega) | trace_state
 rintro ⟨s,ms⟩ ⟨n,f,hn,hP⟩
 have hP:SP n s ms f:=hP
 conv=>whnf
 refine tZ ?_
 refine tFor (fun i:Nat=>i≤7) (fun i=>[(10,iv i)]) (fun _=>[(2,c.enc),(500,someV s (.ow 1000 0 (ms.map My.enc).length))]) (fun _=>[(1000,some (false,16,ms.map My.enc))]) [(1000,1000)] (fun i=>7 - i) 0 (Nat.zero_le _) ?_ ?_
 ·(refine tWK ?_;and_intros<;>try exact ⟨⟩)
  all_goals first | rfl | exact wkw _ | exact .inl rfl | exact w1 (by omega) | trace_state
 intro i hi
 refine tS ?_ ?_<;>intro h
 ·have hi7:i < 7:=by omega
  clear h
  refine tFor (fun k:Nat=>k≤i) (fun k=>[(11,iv k)]) (fun _=>[(2,c.enc),(500,someV s (.ow 1000 0 (ms.map My.enc).length))]) (fun _=>[(1000,some (false,16,ms.map My.enc))]) [(1000,1000)] (fun k=>i - k) 0 (Nat.zero_le _) ?_ ?_
  ·(refine tWK ?_;and_intros<;>try exact ⟨⟩)
   all_goals first | rfl | exact wkw _ | exact .inl rfl | exact w1 (by omega) | trace_state
  intro k hk
  refine tS ?_ ?_<;>intro h
  ·have hk7:k < 7:=by omega
   have ka:=z1z hP (by omega) hi7 hk7
   refine ⟨⟨Int.natCast_nonneg _,Int.ofNat_lt.2 hi7⟩,?_⟩
   conv=>whnf
   refine ze7 hi7 (by first | (show 0+0+((i:Nat):Int).toNat * 40=i * 40;omega) | (show 0+((i:Nat):Int).toNat * 40=i * 40;omega)) ?_
   conv=>whnf
   refine ⟨⟨Int.natCast_nonneg _,Int.ofNat_lt.2 hk7⟩,?_⟩
   conv=>whnf
   refine ze7 hk7 (by first | (show 0+0+((k:Nat):Int).toNat * 40=k * 40;omega) | (show 0+((k:Nat):Int).toNat * 40=k * 40;omega)) ?_
   refine tC ka ?_
   refine ⟨k+1,[(1000,1000)],⟨by omega,by omega⟩,?_⟩
   (refine tWK ?_;and_intros<;>try exact ⟨⟩)
   all_goals first | rfl | exact wkw _ | exact .inl rfl | exact w1 (by omega) | trace_state
  ·clear h
   refine ⟨i+1,[(1000,1000)],⟨by omega,by omega⟩,?_⟩
   (refine tWK ?_;and_intros<;>try exact ⟨⟩)
   all_goals first | rfl | exact wkw _ | exact .inl rfl | exact w1 (by omega) | trace_state
 ·clear h
  refine tC z0s ?_
  exact zaa rfl rfl
theorem told_RaftSafe (qs:List PV) (h:zmi Tryz.prog [23,24] qs):Ctr Tryz.prog 4 qs (bv true) []:=by
 obtain ⟨p1,qs,rfl,h1,h⟩:=zlm h
 obtain ⟨p2,qs,rfl,h2,h⟩:=zlm h
 obtain rfl:=zvc h
 obtain ⟨c,rfl,_⟩:=z4t h1
 obtain ⟨l,rfl,hl,_⟩:=z4g h2
 exact zwk c l hl
end Go.Proofs
