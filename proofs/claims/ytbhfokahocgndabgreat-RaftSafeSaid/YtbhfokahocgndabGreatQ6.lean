import Derived.Test.YtbhfokahocgndabGreatPvQ3
import Derived.Test.YtbhfokahocgndabGreatQ3
/- Contracts of functions: a configuration is put into the log, by the page. (genQ6.py prints this) -/
set_option linter.unusedSimpArgs false
set_option linter.unusedVariables false
set_option maxHeartbeats 8000000
namespace Go.Proofs
open Go.Pv
set_option maxRecDepth 100000
theorem zv1 (r:Rft) (c:Conf) (hl0:r.hard.log.length < 4294967) (hr:zbu r=true) (he:¬ chgE r c=0):Ctr Tryz.prog 100 [.ag r.enc,.ag c.enc] (.tu [.ag rzv,iv 0,iv (chgE r c)]) []:=by
 have hg:=zd8 hr
 have hf:=hg.fit hl0
 have hb:=hf.base
 have kl:=zg2 r (zad (by omega))
 have kv:=zb6 r (zad (by omega))
 have km:=c_rMay r.hard (zad (by omega)) hb.1 (by omega) r.commit (hg.comI hl0)
 have kn:=zzm (zab r) c
 have kk:=zi4 (zab r) c
 rw [zs9] at kn
 unfold chgE at he ⊢
 by_cases h1:zcb r=0
 ·rw [if_pos h1] at he ⊢
  rw [decide_eq_true h1] at kl
  cases hw:mayB r with
  | false =>
   rw [show (fits r.hard r.commit r.hard.term && decide ((force r.hard (lastI r.hard)).2≤r.commit))=false from hw] at km
   rw [if_neg (by decide)]
   refine sBody Tryz.func100 ?_;conv=>whnf
   refine tC kl ?_
   refine tC km ?_
   exact zaa rfl rfl
  | true =>
   rw [show (fits r.hard r.commit r.hard.term && decide ((force r.hard (lastI r.hard)).2≤r.commit))=true from hw] at km
   rw [hw,if_pos rfl] at he
   rw [if_pos rfl]
   cases hn:nearR (zab r) c with
   | false =>
    rw [hn] at kn
    rw [if_neg (by intro h;cases h.1)]
    refine sBody Tryz.func100 ?_;conv=>whnf
    refine tC kl ?_
    refine tC km ?_
    refine tC kv ?_
    refine tC kn ?_
    exact zaa rfl rfl
   | true =>
    rw [hn] at kn
    by_cases h2:zab r=c
    ·rw [if_neg (fun h=>h.2 h2)]
     rw [decide_eq_true h2] at kk
     refine sBody Tryz.func100 ?_;conv=>whnf
     refine tC kl ?_
     refine tC km ?_
     refine tC kv ?_
     refine tC kn ?_
     refine tC kk ?_
     exact zaa rfl rfl
    ·rw [hn,if_pos ⟨rfl,h2⟩] at he
     rw [if_pos ⟨rfl,h2⟩]
     rw [decide_eq_false h2] at kk
     by_cases h3:r.hard.log.length < 64
     ·rw [if_pos h3] at he;exact absurd rfl he
     ·rw [if_neg h3]
      refine sBody Tryz.func100 ?_;conv=>whnf
      refine tC kl ?_
      refine tC km ?_
      refine tC kv ?_
      refine tC kn ?_
      refine tC kk ?_
      refine tS ?_ ?_<;>intro h
      ·exact zaa rfl rfl
      ·simp only [List.length_map] at h
       omega
 ·rw [if_neg h1]
  rw [decide_eq_false h1] at kl
  refine sBody Tryz.func100 ?_;conv=>whnf
  refine tC kl ?_
  exact zaa rfl rfl
noncomputable abbrev rnR (r:Rft) (c:Conf) (n:Int) (k:Nat):Rft:={ radR r (ecf r c) with next:=nxt (newB (zab r) c) n r.next k }
theorem zzx (r:Rft) (c:Conf) (hl0:r.hard.log.length < 4294967) (hr:zbu r=true) (he:chgE r c=0):Ctr Tryz.prog 100 [.ag r.enc,.ag c.enc] (.tu [.ag (addR (nxR r c 7) (ecf r c)).enc,iv (lastI (logR r (ecf r c))),iv 0]) []:=by
 have hg:=zd8 hr
 have hf:=hg.fit hl0
 have hb:=hf.base
 have kl:=zg2 r (zad (by omega))
 have kv:=zb6 r (zad (by omega))
 have km:=c_rMay r.hard (zad (by omega)) hb.1 (by omega) r.commit (hg.comI hl0)
 have kn:=zzm (zab r) c
 have kk:=zi4 (zab r) c
 rw [zs9] at kn
 obtain ⟨h1,h2,h3,h4,h5⟩:=z1k he
 rw [decide_eq_true h1] at kl
 rw [show (fits r.hard r.commit r.hard.term && decide ((force r.hard (lastI r.hard)).2≤r.commit))=true from h2] at km
 rw [h3] at kn
 rw [decide_eq_false h4] at kk
 have kt:=za4 r hf.small
 have ka:=c_rAdd r hf.id (by omega) (ecf r c)
 have kal:=fun d:Conf=>zyv d
 have hlen:(logR r (ecf r c)).log.length=r.hard.log.length+1:=by rw [List.length_append];rfl
 have hnl:lastI (logR r (ecf r c))=lastI r.hard+1:=by
  rw [zax (h:=logR r (ecf r c)) hb.1 (by show r.hard.base+((logR r (ecf r c)).log.length:Int) < _;omega),zax (h:=r.hard) hb.1 (by omega)]
  show r.hard.base+((logR r (ecf r c)).log.length:Int)=_
  omega
 have kc:=zio (logR r (ecf r c)) (zad (by omega)) hb.1 (by show r.hard.base+((logR r (ecf r c)).log.length:Int) < _;omega) r.commit (r.mtch.put r.id.toNat (lastI (logR r (ecf r c))))
 have hfin:addR (nxR r c 7) (ecf r c)={ rnR r c (lastI (logR r (ecf r c))) 7 with commit:=zc9 (logR r (ecf r c)) r.commit (r.mtch.put r.id.toNat (lastI (logR r (ecf r c)))) }:=by
  show addR ({ r with next:=nxt (newB (zab r) c) (lastI r.hard+1) r.next 7 }:Rft) (ecf r c)=_
  rw [← hnl];rfl
 rw [hfin]
 clear hfin hnl
 unfold rnR
 unfold radR at ka ⊢
 generalize hM:r.mtch.put r.id.toNat (lastI (logR r (ecf r c)))=M at *
 generalize hN:lastI (logR r (ecf r c))=n at *
 generalize hH:logR r (ecf r c)=H at *
 refine sBody Tryz.func100 ?_;conv=>whnf
 refine tC kl ?_
 refine tC km ?_
 refine tC kv ?_
 refine tC kn ?_
 refine tC kk ?_
 refine tS ?_ ?_<;>intro h
 ·simp only [List.length_map] at h
  omega
 clear h
 refine tC kt ?_
 refine tN0 ?_
 refine tER ([(9990,2)],[],[]) ka ?_
 refine tFor (fun k:Nat=>k≤7) (fun k=>[(9,iv k)]) (fun k=>[(2,({ ({ r with hard:=H,mtch:=M }:Rft) with next:=nxt (newB (zab r) c) n r.next k }:Rft).enc),(3,c.enc),(4,rzv),(7,(zab r).enc)]) (fun _=>[]) [] (fun k=>7 - k) 0 (by decide) ?_ ?_
 ·exact wkE
 intro k hk
 rcases (by omega:k=0∨k=1∨k=2∨k=3∨k=4∨k=5∨k=6∨k=7) with rfl | rfl | rfl | rfl | rfl | rfl | rfl | rfl
 ·have ha:=c_Has (bor (bor (bor c.full c.wit) c.learn) c.lwit) ((0:Nat):Int)
  have hb:=c_Has (bor (bor (bor (zab r).full (zab r).wit) (zab r).learn) (zab r).lwit) ((0:Nat):Int)
  rw [zcz _ 0 (by decide)] at ha hb
  have hdef:newB (zab r) c 0=(tb (bor (bor (bor c.full c.wit) c.learn) c.lwit) 0 && !tb (bor (bor (bor (zab r).full (zab r).wit) (zab r).learn) (zab r).lwit) 0):=rfl
  cases t1:tb (bor (bor (bor c.full c.wit) c.learn) c.lwit) 0 with
  | false =>
   rw [t1] at ha hdef
   have e:nxt (newB (zab r) c) n r.next 1=nxt (newB (zab r) c) n r.next 0:=zc3 hdef
   refine tC (kal c) ?_
   refine tC ha ?_
   refine ⟨1,[],⟨by omega,by omega⟩,?_⟩
   (refine tWK ?_;and_intros<;>try exact ⟨⟩)
   all_goals first | rfl | (rw [e];done) | (rw [e];rfl) | trace_state
  | true =>
   cases t2:tb (bor (bor (bor (zab r).full (zab r).wit) (zab r).learn) (zab r).lwit) 0 with
   | true =>
    rw [t1,t2] at hdef
    rw [t1] at ha
    rw [t2] at hb
    have e:nxt (newB (zab r) c) n r.next 1=nxt (newB (zab r) c) n r.next 0:=zc3 hdef
    refine tC (kal c) ?_
    refine tC ha ?_
    refine tC (kal (zab r)) ?_
    refine tC hb ?_
    refine ⟨1,[],⟨by omega,by omega⟩,?_⟩
    (refine tWK ?_;and_intros<;>try exact ⟨⟩)
    all_goals first | rfl | (rw [e];done) | (rw [e];rfl) | trace_state
   | false =>
    rw [t1,t2] at hdef
    rw [t1] at ha
    rw [t2] at hb
    have e:nxt (newB (zab r) c) n r.next 1=(nxt (newB (zab r) c) n r.next 0).put 0 n:=zdl hdef
    refine tC (kal c) ?_
    refine tC ha ?_
    refine tC (kal (zab r)) ?_
    refine tC hb ?_
    refine tK2 ?_
    refine ⟨1,[],⟨by omega,by omega⟩,?_⟩
    (refine tWK ?_;and_intros<;>try exact ⟨⟩)
    all_goals first | rfl | (rw [e];done) | (rw [e];rfl) | trace_state
 ·have ha:=c_Has (bor (bor (bor c.full c.wit) c.learn) c.lwit) ((1:Nat):Int)
  have hb:=c_Has (bor (bor (bor (zab r).full (zab r).wit) (zab r).learn) (zab r).lwit) ((1:Nat):Int)
  rw [zcz _ 1 (by decide)] at ha hb
  have hdef:newB (zab r) c 1=(tb (bor (bor (bor c.full c.wit) c.learn) c.lwit) 1 && !tb (bor (bor (bor (zab r).full (zab r).wit) (zab r).learn) (zab r).lwit) 1):=rfl
  cases t1:tb (bor (bor (bor c.full c.wit) c.learn) c.lwit) 1 with
  | false =>
   rw [t1] at ha hdef
   have e:nxt (newB (zab r) c) n r.next 2=nxt (newB (zab r) c) n r.next 1:=zc3 hdef
   refine tC (kal c) ?_
   refine tC ha ?_
   refine ⟨2,[],⟨by omega,by omega⟩,?_⟩
   (refine tWK ?_;and_intros<;>try exact ⟨⟩)
   all_goals first | rfl | (rw [e];done) | (rw [e];rfl) | trace_state
  | true =>
   cases t2:tb (bor (bor (bor (zab r).full (zab r).wit) (zab r).learn) (zab r).lwit) 1 with
   | true =>
    rw [t1,t2] at hdef
    rw [t1] at ha
    rw [t2] at hb
    have e:nxt (newB (zab r) c) n r.next 2=nxt (newB (zab r) c) n r.next 1:=zc3 hdef
    refine tC (kal c) ?_
    refine tC ha ?_
    refine tC (kal (zab r)) ?_
    refine tC hb ?_
    refine ⟨2,[],⟨by omega,by omega⟩,?_⟩
    (refine tWK ?_;and_intros<;>try exact ⟨⟩)
    all_goals first | rfl | (rw [e];done) | (rw [e];rfl) | trace_state
   | false =>
    rw [t1,t2] at hdef
    rw [t1] at ha
    rw [t2] at hb
    have e:nxt (newB (zab r) c) n r.next 2=(nxt (newB (zab r) c) n r.next 1).put 1 n:=zdl hdef
    refine tC (kal c) ?_
    refine tC ha ?_
    refine tC (kal (zab r)) ?_
    refine tC hb ?_
    refine tK2 ?_
    refine ⟨2,[],⟨by omega,by omega⟩,?_⟩
    (refine tWK ?_;and_intros<;>try exact ⟨⟩)
    all_goals first | rfl | (rw [e];done) | (rw [e];rfl) | trace_state
 ·have ha:=c_Has (bor (bor (bor c.full c.wit) c.learn) c.lwit) ((2:Nat):Int)
  have hb:=c_Has (bor (bor (bor (zab r).full (zab r).wit) (zab r).learn) (zab r).lwit) ((2:Nat):Int)
  rw [zcz _ 2 (by decide)] at ha hb
  have hdef:newB (zab r) c 2=(tb (bor (bor (bor c.full c.wit) c.learn) c.lwit) 2 && !tb (bor (bor (bor (zab r).full (zab r).wit) (zab r).learn) (zab r).lwit) 2):=rfl
  cases t1:tb (bor (bor (bor c.full c.wit) c.learn) c.lwit) 2 with
  | false =>
   rw [t1] at ha hdef
   have e:nxt (newB (zab r) c) n r.next 3=nxt (newB (zab r) c) n r.next 2:=zc3 hdef
   refine tC (kal c) ?_
   refine tC ha ?_
   refine ⟨3,[],⟨by omega,by omega⟩,?_⟩
   (refine tWK ?_;and_intros<;>try exact ⟨⟩)
   all_goals first | rfl | (rw [e];done) | (rw [e];rfl) | trace_state
  | true =>
   cases t2:tb (bor (bor (bor (zab r).full (zab r).wit) (zab r).learn) (zab r).lwit) 2 with
   | true =>
    rw [t1,t2] at hdef
    rw [t1] at ha
    rw [t2] at hb
    have e:nxt (newB (zab r) c) n r.next 3=nxt (newB (zab r) c) n r.next 2:=zc3 hdef
    refine tC (kal c) ?_
    refine tC ha ?_
    refine tC (kal (zab r)) ?_
    refine tC hb ?_
    refine ⟨3,[],⟨by omega,by omega⟩,?_⟩
    (refine tWK ?_;and_intros<;>try exact ⟨⟩)
    all_goals first | rfl | (rw [e];done) | (rw [e];rfl) | trace_state
   | false =>
    rw [t1,t2] at hdef
    rw [t1] at ha
    rw [t2] at hb
    have e:nxt (newB (zab r) c) n r.next 3=(nxt (newB (zab r) c) n r.next 2).put 2 n:=zdl hdef
    refine tC (kal c) ?_
    refine tC ha ?_
    refine tC (kal (zab r)) ?_
    refine tC hb ?_
    refine tK2 ?_
    refine ⟨3,[],⟨by omega,by omega⟩,?_⟩
    (refine tWK ?_;and_intros<;>try exact ⟨⟩)
    all_goals first | rfl | (rw [e];done) | (rw [e];rfl) | trace_state
 ·have ha:=c_Has (bor (bor (bor c.full c.wit) c.learn) c.lwit) ((3:Nat):Int)
  have hb:=c_Has (bor (bor (bor (zab r).full (zab r).wit) (zab r).learn) (zab r).lwit) ((3:Nat):Int)
  rw [zcz _ 3 (by decide)] at ha hb
  have hdef:newB (zab r) c 3=(tb (bor (bor (bor c.full c.wit) c.learn) c.lwit) 3 && !tb (bor (bor (bor (zab r).full (zab r).wit) (zab r).learn) (zab r).lwit) 3):=rfl
  cases t1:tb (bor (bor (bor c.full c.wit) c.learn) c.lwit) 3 with
  | false =>
   rw [t1] at ha hdef
   have e:nxt (newB (zab r) c) n r.next 4=nxt (newB (zab r) c) n r.next 3:=zc3 hdef
   refine tC (kal c) ?_
   refine tC ha ?_
   refine ⟨4,[],⟨by omega,by omega⟩,?_⟩
   (refine tWK ?_;and_intros<;>try exact ⟨⟩)
   all_goals first | rfl | (rw [e];done) | (rw [e];rfl) | trace_state
  | true =>
   cases t2:tb (bor (bor (bor (zab r).full (zab r).wit) (zab r).learn) (zab r).lwit) 3 with
   | true =>
    rw [t1,t2] at hdef
    rw [t1] at ha
    rw [t2] at hb
    have e:nxt (newB (zab r) c) n r.next 4=nxt (newB (zab r) c) n r.next 3:=zc3 hdef
    refine tC (kal c) ?_
    refine tC ha ?_
    refine tC (kal (zab r)) ?_
    refine tC hb ?_
    refine ⟨4,[],⟨by omega,by omega⟩,?_⟩
    (refine tWK ?_;and_intros<;>try exact ⟨⟩)
    all_goals first | rfl | (rw [e];done) | (rw [e];rfl) | trace_state
   | false =>
    rw [t1,t2] at hdef
    rw [t1] at ha
    rw [t2] at hb
    have e:nxt (newB (zab r) c) n r.next 4=(nxt (newB (zab r) c) n r.next 3).put 3 n:=zdl hdef
    refine tC (kal c) ?_
    refine tC ha ?_
    refine tC (kal (zab r)) ?_
    refine tC hb ?_
    refine tK2 ?_
    refine ⟨4,[],⟨by omega,by omega⟩,?_⟩
    (refine tWK ?_;and_intros<;>try exact ⟨⟩)
    all_goals first | rfl | (rw [e];done) | (rw [e];rfl) | trace_state
 ·have ha:=c_Has (bor (bor (bor c.full c.wit) c.learn) c.lwit) ((4:Nat):Int)
  have hb:=c_Has (bor (bor (bor (zab r).full (zab r).wit) (zab r).learn) (zab r).lwit) ((4:Nat):Int)
  rw [zcz _ 4 (by decide)] at ha hb
  have hdef:newB (zab r) c 4=(tb (bor (bor (bor c.full c.wit) c.learn) c.lwit) 4 && !tb (bor (bor (bor (zab r).full (zab r).wit) (zab r).learn) (zab r).lwit) 4):=rfl
  cases t1:tb (bor (bor (bor c.full c.wit) c.learn) c.lwit) 4 with
  | false =>
   rw [t1] at ha hdef
   have e:nxt (newB (zab r) c) n r.next 5=nxt (newB (zab r) c) n r.next 4:=zc3 hdef
   refine tC (kal c) ?_
   refine tC ha ?_
   refine ⟨5,[],⟨by omega,by omega⟩,?_⟩
   (refine tWK ?_;and_intros<;>try exact ⟨⟩)
   all_goals first | rfl | (rw [e];done) | (rw [e];rfl) | trace_state
  | true =>
   cases t2:tb (bor (bor (bor (zab r).full (zab r).wit) (zab r).learn) (zab r).lwit) 4 with
   | true =>
    rw [t1,t2] at hdef
    rw [t1] at ha
    rw [t2] at hb
    have e:nxt (newB (zab r) c) n r.next 5=nxt (newB (zab r) c) n r.next 4:=zc3 hdef
    refine tC (kal c) ?_
    refine tC ha ?_
    refine tC (kal (zab r)) ?_
    refine tC hb ?_
    refine ⟨5,[],⟨by omega,by omega⟩,?_⟩
    (refine tWK ?_;and_intros<;>try exact ⟨⟩)
    all_goals first | rfl | (rw [e];done) | (rw [e];rfl) | trace_state
   | false =>
    rw [t1,t2] at hdef
    rw [t1] at ha
    rw [t2] at hb
    have e:nxt (newB (zab r) c) n r.next 5=(nxt (newB (zab r) c) n r.next 4).put 4 n:=zdl hdef
    refine tC (kal c) ?_
    refine tC ha ?_
    refine tC (kal (zab r)) ?_
    refine tC hb ?_
    refine tK2 ?_
    refine ⟨5,[],⟨by omega,by omega⟩,?_⟩
    (refine tWK ?_;and_intros<;>try exact ⟨⟩)
    all_goals first | rfl | (rw [e];done) | (rw [e];rfl) | trace_state
 ·have ha:=c_Has (bor (bor (bor c.full c.wit) c.learn) c.lwit) ((5:Nat):Int)
  have hb:=c_Has (bor (bor (bor (zab r).full (zab r).wit) (zab r).learn) (zab r).lwit) ((5:Nat):Int)
  rw [zcz _ 5 (by decide)] at ha hb
  have hdef:newB (zab r) c 5=(tb (bor (bor (bor c.full c.wit) c.learn) c.lwit) 5 && !tb (bor (bor (bor (zab r).full (zab r).wit) (zab r).learn) (zab r).lwit) 5):=rfl
  cases t1:tb (bor (bor (bor c.full c.wit) c.learn) c.lwit) 5 with
  | false =>
   rw [t1] at ha hdef
   have e:nxt (newB (zab r) c) n r.next 6=nxt (newB (zab r) c) n r.next 5:=zc3 hdef
   refine tC (kal c) ?_
   refine tC ha ?_
   refine ⟨6,[],⟨by omega,by omega⟩,?_⟩
   (refine tWK ?_;and_intros<;>try exact ⟨⟩)
   all_goals first | rfl | (rw [e];done) | (rw [e];rfl) | trace_state
  | true =>
   cases t2:tb (bor (bor (bor (zab r).full (zab r).wit) (zab r).learn) (zab r).lwit) 5 with
   | true =>
    rw [t1,t2] at hdef
    rw [t1] at ha
    rw [t2] at hb
    have e:nxt (newB (zab r) c) n r.next 6=nxt (newB (zab r) c) n r.next 5:=zc3 hdef
    refine tC (kal c) ?_
    refine tC ha ?_
    refine tC (kal (zab r)) ?_
    refine tC hb ?_
    refine ⟨6,[],⟨by omega,by omega⟩,?_⟩
    (refine tWK ?_;and_intros<;>try exact ⟨⟩)
    all_goals first | rfl | (rw [e];done) | (rw [e];rfl) | trace_state
   | false =>
    rw [t1,t2] at hdef
    rw [t1] at ha
    rw [t2] at hb
    have e:nxt (newB (zab r) c) n r.next 6=(nxt (newB (zab r) c) n r.next 5).put 5 n:=zdl hdef
    refine tC (kal c) ?_
    refine tC ha ?_
    refine tC (kal (zab r)) ?_
    refine tC hb ?_
    refine tK2 ?_
    refine ⟨6,[],⟨by omega,by omega⟩,?_⟩
    (refine tWK ?_;and_intros<;>try exact ⟨⟩)
    all_goals first | rfl | (rw [e];done) | (rw [e];rfl) | trace_state
 ·have ha:=c_Has (bor (bor (bor c.full c.wit) c.learn) c.lwit) ((6:Nat):Int)
  have hb:=c_Has (bor (bor (bor (zab r).full (zab r).wit) (zab r).learn) (zab r).lwit) ((6:Nat):Int)
  rw [zcz _ 6 (by decide)] at ha hb
  have hdef:newB (zab r) c 6=(tb (bor (bor (bor c.full c.wit) c.learn) c.lwit) 6 && !tb (bor (bor (bor (zab r).full (zab r).wit) (zab r).learn) (zab r).lwit) 6):=rfl
  cases t1:tb (bor (bor (bor c.full c.wit) c.learn) c.lwit) 6 with
  | false =>
   rw [t1] at ha hdef
   have e:nxt (newB (zab r) c) n r.next 7=nxt (newB (zab r) c) n r.next 6:=zc3 hdef
   refine tC (kal c) ?_
   refine tC ha ?_
   refine ⟨7,[],⟨by omega,by omega⟩,?_⟩
   (refine tWK ?_;and_intros<;>try exact ⟨⟩)
   all_goals first | rfl | (rw [e];done) | (rw [e];rfl) | trace_state
  | true =>
   cases t2:tb (bor (bor (bor (zab r).full (zab r).wit) (zab r).learn) (zab r).lwit) 6 with
   | true =>
    rw [t1,t2] at hdef
    rw [t1] at ha
    rw [t2] at hb
    have e:nxt (newB (zab r) c) n r.next 7=nxt (newB (zab r) c) n r.next 6:=zc3 hdef
    refine tC (kal c) ?_
    refine tC ha ?_
    refine tC (kal (zab r)) ?_
    refine tC hb ?_
    refine ⟨7,[],⟨by omega,by omega⟩,?_⟩
    (refine tWK ?_;and_intros<;>try exact ⟨⟩)
    all_goals first | rfl | (rw [e];done) | (rw [e];rfl) | trace_state
   | false =>
    rw [t1,t2] at hdef
    rw [t1] at ha
    rw [t2] at hb
    have e:nxt (newB (zab r) c) n r.next 7=(nxt (newB (zab r) c) n r.next 6).put 6 n:=zdl hdef
    refine tC (kal c) ?_
    refine tC ha ?_
    refine tC (kal (zab r)) ?_
    refine tC hb ?_
    refine tK2 ?_
    refine ⟨7,[],⟨by omega,by omega⟩,?_⟩
    (refine tWK ?_;and_intros<;>try exact ⟨⟩)
    all_goals first | rfl | (rw [e];done) | (rw [e];rfl) | trace_state
 ·refine tCR kc ?_
  exact zaa rfl rfl
end Go.Proofs
