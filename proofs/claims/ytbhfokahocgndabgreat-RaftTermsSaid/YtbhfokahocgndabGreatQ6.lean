import Derived.Test.YtbhfokahocgndabGreatC1
import Derived.Test.YtbhfokahocgndabGreatQ5
/- Contracts of functions: a configuration is put into the log, by the page. (genQ6.py prints this) -/
set_option linter.unusedSimpArgs false
set_option linter.unusedVariables false
namespace Go.Proofs
open Go.Pv
set_option maxRecDepth 100000
set_option maxHeartbeats 4000000 in
theorem zrz (r:Rft) (c:Conf) (hl0:r.hard.log.length < 4294967) (hr:zcw r=true) (he:¬ chgE r c=0):Ctr Tryz.prog 100 [.ag r.enc,.ag c.enc] (.tu [.ag rzv,iv 0,iv (chgE r c)]) []:=by
 have hg:=zh4 hr
 have hf:=hg.fit hl0
 have hb:=hf.base
 have kl:=zfs r (zak (by omega))
 have kv:=zb7 r (zak (by omega))
 have km:=c_rMay r.hard (zak (by omega)) hb.1 (by omega) r.commit (hg.comI hl0)
 have kn:=zvm (zac r) c
 have kk:=zi2 (zac r) c
 rw [zqu] at kn
 unfold chgE at he ⊢
 by_cases h1:zdx r=0
 ·rw [if_pos h1] at he ⊢
  rw [decide_eq_true h1] at kl
  cases hw:mayB r with
  | false =>
   rw [show (fits r.hard r.commit r.hard.term && decide ((force r.hard (lastI r.hard)).2≤r.commit))=false from hw] at km
   rw [if_neg (by decide)]
   refine sBody Tryz.func100 ?_;conv=>whnf
   ((try (refine Exists.intro none ?_;conv=>whnf));(with_reducible refine zaa (kl) ?_);conv=>whnf)
   ((try (refine Exists.intro none ?_;conv=>whnf));(with_reducible refine zaa (km) ?_);conv=>whnf)
   exact zab rfl rfl
  | true =>
   rw [show (fits r.hard r.commit r.hard.term && decide ((force r.hard (lastI r.hard)).2≤r.commit))=true from hw] at km
   rw [hw,if_pos rfl] at he
   rw [if_pos rfl]
   cases hn:nearR (zac r) c with
   | false =>
    rw [hn] at kn
    rw [if_neg (by intro h;cases h.1)]
    refine sBody Tryz.func100 ?_;conv=>whnf
    ((try (refine Exists.intro none ?_;conv=>whnf));(with_reducible refine zaa (kl) ?_);conv=>whnf)
    ((try (refine Exists.intro none ?_;conv=>whnf));(with_reducible refine zaa (km) ?_);conv=>whnf)
    ((try (refine Exists.intro none ?_;conv=>whnf));(with_reducible refine zaa (kv) ?_);conv=>whnf)
    ((try (refine Exists.intro none ?_;conv=>whnf));(with_reducible refine zaa (kn) ?_);conv=>whnf)
    exact zab rfl rfl
   | true =>
    rw [hn] at kn
    by_cases h2:zac r=c
    ·rw [if_neg (fun h=>h.2 h2)]
     rw [decide_eq_true h2] at kk
     refine sBody Tryz.func100 ?_;conv=>whnf
     ((try (refine Exists.intro none ?_;conv=>whnf));(with_reducible refine zaa (kl) ?_);conv=>whnf)
     ((try (refine Exists.intro none ?_;conv=>whnf));(with_reducible refine zaa (km) ?_);conv=>whnf)
     ((try (refine Exists.intro none ?_;conv=>whnf));(with_reducible refine zaa (kv) ?_);conv=>whnf)
     ((try (refine Exists.intro none ?_;conv=>whnf));(with_reducible refine zaa (kn) ?_);conv=>whnf)
     ((try (refine Exists.intro none ?_;conv=>whnf));(with_reducible refine zaa (kk) ?_);conv=>whnf)
     exact zab rfl rfl
    ·rw [hn,if_pos ⟨rfl,h2⟩] at he
     rw [if_pos ⟨rfl,h2⟩]
     rw [decide_eq_false h2] at kk
     by_cases h3:r.hard.log.length < 64
     ·rw [if_pos h3] at he;exact absurd rfl he
     ·rw [if_neg h3]
      refine sBody Tryz.func100 ?_;conv=>whnf
      ((try (refine Exists.intro none ?_;conv=>whnf));(with_reducible refine zaa (kl) ?_);conv=>whnf)
      ((try (refine Exists.intro none ?_;conv=>whnf));(with_reducible refine zaa (km) ?_);conv=>whnf)
      ((try (refine Exists.intro none ?_;conv=>whnf));(with_reducible refine zaa (kv) ?_);conv=>whnf)
      ((try (refine Exists.intro none ?_;conv=>whnf));(with_reducible refine zaa (kn) ?_);conv=>whnf)
      ((try (refine Exists.intro none ?_;conv=>whnf));(with_reducible refine zaa (kk) ?_);conv=>whnf)
      (refine tSp (fun h=>?_) (fun h=>?_)<;>conv=>whnf)
      ·exact zab rfl rfl
      ·simp only [List.length_map] at h
       omega
 ·rw [if_neg h1]
  rw [decide_eq_false h1] at kl
  refine sBody Tryz.func100 ?_;conv=>whnf
  ((try (refine Exists.intro none ?_;conv=>whnf));(with_reducible refine zaa (kl) ?_);conv=>whnf)
  exact zab rfl rfl
noncomputable abbrev rnR (r:Rft) (c:Conf) (n:Int) (k:Nat):Rft:={ radR r (ecf r c) with next:=nxt (newB (zac r) c) n r.next k }
set_option maxHeartbeats 8000000 in
theorem zvk (r:Rft) (c:Conf) (hl0:r.hard.log.length < 4294967) (hr:zcw r=true) (he:chgE r c=0):Ctr Tryz.prog 100 [.ag r.enc,.ag c.enc] (.tu [.ag (addR (nxR r c 7) (ecf r c)).enc,iv (lastI (logR r (ecf r c))),iv 0]) []:=by
 have hg:=zh4 hr
 have hf:=hg.fit hl0
 have hb:=hf.base
 have kl:=zfs r (zak (by omega))
 have kv:=zb7 r (zak (by omega))
 have km:=c_rMay r.hard (zak (by omega)) hb.1 (by omega) r.commit (hg.comI hl0)
 have kn:=zvm (zac r) c
 have kk:=zi2 (zac r) c
 rw [zqu] at kn
 obtain ⟨h1,h2,h3,h4,h5⟩:=chgE_ok he
 rw [decide_eq_true h1] at kl
 rw [show (fits r.hard r.commit r.hard.term && decide ((force r.hard (lastI r.hard)).2≤r.commit))=true from h2] at km
 rw [h3] at kn
 rw [decide_eq_false h4] at kk
 have kt:=zao r hf.small
 have ka:=c_rAdd r hf.id (by omega) (ecf r c)
 have kal:=fun d:Conf=>zum d
 have hlen:(logR r (ecf r c)).log.length=r.hard.log.length+1:=by rw [List.length_append];rfl
 have hnl:lastI (logR r (ecf r c))=lastI r.hard+1:=by
  rw [zbk (h:=logR r (ecf r c)) hb.1 (by show r.hard.base+((logR r (ecf r c)).log.length:Int) < _;omega),zbk (h:=r.hard) hb.1 (by omega)]
  show r.hard.base+((logR r (ecf r c)).log.length:Int)=_
  omega
 have kc:=zg9 (logR r (ecf r c)) (zak (by omega)) hb.1 (by show r.hard.base+((logR r (ecf r c)).log.length:Int) < _;omega) r.commit (r.mtch.put r.id.toNat (lastI (logR r (ecf r c))))
 have hfin:addR (nxR r c 7) (ecf r c)={ rnR r c (lastI (logR r (ecf r c))) 7 with commit:=zdh (logR r (ecf r c)) r.commit (r.mtch.put r.id.toNat (lastI (logR r (ecf r c)))) }:=by
  show addR ({ r with next:=nxt (newB (zac r) c) (lastI r.hard+1) r.next 7 }:Rft) (ecf r c)=_
  rw [← hnl];rfl
 rw [hfin]
 clear hfin hnl
 unfold rnR
 unfold radR at ka ⊢
 generalize hM:r.mtch.put r.id.toNat (lastI (logR r (ecf r c)))=M at *
 generalize hN:lastI (logR r (ecf r c))=n at *
 generalize hH:logR r (ecf r c)=H at *
 refine sBody Tryz.func100 ?_;conv=>whnf
 ((try (refine Exists.intro none ?_;conv=>whnf));(with_reducible refine zaa (kl) ?_);conv=>whnf)
 ((try (refine Exists.intro none ?_;conv=>whnf));(with_reducible refine zaa (km) ?_);conv=>whnf)
 ((try (refine Exists.intro none ?_;conv=>whnf));(with_reducible refine zaa (kv) ?_);conv=>whnf)
 ((try (refine Exists.intro none ?_;conv=>whnf));(with_reducible refine zaa (kn) ?_);conv=>whnf)
 ((try (refine Exists.intro none ?_;conv=>whnf));(with_reducible refine zaa (kk) ?_);conv=>whnf)
 (refine tSp (fun h=>?_) (fun h=>?_)<;>conv=>whnf)
 ·simp only [List.length_map] at h
  omega
 clear h
 ((try (refine Exists.intro none ?_;conv=>whnf));(with_reducible refine zaa (kt) ?_);conv=>whnf)
 (refine tNew0 ?_;conv=>whnf)
 ((refine Exists.intro (some ([(1000000,2)],[],[])) ?_);(conv=>whnf);refine zax (ka) (by kernel_rfl) (by kernel_rfl) (by kernel_rfl) ?_;conv=>whnf)
 refine tFor (fun k:Nat=>k≤7) (fun k=>[(9,iv k)]) (fun k=>[(2,({ ({ r with hard:=H,mtch:=M }:Rft) with next:=nxt (newB (zac r) c) n r.next k }:Rft).enc),(3,c.enc),(4,rzv),(7,(zac r).enc)]) (fun _=>[]) [] (fun k=>7 - k) 0 (by decide) ?_ ?_
 ·conv=>whnf
  exact wkD
 intro k hk
 rcases (by omega:k=0∨k=1∨k=2∨k=3∨k=4∨k=5∨k=6∨k=7) with rfl | rfl | rfl | rfl | rfl | rfl | rfl | rfl
 ·have ha:=c_Has (bor (bor (bor c.full c.wit) c.learn) c.lwit) ((0:Nat):Int)
  have hb:=c_Has (bor (bor (bor (zac r).full (zac r).wit) (zac r).learn) (zac r).lwit) ((0:Nat):Int)
  rw [zcv _ 0 (by decide)] at ha hb
  have hdef:newB (zac r) c 0=(tb (bor (bor (bor c.full c.wit) c.learn) c.lwit) 0 && !tb (bor (bor (bor (zac r).full (zac r).wit) (zac r).learn) (zac r).lwit) 0):=rfl
  cases t1:tb (bor (bor (bor c.full c.wit) c.learn) c.lwit) 0 with
  | false =>
   rw [t1] at ha hdef
   have e:nxt (newB (zac r) c) n r.next 1=nxt (newB (zac r) c) n r.next 0:=zef hdef
   conv=>whnf
   ((try (refine Exists.intro none ?_;conv=>whnf));(with_reducible refine zaa (kal c) ?_);conv=>whnf)
   ((try (refine Exists.intro none ?_;conv=>whnf));(with_reducible refine zaa (ha) ?_);conv=>whnf)
   refine ⟨1,[],⟨by omega,by omega⟩,?_⟩
   conv=>whnf
   (refine wkx ?_;refine ⟨?_,?_,?_⟩<;>(conv=>whnf)<;>repeat' first | exact wkc | (with_reducible refine And.intro ?_ ?_)<;>first | exact wks | refine wko ?_ | refine wki ?_ | refine wkb ?_ | (refine zan ?_;conv=>whnf) | (refine zah ?_;conv=>whnf) | (refine zag ?_;conv=>whnf) | conv=>whnf)
   all_goals first | rfl | (rw [e];done) | (rw [e];rfl) | trace_state
  | true =>
   cases t2:tb (bor (bor (bor (zac r).full (zac r).wit) (zac r).learn) (zac r).lwit) 0 with
   | true =>
    rw [t1,t2] at hdef
    rw [t1] at ha
    rw [t2] at hb
    have e:nxt (newB (zac r) c) n r.next 1=nxt (newB (zac r) c) n r.next 0:=zef hdef
    conv=>whnf
    ((try (refine Exists.intro none ?_;conv=>whnf));(with_reducible refine zaa (kal c) ?_);conv=>whnf)
    ((try (refine Exists.intro none ?_;conv=>whnf));(with_reducible refine zaa (ha) ?_);conv=>whnf)
    ((try (refine Exists.intro none ?_;conv=>whnf));(with_reducible refine zaa (kal (zac r)) ?_);conv=>whnf)
    ((try (refine Exists.intro none ?_;conv=>whnf));(with_reducible refine zaa (hb) ?_);conv=>whnf)
    refine ⟨1,[],⟨by omega,by omega⟩,?_⟩
    conv=>whnf
    (refine wkx ?_;refine ⟨?_,?_,?_⟩<;>(conv=>whnf)<;>repeat' first | exact wkc | (with_reducible refine And.intro ?_ ?_)<;>first | exact wks | refine wko ?_ | refine wki ?_ | refine wkb ?_ | (refine zan ?_;conv=>whnf) | (refine zah ?_;conv=>whnf) | (refine zag ?_;conv=>whnf) | conv=>whnf)
    all_goals first | rfl | (rw [e];done) | (rw [e];rfl) | trace_state
   | false =>
    rw [t1,t2] at hdef
    rw [t1] at ha
    rw [t2] at hb
    have e:nxt (newB (zac r) c) n r.next 1=(nxt (newB (zac r) c) n r.next 0).put 0 n:=zgj hdef
    conv=>whnf
    ((try (refine Exists.intro none ?_;conv=>whnf));(with_reducible refine zaa (kal c) ?_);conv=>whnf)
    ((try (refine Exists.intro none ?_;conv=>whnf));(with_reducible refine zaa (ha) ?_);conv=>whnf)
    ((try (refine Exists.intro none ?_;conv=>whnf));(with_reducible refine zaa (kal (zac r)) ?_);conv=>whnf)
    ((try (refine Exists.intro none ?_;conv=>whnf));(with_reducible refine zaa (hb) ?_);conv=>whnf)
    refine ⟨⟨by decide,by decide⟩,?_⟩
    conv=>whnf
    refine ⟨1,[],⟨by omega,by omega⟩,?_⟩
    conv=>whnf
    (refine wkx ?_;refine ⟨?_,?_,?_⟩<;>(conv=>whnf)<;>repeat' first | exact wkc | (with_reducible refine And.intro ?_ ?_)<;>first | exact wks | refine wko ?_ | refine wki ?_ | refine wkb ?_ | (refine zan ?_;conv=>whnf) | (refine zah ?_;conv=>whnf) | (refine zag ?_;conv=>whnf) | conv=>whnf)
    all_goals first | rfl | (rw [e];done) | (rw [e];rfl) | trace_state
 ·have ha:=c_Has (bor (bor (bor c.full c.wit) c.learn) c.lwit) ((1:Nat):Int)
  have hb:=c_Has (bor (bor (bor (zac r).full (zac r).wit) (zac r).learn) (zac r).lwit) ((1:Nat):Int)
  rw [zcv _ 1 (by decide)] at ha hb
  have hdef:newB (zac r) c 1=(tb (bor (bor (bor c.full c.wit) c.learn) c.lwit) 1 && !tb (bor (bor (bor (zac r).full (zac r).wit) (zac r).learn) (zac r).lwit) 1):=rfl
  cases t1:tb (bor (bor (bor c.full c.wit) c.learn) c.lwit) 1 with
  | false =>
   rw [t1] at ha hdef
   have e:nxt (newB (zac r) c) n r.next 2=nxt (newB (zac r) c) n r.next 1:=zef hdef
   conv=>whnf
   ((try (refine Exists.intro none ?_;conv=>whnf));(with_reducible refine zaa (kal c) ?_);conv=>whnf)
   ((try (refine Exists.intro none ?_;conv=>whnf));(with_reducible refine zaa (ha) ?_);conv=>whnf)
   refine ⟨2,[],⟨by omega,by omega⟩,?_⟩
   conv=>whnf
   (refine wkx ?_;refine ⟨?_,?_,?_⟩<;>(conv=>whnf)<;>repeat' first | exact wkc | (with_reducible refine And.intro ?_ ?_)<;>first | exact wks | refine wko ?_ | refine wki ?_ | refine wkb ?_ | (refine zan ?_;conv=>whnf) | (refine zah ?_;conv=>whnf) | (refine zag ?_;conv=>whnf) | conv=>whnf)
   all_goals first | rfl | (rw [e];done) | (rw [e];rfl) | trace_state
  | true =>
   cases t2:tb (bor (bor (bor (zac r).full (zac r).wit) (zac r).learn) (zac r).lwit) 1 with
   | true =>
    rw [t1,t2] at hdef
    rw [t1] at ha
    rw [t2] at hb
    have e:nxt (newB (zac r) c) n r.next 2=nxt (newB (zac r) c) n r.next 1:=zef hdef
    conv=>whnf
    ((try (refine Exists.intro none ?_;conv=>whnf));(with_reducible refine zaa (kal c) ?_);conv=>whnf)
    ((try (refine Exists.intro none ?_;conv=>whnf));(with_reducible refine zaa (ha) ?_);conv=>whnf)
    ((try (refine Exists.intro none ?_;conv=>whnf));(with_reducible refine zaa (kal (zac r)) ?_);conv=>whnf)
    ((try (refine Exists.intro none ?_;conv=>whnf));(with_reducible refine zaa (hb) ?_);conv=>whnf)
    refine ⟨2,[],⟨by omega,by omega⟩,?_⟩
    conv=>whnf
    (refine wkx ?_;refine ⟨?_,?_,?_⟩<;>(conv=>whnf)<;>repeat' first | exact wkc | (with_reducible refine And.intro ?_ ?_)<;>first | exact wks | refine wko ?_ | refine wki ?_ | refine wkb ?_ | (refine zan ?_;conv=>whnf) | (refine zah ?_;conv=>whnf) | (refine zag ?_;conv=>whnf) | conv=>whnf)
    all_goals first | rfl | (rw [e];done) | (rw [e];rfl) | trace_state
   | false =>
    rw [t1,t2] at hdef
    rw [t1] at ha
    rw [t2] at hb
    have e:nxt (newB (zac r) c) n r.next 2=(nxt (newB (zac r) c) n r.next 1).put 1 n:=zgj hdef
    conv=>whnf
    ((try (refine Exists.intro none ?_;conv=>whnf));(with_reducible refine zaa (kal c) ?_);conv=>whnf)
    ((try (refine Exists.intro none ?_;conv=>whnf));(with_reducible refine zaa (ha) ?_);conv=>whnf)
    ((try (refine Exists.intro none ?_;conv=>whnf));(with_reducible refine zaa (kal (zac r)) ?_);conv=>whnf)
    ((try (refine Exists.intro none ?_;conv=>whnf));(with_reducible refine zaa (hb) ?_);conv=>whnf)
    refine ⟨⟨by decide,by decide⟩,?_⟩
    conv=>whnf
    refine ⟨2,[],⟨by omega,by omega⟩,?_⟩
    conv=>whnf
    (refine wkx ?_;refine ⟨?_,?_,?_⟩<;>(conv=>whnf)<;>repeat' first | exact wkc | (with_reducible refine And.intro ?_ ?_)<;>first | exact wks | refine wko ?_ | refine wki ?_ | refine wkb ?_ | (refine zan ?_;conv=>whnf) | (refine zah ?_;conv=>whnf) | (refine zag ?_;conv=>whnf) | conv=>whnf)
    all_goals first | rfl | (rw [e];done) | (rw [e];rfl) | trace_state
 ·have ha:=c_Has (bor (bor (bor c.full c.wit) c.learn) c.lwit) ((2:Nat):Int)
  have hb:=c_Has (bor (bor (bor (zac r).full (zac r).wit) (zac r).learn) (zac r).lwit) ((2:Nat):Int)
  rw [zcv _ 2 (by decide)] at ha hb
  have hdef:newB (zac r) c 2=(tb (bor (bor (bor c.full c.wit) c.learn) c.lwit) 2 && !tb (bor (bor (bor (zac r).full (zac r).wit) (zac r).learn) (zac r).lwit) 2):=rfl
  cases t1:tb (bor (bor (bor c.full c.wit) c.learn) c.lwit) 2 with
  | false =>
   rw [t1] at ha hdef
   have e:nxt (newB (zac r) c) n r.next 3=nxt (newB (zac r) c) n r.next 2:=zef hdef
   conv=>whnf
   ((try (refine Exists.intro none ?_;conv=>whnf));(with_reducible refine zaa (kal c) ?_);conv=>whnf)
   ((try (refine Exists.intro none ?_;conv=>whnf));(with_reducible refine zaa (ha) ?_);conv=>whnf)
   refine ⟨3,[],⟨by omega,by omega⟩,?_⟩
   conv=>whnf
   (refine wkx ?_;refine ⟨?_,?_,?_⟩<;>(conv=>whnf)<;>repeat' first | exact wkc | (with_reducible refine And.intro ?_ ?_)<;>first | exact wks | refine wko ?_ | refine wki ?_ | refine wkb ?_ | (refine zan ?_;conv=>whnf) | (refine zah ?_;conv=>whnf) | (refine zag ?_;conv=>whnf) | conv=>whnf)
   all_goals first | rfl | (rw [e];done) | (rw [e];rfl) | trace_state
  | true =>
   cases t2:tb (bor (bor (bor (zac r).full (zac r).wit) (zac r).learn) (zac r).lwit) 2 with
   | true =>
    rw [t1,t2] at hdef
    rw [t1] at ha
    rw [t2] at hb
    have e:nxt (newB (zac r) c) n r.next 3=nxt (newB (zac r) c) n r.next 2:=zef hdef
    conv=>whnf
    ((try (refine Exists.intro none ?_;conv=>whnf));(with_reducible refine zaa (kal c) ?_);conv=>whnf)
    ((try (refine Exists.intro none ?_;conv=>whnf));(with_reducible refine zaa (ha) ?_);conv=>whnf)
    ((try (refine Exists.intro none ?_;conv=>whnf));(with_reducible refine zaa (kal (zac r)) ?_);conv=>whnf)
    ((try (refine Exists.intro none ?_;conv=>whnf));(with_reducible refine zaa (hb) ?_);conv=>whnf)
    refine ⟨3,[],⟨by omega,by omega⟩,?_⟩
    conv=>whnf
    (refine wkx ?_;refine ⟨?_,?_,?_⟩<;>(conv=>whnf)<;>repeat' first | exact wkc | (with_reducible refine And.intro ?_ ?_)<;>first | exact wks | refine wko ?_ | refine wki ?_ | refine wkb ?_ | (refine zan ?_;conv=>whnf) | (refine zah ?_;conv=>whnf) | (refine zag ?_;conv=>whnf) | conv=>whnf)
    all_goals first | rfl | (rw [e];done) | (rw [e];rfl) | trace_state
   | false =>
    rw [t1,t2] at hdef
    rw [t1] at ha
    rw [t2] at hb
    have e:nxt (newB (zac r) c) n r.next 3=(nxt (newB (zac r) c) n r.next 2).put 2 n:=zgj hdef
    conv=>whnf
    ((try (refine Exists.intro none ?_;conv=>whnf));(with_reducible refine zaa (kal c) ?_);conv=>whnf)
    ((try (refine Exists.intro none ?_;conv=>whnf));(with_reducible refine zaa (ha) ?_);conv=>whnf)
    ((try (refine Exists.intro none ?_;conv=>whnf));(with_reducible refine zaa (kal (zac r)) ?_);conv=>whnf)
    ((try (refine Exists.intro none ?_;conv=>whnf));(with_reducible refine zaa (hb) ?_);conv=>whnf)
    refine ⟨⟨by decide,by decide⟩,?_⟩
    conv=>whnf
    refine ⟨3,[],⟨by omega,by omega⟩,?_⟩
    conv=>whnf
    (refine wkx ?_;refine ⟨?_,?_,?_⟩<;>(conv=>whnf)<;>repeat' first | exact wkc | (with_reducible refine And.intro ?_ ?_)<;>first | exact wks | refine wko ?_ | refine wki ?_ | refine wkb ?_ | (refine zan ?_;conv=>whnf) | (refine zah ?_;conv=>whnf) | (refine zag ?_;conv=>whnf) | conv=>whnf)
    all_goals first | rfl | (rw [e];done) | (rw [e];rfl) | trace_state
 ·have ha:=c_Has (bor (bor (bor c.full c.wit) c.learn) c.lwit) ((3:Nat):Int)
  have hb:=c_Has (bor (bor (bor (zac r).full (zac r).wit) (zac r).learn) (zac r).lwit) ((3:Nat):Int)
  rw [zcv _ 3 (by decide)] at ha hb
  have hdef:newB (zac r) c 3=(tb (bor (bor (bor c.full c.wit) c.learn) c.lwit) 3 && !tb (bor (bor (bor (zac r).full (zac r).wit) (zac r).learn) (zac r).lwit) 3):=rfl
  cases t1:tb (bor (bor (bor c.full c.wit) c.learn) c.lwit) 3 with
  | false =>
   rw [t1] at ha hdef
   have e:nxt (newB (zac r) c) n r.next 4=nxt (newB (zac r) c) n r.next 3:=zef hdef
   conv=>whnf
   ((try (refine Exists.intro none ?_;conv=>whnf));(with_reducible refine zaa (kal c) ?_);conv=>whnf)
   ((try (refine Exists.intro none ?_;conv=>whnf));(with_reducible refine zaa (ha) ?_);conv=>whnf)
   refine ⟨4,[],⟨by omega,by omega⟩,?_⟩
   conv=>whnf
   (refine wkx ?_;refine ⟨?_,?_,?_⟩<;>(conv=>whnf)<;>repeat' first | exact wkc | (with_reducible refine And.intro ?_ ?_)<;>first | exact wks | refine wko ?_ | refine wki ?_ | refine wkb ?_ | (refine zan ?_;conv=>whnf) | (refine zah ?_;conv=>whnf) | (refine zag ?_;conv=>whnf) | conv=>whnf)
   all_goals first | rfl | (rw [e];done) | (rw [e];rfl) | trace_state
  | true =>
   cases t2:tb (bor (bor (bor (zac r).full (zac r).wit) (zac r).learn) (zac r).lwit) 3 with
   | true =>
    rw [t1,t2] at hdef
    rw [t1] at ha
    rw [t2] at hb
    have e:nxt (newB (zac r) c) n r.next 4=nxt (newB (zac r) c) n r.next 3:=zef hdef
    conv=>whnf
    ((try (refine Exists.intro none ?_;conv=>whnf));(with_reducible refine zaa (kal c) ?_);conv=>whnf)
    ((try (refine Exists.intro none ?_;conv=>whnf));(with_reducible refine zaa (ha) ?_);conv=>whnf)
    ((try (refine Exists.intro none ?_;conv=>whnf));(with_reducible refine zaa (kal (zac r)) ?_);conv=>whnf)
    ((try (refine Exists.intro none ?_;conv=>whnf));(with_reducible refine zaa (hb) ?_);conv=>whnf)
    refine ⟨4,[],⟨by omega,by omega⟩,?_⟩
    conv=>whnf
    (refine wkx ?_;refine ⟨?_,?_,?_⟩<;>(conv=>whnf)<;>repeat' first | exact wkc | (with_reducible refine And.intro ?_ ?_)<;>first | exact wks | refine wko ?_ | refine wki ?_ | refine wkb ?_ | (refine zan ?_;conv=>whnf) | (refine zah ?_;conv=>whnf) | (refine zag ?_;conv=>whnf) | conv=>whnf)
    all_goals first | rfl | (rw [e];done) | (rw [e];rfl) | trace_state
   | false =>
    rw [t1,t2] at hdef
    rw [t1] at ha
    rw [t2] at hb
    have e:nxt (newB (zac r) c) n r.next 4=(nxt (newB (zac r) c) n r.next 3).put 3 n:=zgj hdef
    conv=>whnf
    ((try (refine Exists.intro none ?_;conv=>whnf));(with_reducible refine zaa (kal c) ?_);conv=>whnf)
    ((try (refine Exists.intro none ?_;conv=>whnf));(with_reducible refine zaa (ha) ?_);conv=>whnf)
    ((try (refine Exists.intro none ?_;conv=>whnf));(with_reducible refine zaa (kal (zac r)) ?_);conv=>whnf)
    ((try (refine Exists.intro none ?_;conv=>whnf));(with_reducible refine zaa (hb) ?_);conv=>whnf)
    refine ⟨⟨by decide,by decide⟩,?_⟩
    conv=>whnf
    refine ⟨4,[],⟨by omega,by omega⟩,?_⟩
    conv=>whnf
    (refine wkx ?_;refine ⟨?_,?_,?_⟩<;>(conv=>whnf)<;>repeat' first | exact wkc | (with_reducible refine And.intro ?_ ?_)<;>first | exact wks | refine wko ?_ | refine wki ?_ | refine wkb ?_ | (refine zan ?_;conv=>whnf) | (refine zah ?_;conv=>whnf) | (refine zag ?_;conv=>whnf) | conv=>whnf)
    all_goals first | rfl | (rw [e];done) | (rw [e];rfl) | trace_state
 ·have ha:=c_Has (bor (bor (bor c.full c.wit) c.learn) c.lwit) ((4:Nat):Int)
  have hb:=c_Has (bor (bor (bor (zac r).full (zac r).wit) (zac r).learn) (zac r).lwit) ((4:Nat):Int)
  rw [zcv _ 4 (by decide)] at ha hb
  have hdef:newB (zac r) c 4=(tb (bor (bor (bor c.full c.wit) c.learn) c.lwit) 4 && !tb (bor (bor (bor (zac r).full (zac r).wit) (zac r).learn) (zac r).lwit) 4):=rfl
  cases t1:tb (bor (bor (bor c.full c.wit) c.learn) c.lwit) 4 with
  | false =>
   rw [t1] at ha hdef
   have e:nxt (newB (zac r) c) n r.next 5=nxt (newB (zac r) c) n r.next 4:=zef hdef
   conv=>whnf
   ((try (refine Exists.intro none ?_;conv=>whnf));(with_reducible refine zaa (kal c) ?_);conv=>whnf)
   ((try (refine Exists.intro none ?_;conv=>whnf));(with_reducible refine zaa (ha) ?_);conv=>whnf)
   refine ⟨5,[],⟨by omega,by omega⟩,?_⟩
   conv=>whnf
   (refine wkx ?_;refine ⟨?_,?_,?_⟩<;>(conv=>whnf)<;>repeat' first | exact wkc | (with_reducible refine And.intro ?_ ?_)<;>first | exact wks | refine wko ?_ | refine wki ?_ | refine wkb ?_ | (refine zan ?_;conv=>whnf) | (refine zah ?_;conv=>whnf) | (refine zag ?_;conv=>whnf) | conv=>whnf)
   all_goals first | rfl | (rw [e];done) | (rw [e];rfl) | trace_state
  | true =>
   cases t2:tb (bor (bor (bor (zac r).full (zac r).wit) (zac r).learn) (zac r).lwit) 4 with
   | true =>
    rw [t1,t2] at hdef
    rw [t1] at ha
    rw [t2] at hb
    have e:nxt (newB (zac r) c) n r.next 5=nxt (newB (zac r) c) n r.next 4:=zef hdef
    conv=>whnf
    ((try (refine Exists.intro none ?_;conv=>whnf));(with_reducible refine zaa (kal c) ?_);conv=>whnf)
    ((try (refine Exists.intro none ?_;conv=>whnf));(with_reducible refine zaa (ha) ?_);conv=>whnf)
    ((try (refine Exists.intro none ?_;conv=>whnf));(with_reducible refine zaa (kal (zac r)) ?_);conv=>whnf)
    ((try (refine Exists.intro none ?_;conv=>whnf));(with_reducible refine zaa (hb) ?_);conv=>whnf)
    refine ⟨5,[],⟨by omega,by omega⟩,?_⟩
    conv=>whnf
    (refine wkx ?_;refine ⟨?_,?_,?_⟩<;>(conv=>whnf)<;>repeat' first | exact wkc | (with_reducible refine And.intro ?_ ?_)<;>first | exact wks | refine wko ?_ | refine wki ?_ | refine wkb ?_ | (refine zan ?_;conv=>whnf) | (refine zah ?_;conv=>whnf) | (refine zag ?_;conv=>whnf) | conv=>whnf)
    all_goals first | rfl | (rw [e];done) | (rw [e];rfl) | trace_state
   | false =>
    rw [t1,t2] at hdef
    rw [t1] at ha
    rw [t2] at hb
    have e:nxt (newB (zac r) c) n r.next 5=(nxt (newB (zac r) c) n r.next 4).put 4 n:=zgj hdef
    conv=>whnf
    ((try (refine Exists.intro none ?_;conv=>whnf));(with_reducible refine zaa (kal c) ?_);conv=>whnf)
    ((try (refine Exists.intro none ?_;conv=>whnf));(with_reducible refine zaa (ha) ?_);conv=>whnf)
    ((try (refine Exists.intro none ?_;conv=>whnf));(with_reducible refine zaa (kal (zac r)) ?_);conv=>whnf)
    ((try (refine Exists.intro none ?_;conv=>whnf));(with_reducible refine zaa (hb) ?_);conv=>whnf)
    refine ⟨⟨by decide,by decide⟩,?_⟩
    conv=>whnf
    refine ⟨5,[],⟨by omega,by omega⟩,?_⟩
    conv=>whnf
    (refine wkx ?_;refine ⟨?_,?_,?_⟩<;>(conv=>whnf)<;>repeat' first | exact wkc | (with_reducible refine And.intro ?_ ?_)<;>first | exact wks | refine wko ?_ | refine wki ?_ | refine wkb ?_ | (refine zan ?_;conv=>whnf) | (refine zah ?_;conv=>whnf) | (refine zag ?_;conv=>whnf) | conv=>whnf)
    all_goals first | rfl | (rw [e];done) | (rw [e];rfl) | trace_state
 ·have ha:=c_Has (bor (bor (bor c.full c.wit) c.learn) c.lwit) ((5:Nat):Int)
  have hb:=c_Has (bor (bor (bor (zac r).full (zac r).wit) (zac r).learn) (zac r).lwit) ((5:Nat):Int)
  rw [zcv _ 5 (by decide)] at ha hb
  have hdef:newB (zac r) c 5=(tb (bor (bor (bor c.full c.wit) c.learn) c.lwit) 5 && !tb (bor (bor (bor (zac r).full (zac r).wit) (zac r).learn) (zac r).lwit) 5):=rfl
  cases t1:tb (bor (bor (bor c.full c.wit) c.learn) c.lwit) 5 with
  | false =>
   rw [t1] at ha hdef
   have e:nxt (newB (zac r) c) n r.next 6=nxt (newB (zac r) c) n r.next 5:=zef hdef
   conv=>whnf
   ((try (refine Exists.intro none ?_;conv=>whnf));(with_reducible refine zaa (kal c) ?_);conv=>whnf)
   ((try (refine Exists.intro none ?_;conv=>whnf));(with_reducible refine zaa (ha) ?_);conv=>whnf)
   refine ⟨6,[],⟨by omega,by omega⟩,?_⟩
   conv=>whnf
   (refine wkx ?_;refine ⟨?_,?_,?_⟩<;>(conv=>whnf)<;>repeat' first | exact wkc | (with_reducible refine And.intro ?_ ?_)<;>first | exact wks | refine wko ?_ | refine wki ?_ | refine wkb ?_ | (refine zan ?_;conv=>whnf) | (refine zah ?_;conv=>whnf) | (refine zag ?_;conv=>whnf) | conv=>whnf)
   all_goals first | rfl | (rw [e];done) | (rw [e];rfl) | trace_state
  | true =>
   cases t2:tb (bor (bor (bor (zac r).full (zac r).wit) (zac r).learn) (zac r).lwit) 5 with
   | true =>
    rw [t1,t2] at hdef
    rw [t1] at ha
    rw [t2] at hb
    have e:nxt (newB (zac r) c) n r.next 6=nxt (newB (zac r) c) n r.next 5:=zef hdef
    conv=>whnf
    ((try (refine Exists.intro none ?_;conv=>whnf));(with_reducible refine zaa (kal c) ?_);conv=>whnf)
    ((try (refine Exists.intro none ?_;conv=>whnf));(with_reducible refine zaa (ha) ?_);conv=>whnf)
    ((try (refine Exists.intro none ?_;conv=>whnf));(with_reducible refine zaa (kal (zac r)) ?_);conv=>whnf)
    ((try (refine Exists.intro none ?_;conv=>whnf));(with_reducible refine zaa (hb) ?_);conv=>whnf)
    refine ⟨6,[],⟨by omega,by omega⟩,?_⟩
    conv=>whnf
    (refine wkx ?_;refine ⟨?_,?_,?_⟩<;>(conv=>whnf)<;>repeat' first | exact wkc | (with_reducible refine And.intro ?_ ?_)<;>first | exact wks | refine wko ?_ | refine wki ?_ | refine wkb ?_ | (refine zan ?_;conv=>whnf) | (refine zah ?_;conv=>whnf) | (refine zag ?_;conv=>whnf) | conv=>whnf)
    all_goals first | rfl | (rw [e];done) | (rw [e];rfl) | trace_state
   | false =>
    rw [t1,t2] at hdef
    rw [t1] at ha
    rw [t2] at hb
    have e:nxt (newB (zac r) c) n r.next 6=(nxt (newB (zac r) c) n r.next 5).put 5 n:=zgj hdef
    conv=>whnf
    ((try (refine Exists.intro none ?_;conv=>whnf));(with_reducible refine zaa (kal c) ?_);conv=>whnf)
    ((try (refine Exists.intro none ?_;conv=>whnf));(with_reducible refine zaa (ha) ?_);conv=>whnf)
    ((try (refine Exists.intro none ?_;conv=>whnf));(with_reducible refine zaa (kal (zac r)) ?_);conv=>whnf)
    ((try (refine Exists.intro none ?_;conv=>whnf));(with_reducible refine zaa (hb) ?_);conv=>whnf)
    refine ⟨⟨by decide,by decide⟩,?_⟩
    conv=>whnf
    refine ⟨6,[],⟨by omega,by omega⟩,?_⟩
    conv=>whnf
    (refine wkx ?_;refine ⟨?_,?_,?_⟩<;>(conv=>whnf)<;>repeat' first | exact wkc | (with_reducible refine And.intro ?_ ?_)<;>first | exact wks | refine wko ?_ | refine wki ?_ | refine wkb ?_ | (refine zan ?_;conv=>whnf) | (refine zah ?_;conv=>whnf) | (refine zag ?_;conv=>whnf) | conv=>whnf)
    all_goals first | rfl | (rw [e];done) | (rw [e];rfl) | trace_state
 ·have ha:=c_Has (bor (bor (bor c.full c.wit) c.learn) c.lwit) ((6:Nat):Int)
  have hb:=c_Has (bor (bor (bor (zac r).full (zac r).wit) (zac r).learn) (zac r).lwit) ((6:Nat):Int)
  rw [zcv _ 6 (by decide)] at ha hb
  have hdef:newB (zac r) c 6=(tb (bor (bor (bor c.full c.wit) c.learn) c.lwit) 6 && !tb (bor (bor (bor (zac r).full (zac r).wit) (zac r).learn) (zac r).lwit) 6):=rfl
  cases t1:tb (bor (bor (bor c.full c.wit) c.learn) c.lwit) 6 with
  | false =>
   rw [t1] at ha hdef
   have e:nxt (newB (zac r) c) n r.next 7=nxt (newB (zac r) c) n r.next 6:=zef hdef
   conv=>whnf
   ((try (refine Exists.intro none ?_;conv=>whnf));(with_reducible refine zaa (kal c) ?_);conv=>whnf)
   ((try (refine Exists.intro none ?_;conv=>whnf));(with_reducible refine zaa (ha) ?_);conv=>whnf)
   refine ⟨7,[],⟨by omega,by omega⟩,?_⟩
   conv=>whnf
   (refine wkx ?_;refine ⟨?_,?_,?_⟩<;>(conv=>whnf)<;>repeat' first | exact wkc | (with_reducible refine And.intro ?_ ?_)<;>first | exact wks | refine wko ?_ | refine wki ?_ | refine wkb ?_ | (refine zan ?_;conv=>whnf) | (refine zah ?_;conv=>whnf) | (refine zag ?_;conv=>whnf) | conv=>whnf)
   all_goals first | rfl | (rw [e];done) | (rw [e];rfl) | trace_state
  | true =>
   cases t2:tb (bor (bor (bor (zac r).full (zac r).wit) (zac r).learn) (zac r).lwit) 6 with
   | true =>
    rw [t1,t2] at hdef
    rw [t1] at ha
    rw [t2] at hb
    have e:nxt (newB (zac r) c) n r.next 7=nxt (newB (zac r) c) n r.next 6:=zef hdef
    conv=>whnf
    ((try (refine Exists.intro none ?_;conv=>whnf));(with_reducible refine zaa (kal c) ?_);conv=>whnf)
    ((try (refine Exists.intro none ?_;conv=>whnf));(with_reducible refine zaa (ha) ?_);conv=>whnf)
    ((try (refine Exists.intro none ?_;conv=>whnf));(with_reducible refine zaa (kal (zac r)) ?_);conv=>whnf)
    ((try (refine Exists.intro none ?_;conv=>whnf));(with_reducible refine zaa (hb) ?_);conv=>whnf)
    refine ⟨7,[],⟨by omega,by omega⟩,?_⟩
    conv=>whnf
    (refine wkx ?_;refine ⟨?_,?_,?_⟩<;>(conv=>whnf)<;>repeat' first | exact wkc | (with_reducible refine And.intro ?_ ?_)<;>first | exact wks | refine wko ?_ | refine wki ?_ | refine wkb ?_ | (refine zan ?_;conv=>whnf) | (refine zah ?_;conv=>whnf) | (refine zag ?_;conv=>whnf) | conv=>whnf)
    all_goals first | rfl | (rw [e];done) | (rw [e];rfl) | trace_state
   | false =>
    rw [t1,t2] at hdef
    rw [t1] at ha
    rw [t2] at hb
    have e:nxt (newB (zac r) c) n r.next 7=(nxt (newB (zac r) c) n r.next 6).put 6 n:=zgj hdef
    conv=>whnf
    ((try (refine Exists.intro none ?_;conv=>whnf));(with_reducible refine zaa (kal c) ?_);conv=>whnf)
    ((try (refine Exists.intro none ?_;conv=>whnf));(with_reducible refine zaa (ha) ?_);conv=>whnf)
    ((try (refine Exists.intro none ?_;conv=>whnf));(with_reducible refine zaa (kal (zac r)) ?_);conv=>whnf)
    ((try (refine Exists.intro none ?_;conv=>whnf));(with_reducible refine zaa (hb) ?_);conv=>whnf)
    refine ⟨⟨by decide,by decide⟩,?_⟩
    conv=>whnf
    refine ⟨7,[],⟨by omega,by omega⟩,?_⟩
    conv=>whnf
    (refine wkx ?_;refine ⟨?_,?_,?_⟩<;>(conv=>whnf)<;>repeat' first | exact wkc | (with_reducible refine And.intro ?_ ?_)<;>first | exact wks | refine wko ?_ | refine wki ?_ | refine wkb ?_ | (refine zan ?_;conv=>whnf) | (refine zah ?_;conv=>whnf) | (refine zag ?_;conv=>whnf) | conv=>whnf)
    all_goals first | rfl | (rw [e];done) | (rw [e];rfl) | trace_state
 ·conv=>whnf
  ((try ((refine Exists.intro none ?_);(conv=>whnf)));refine zai (kc) (by kernel_rfl) ?_;conv=>whnf)
  exact zab rfl rfl
end Go.Proofs
