import Derived.Test.YtbhfokahocgndabGreatPvQ3
import Derived.Test.YtbhfokahocgndabGreatH9
import Derived.Test.YtbhfokahocgndabGreatY2
import Derived.Test.YtbhfokahocgndabGreatC48
import Derived.Test.YtbhfokahocgndabGreatC57
import Derived.Test.YtbhfokahocgndabGreatC27
import Derived.Test.YtbhfokahocgndabGreatC12
/- Contracts of functions: a replica leads. -/
set_option linter.unusedSimpArgs false
set_option linter.unusedVariables false
set_option maxHeartbeats 16000000
namespace Go.Proofs
open Go.Pv
set_option maxRecDepth 100000
abbrev farM (n:Int):Int:=if 1099511627776 < n then 1099511627776 else n
abbrev allA (n:Int):Arr:=⟨n,n,n,n,n,n,n⟩
abbrev led0 (r:Rft):Rft:={ r with role:=3,lead:=r.id,votes:=0,reads:=[],quiet:=0,round:=farM (r.round+1),mtch:=zA,silent:=zA }
noncomputable def leadR (r:Rft):Rft:={ addR (led0 r) (et r.hard.term) with next:=allA (lastI (logR r (et r.hard.term))) }
theorem zoz (r:Rft):(leadR r).hard.log=r.hard.log++[et r.hard.term]:=rfl
abbrev repX (x:Rft) (out:List (List PV)):List PV:=repV x (.sl 1 (x.hard.snap.map encB)) (.sl 16 (x.hard.log.map Ent.enc)) (.sl 13 (x.reads.map Rd.enc)) (.sl 16 out)
abbrev obX:List (Nat×Option (Bool×Nat×List (List PV))):=[(9990,none),(9991,none),(9992,none),(9993,none)]
theorem zxp (r : Rft) (hid : 0 ≤ r.id ∧ r.id < 7) (hm : r.hard.log.length < 4294967) (hsn : r.hard.snap.length ≤ 4294967296) (hb : 0 ≤ r.hard.base ∧ r.hard.base ≤ 1099511627776) (hr : 0 ≤ r.round ∧ r.round ≤ 1099511627776) (out : List (List PV)) (ho : out.length ≤ 4000000) :
    CtrE Tryz.prog 132 [.pt 9990 0] [(9990,repI r out)] (obI r out) (.tu []) [(9990,repX (leadR r) (out++(allL (leadR r)).map (zar (leadR r))))] obX:=by
 have ka:=c_add (led0 r) hid (by show r.hard.log.length≤_;omega) hb.1 hb.2 out (et r.hard.term)
 have hlast:lastI (logR r (et r.hard.term))=r.hard.base+r.hard.log.length+1:=by
  have h1:(logR r (et r.hard.term)).log.length=r.hard.log.length+1:=by rw [List.length_append];rfl
  unfold lastI
  rw [if_neg (by omega),h1]
  have h2:(logR r (et r.hard.term)).base=r.hard.base:=rfl
  rw [h2]
  have:w64 (r.hard.base+((r.hard.log.length+1:Nat):Int))=r.hard.base+((r.hard.log.length+1:Nat):Int):=zaf (by omega) (by omega)
  rw [this];omega
 have ks:=zp0 (leadR r) ⟨by rw [zoz,List.length_append];show r.hard.log.length+1≤_;omega,hsn,hb,fun i hi=>by
  have:(leadR r).next.at i=lastI (logR r (et r.hard.term)):=by
   rcases (by omega:i=0∨i=1∨i=2∨i=3∨i=4∨i=5∨i=6) with rfl | rfl | rfl | rfl | rfl | rfl | rfl<;>rfl
  rw [this,hlast];unfold isI;omega⟩ out ho
 have ew:IntKind.i64.wrap (r.round+1)=r.round+1:=zaf (by omega) (by omega)
 refine zay mixed Tryz.func132 rfl (by kernel_rfl) (by kernel_rfl) ?_
 refine tQ ?_
 refine zz3 9990 39 3000 13 _ rfl rfl rfl ?_
 conv=>whnf
 refine tZ ?_
 rw [ew]
 refine tER ([(9990,9990)],[(9990,9990),(9991,9991),(9992,3000),(9993,9993)],[(1,4000)]) ka ?_
 refine zby mixed (by kernel_rfl) 9 ?_
 conv=>whnf
 refine tK2 ?_
 refine tK2 ?_
 refine tK2 ?_
 refine tK2 ?_
 refine tK2 ?_
 refine tK2 ?_
 refine tK2 ?_
 refine tER ([(9990,9990)],[(9990,9990),(9991,4000),(9992,3000),(9993,9993)],[(1,5000)]) ks ?_
 (refine tV 39 3000 ?_;refine tV 40 5000 ?_;exact eX [(9990,9990),(9991,9991),(9992,9992),(9993,9993)])
structure Fit (r:Rft):Prop where
 id:0≤r.id∧r.id < 7
 log:r.hard.log.length < 4294967
 snap:r.hard.snap.length≤4294967296
 base:0≤r.hard.base∧r.hard.base≤1099511627776
 term:0≤r.hard.term∧r.hard.term≤1099511627776
 round:0≤r.round∧r.round≤1099511627776
 quiet:0≤r.quiet∧r.quiet≤1099511627776
 wait:0≤r.wait∧r.wait≤1099511627776
 next:∀ i,i < 7→0≤r.next.at i∧r.next.at i≤1099511627776
 silent:∀ i,i < 7→0≤r.silent.at i∧r.silent.at i≤1099511627776
 reads:r.reads.length≤1000
abbrev std0 (r:Rft):Rft:={ r with hard:={ r.hard with term:=r.hard.term+1,vote:=r.id },role:=2,votes:=shl 1 r.id,lead:=-1 }
noncomputable abbrev stdR (r:Rft):Rft:={ std0 r with wait:=delay (zab (std0 r)) r.id }
noncomputable def ze2 (r:Rft):Rft:=if r.hard.term=1099511627776 then fallR r r.hard.term (-1) else if zak (zab (stdR r)) (shl 1 r.id)=true then leadR (stdR r) else stdR r
noncomputable def zf6 (r:Rft):List (List PV):=if r.hard.term=1099511627776 then [] else if zak (zab (stdR r)) (shl 1 r.id)=true then (allL (leadR (stdR r))).map (zar (leadR (stdR r))) else (votL (stdR r)).map (askM (stdR r) 3 (r.hard.term+1))
theorem zdh (r:Rft) (t l:Int):(fallR r t l).hard.snap=r.hard.snap:=by unfold fallR;split<;>rfl
theorem zce (r:Rft) (t l:Int):(fallR r t l).hard.log=r.hard.log:=by unfold fallR;split<;>rfl
theorem zkc (r : Rft) (hf : Fit r) (out : List (List PV)) (ho : out.length ≤ 4000000) :
    CtrE Tryz.prog 124 [.pt 9990 0] [(9990,repI r out)] (obI r out) (.tu []) [(9990,repX (ze2 r) (out++zf6 r))] obX:=by
 have hm:r.hard.log.length≤maxLen:=zad (by have:=hf.log;omega)
 have kf:=c_fall r hm out r.hard.term (-1)
 have kb:=zym { r with hard:={ r.hard with term:=r.hard.term+1 } } out hf.id
 have kc:=zdp (std0 r) hm
 have kd:=zl1 (zab (std0 r)) r.id
 have kw:=zmu (stdR r) hm
 have kl:=zxp (stdR r) hf.id hf.log hf.snap hf.base hf.round out ho
 have ka:=zqe (stdR r) hm out ho 3 (r.hard.term+1)
 unfold ze2 zf6
 have hT:=hf.term
 refine zaj Tryz.func124 ?_;conv=>whnf
 refine tS ?_ ?_<;>intro h
 ·have h:r.hard.term=1099511627776:=h
  rw [if_pos h,if_pos h,List.append_nil]
  refine tE ([(9990,9990)],[(9990,9990),(9991,9991),(9992,9992),(9993,9993)],[(2,3000)]) kf ?_
  (refine tV 9 9990 ?_;refine tV 10 9991 ?_;refine tV 39 3000 ?_;refine tV 40 9993 ?_;refine zcm [(9990,9990),(9991,9991),(9992,9992),(9993,9993)] [] ?_;(conv=>whnf);(refine tWK ?_;and_intros<;>try exact ⟨⟩))
  all_goals first | rfl | exact .inl rfl | (rw [zdh];exact .inl rfl) | (rw [zce];exact .inl rfl) | trace_state
 ·have h:¬ r.hard.term=1099511627776:=h
  rw [if_neg h,if_neg h]
  have ew:IntKind.i64.wrap (r.hard.term+1)=r.hard.term+1:=zaf (by omega) (by omega)
  rw [ew]
  conv=>whnf
  refine tE0 ([(9990,9990)],[(9990,9990),(9991,9991),(9992,9992),(9993,9993)],[(999999,0)]) kb ?_
  refine tO ?_
  refine tO ?_
  refine tO ?_
  refine tCE kc ?_
  refine tC kd ?_
  refine tO ?_
  refine tO ?_
  refine tO ?_
  cases hq:zak (zab (stdR r)) (shl 1 r.id) with
  | true =>
   rw [if_pos rfl,if_pos rfl]
   have kw:=kw
   rw [show zak (zab (stdR r)) (stdR r).votes=true from hq] at kw
   refine tCE kw ?_
   refine tE ([(9990,9990)],[(9990,9990),(9991,9991),(9992,9992),(9993,9993)],[]) kl ?_
   (refine zcm [(9990,9990),(9991,9991),(9992,9992),(9993,9993)] [] ?_;(conv=>whnf);(refine tWK ?_;and_intros<;>try exact ⟨⟩))
   all_goals first | rfl | exact .inl rfl | (rw [zdh];exact .inl rfl) | (rw [zce];exact .inl rfl) | trace_state
  | false =>
   rw [if_neg (by decide),if_neg (by decide)]
   have kw:=kw
   rw [show zak (zab (stdR r)) (stdR r).votes=false from hq] at kw
   refine tCE kw ?_
   refine tE ([(9990,9990)],[(9990,9990),(9991,9991),(9992,9992),(9993,9993)],[(1,4000)]) ka ?_
   (refine tV 9 9990 ?_;refine tV 10 9991 ?_;refine tV 39 9992 ?_;refine tV 40 4000 ?_;refine zcm [(9990,9990),(9991,9991),(9992,9992),(9993,9993)] [] ?_;(conv=>whnf);(refine tWK ?_;and_intros<;>try exact ⟨⟩))
   all_goals first | rfl | exact .inl rfl | (rw [zdh];exact .inl rfl) | (rw [zce];exact .inl rfl) | trace_state
abbrev tq (r:Rft):Rft:={ r with quiet:=farM (r.quiet+1) }
abbrev zeroM (n:Int):Int:=if 0 > n then 0 else n
abbrev tw (r:Rft):Rft:={ tq r with wait:=zeroM (r.wait - 1) }
abbrev ta (r:Rft):Rft:={ tw r with role:=1,lead:=-1,votes:=shl 1 r.id }
noncomputable abbrev taR (r:Rft):Rft:={ ta r with wait:=delay (zab (ta r)) r.id }
noncomputable abbrev zbx (r:Rft):Bool:=bitB (bor (zab r).full (zab r).wit) r.id
noncomputable def tickR (r:Rft):Rft :=
 if zbx r=false then tq r else if 0 < zeroM (r.wait - 1) then tw r else
 if zak (zab (taR r)) (shl 1 r.id)=true then ze2 (taR r) else taR r
noncomputable def tickO (r:Rft):List (List PV) :=
 if zbx r=false then [] else if 0 < zeroM (r.wait - 1) then [] else
 if zak (zab (taR r)) (shl 1 r.id)=true then zf6 (taR r) else if r.hard.term < 1099511627776 then (votL (taR r)).map (askM (taR r) 1 (r.hard.term+1)) else []
theorem zd6 (c:Conf) {i:Int} (h:0≤i∧i < 7):0≤delay c i∧delay c i≤32:=by
 unfold delay
 have e1:IntKind.i64.wrap (2 * i)=2 * i:=zaf (by omega) (by omega)
 have e2:IntKind.i64.wrap (7+i)=7+i:=zaf (by omega) (by omega)
 have e3:IntKind.i64.wrap (2 * (7+i))=2 * (7+i):=zaf (by omega) (by omega)
 have e4:IntKind.i64.wrap (6+2 * i)=6+2 * i:=zaf (by omega) (by omega)
 have e5:IntKind.i64.wrap (6+2 * (7+i))=6+2 * (7+i):=zaf (by omega) (by omega)
 rw [e1,e2,e3,e4,e5]
 split
 ·omega
 ·split<;>omega
theorem c_tick (r : Rft) (hf : Fit r) (out : List (List PV)) (ho : out.length ≤ 4000000) :
    CtrE Tryz.prog 46 [.pt 9990 0] [(9990,repI r out)] (obI r out) (.tu []) [(9990,repX (tickR r) (out++tickO r))] obX:=by
 have hm:r.hard.log.length≤maxLen:=zad (by have:=hf.log;omega)
 have kv:=zor (tq r) hm
 have kb:=zym (tw r) out hf.id
 have kc:=zdp (ta r) hm
 have kd:=zl1 (zab (ta r)) r.id
 have kw:=zmu (taR r) hm
 have hq1:0≤farM (r.quiet+1)∧farM (r.quiet+1)≤1099511627776:=by have:=hf.quiet;unfold farM;split<;>omega
 have kst:=zkc (taR r) { id:=hf.id,log:=hf.log,snap:=hf.snap,base:=hf.base,term:=hf.term,round:=hf.round,quiet:=hq1,wait:=by have:=zd6 (zab (ta r)) hf.id;show 0≤delay (zab (ta r)) r.id∧delay (zab (ta r)) r.id≤1099511627776;omega,next:=hf.next,silent:=hf.silent,reads:=hf.reads } out ho
 have kca:=zqe (taR r) hm out ho 1 (r.hard.term+1)
 have hT:=hf.term
 have hQ:=hf.quiet
 have hW:=hf.wait
 have ew1:IntKind.i64.wrap (r.quiet+1)=r.quiet+1:=zaf (by omega) (by omega)
 have ew2:IntKind.i64.wrap (r.wait - 1)=r.wait - 1:=zaf (by omega) (by omega)
 have ew3:IntKind.i64.wrap (r.hard.term+1)=r.hard.term+1:=zaf (by omega) (by omega)
 unfold tickR tickO
 refine zaj Tryz.func46 ?_;conv=>whnf
 rw [ew1]
 refine tO ?_
 refine tO ?_
 refine tO ?_
 cases hv:zbx r with
 | false =>
  rw [if_pos rfl,if_pos rfl,List.append_nil]
  rw [show bitB (bor (zab (tq r)).full (zab (tq r)).wit) (tq r).id=false from hv] at kv
  refine tCE kv ?_
  exact eV
 | true =>
  rw [if_neg (show ¬ true=false by decide),if_neg (show ¬ true=false by decide)]
  rw [show bitB (bor (zab (tq r)).full (zab (tq r)).wit) (tq r).id=true from hv] at kv
  refine tCE kv ?_
  rw [ew2]
  refine tS ?_ ?_<;>intro h
  ·have h:0 < zeroM (r.wait - 1):=h
   rw [if_pos h,if_pos h,List.append_nil]
   exact eV
  ·have h:¬ 0 < zeroM (r.wait - 1):=h
   rw [if_neg h,if_neg h]
   refine tE0 ([(9990,9990)],[(9990,9990),(9991,9991),(9992,9992),(9993,9993)],[(999999,0)]) kb ?_
   refine tO ?_
   refine tO ?_
   refine tO ?_
   refine tCE kc ?_
   refine tC kd ?_
   refine tO ?_
   refine tO ?_
   refine tO ?_
   cases hq:zak (zab (taR r)) (shl 1 r.id) with
   | true =>
    rw [if_pos rfl,if_pos rfl]
    have kw:=kw
    rw [show zak (zab (taR r)) (taR r).votes=true from hq] at kw
    refine tCE kw ?_
    refine tE ([(9990,9990)],[(9990,9990),(9991,9991),(9992,9992),(9993,9993)],[]) kst ?_
    exact eX [(9990,9990),(9991,9991),(9992,9992),(9993,9993)]
   | false =>
    rw [if_neg (show ¬ false=true by decide),if_neg (show ¬ false=true by decide)]
    have kw:=kw
    rw [show zak (zab (taR r)) (taR r).votes=false from hq] at kw
    refine tCE kw ?_
    refine tS ?_ ?_<;>intro h
    ·have h:r.hard.term < 1099511627776:=h
     rw [if_pos h]
     rw [ew3]
     conv=>whnf
     refine tE ([(9990,9990)],[(9990,9990),(9991,9991),(9992,9992),(9993,9993)],[(1,4000)]) kca ?_
     (refine tV 9 9990 ?_;refine tV 10 9991 ?_;refine tV 39 9992 ?_;refine tV 40 4000 ?_;exact eX [(9990,9990),(9991,9991),(9992,9992),(9993,9993)])
    ·have h:¬ r.hard.term < 1099511627776:=h
     rw [if_neg h,List.append_nil]
     exact eV
theorem zda {g x:Int} (h:inR g x=true):0≤x∧x≤g:=of_decide_eq_true h
theorem zrq {g:Int}{a:Arr} (h:arrR g a=true):∀ i,i < 7→0≤a.at i∧a.at i≤g:=by
 unfold arrR at h
 simp only [Bool.and_eq_true] at h
 obtain ⟨h0,h1,h2,h3,h4,h5,h6⟩:=h
 intro i hi
 rcases (by omega:i=0∨i=1∨i=2∨i=3∨i=4∨i=5∨i=6) with rfl | rfl | rfl | rfl | rfl | rfl | rfl
 ·exact zda h0
 ·exact zda h1
 ·exact zda h2
 ·exact zda h3
 ·exact zda h4
 ·exact zda h5
 ·exact zda h6
structure Rgt (r:Rft):Prop where
 hard:hardB r.hard=true
 id:0≤r.id∧r.id < 7
 com:r.hard.base≤r.commit∧r.commit≤lastI r.hard
 role:0≤r.role∧r.role≤3
 lead:-1≤r.lead∧r.lead < 7
 wait:0≤r.wait∧r.wait≤100
 quiet:0≤r.quiet∧r.quiet≤1099511627776
 round:0≤r.round∧r.round≤1099511627776
 votes:0≤r.votes∧r.votes≤127
 next:∀ i,i < 7→0≤r.next.at i∧r.next.at i≤1099511627776
 mtch:∀ i,i < 7→0≤r.mtch.at i∧r.mtch.at i≤lastI r.hard
 silent:∀ i,i < 7→0≤r.silent.at i∧r.silent.at i≤1099511627776
 reads:rdsB r=true
 own:r.role=3→r.lead=r.id
theorem zd8 {r:Rft} (h:zbu r=true):Rgt r:=by
 unfold zbu at h
 simp only [Bool.and_eq_true,decide_eq_true_eq] at h
 obtain ⟨h1,h2,h3,h4,h5,h6,h7,h8,⟨h9,h10⟩,h11,h12,h13,h14,h15,h16⟩:=h
 have h2:=zda h2
 exact ⟨h1,by omega,⟨h3,h4⟩,zda h5,⟨h6,h7⟩,zda h8,zda h9,zda h10,zda h11,zrq h12,zrq h13,zrq h14,h15,fun e=>by rw [if_pos e] at h16;exact of_decide_eq_true h16⟩
theorem Rgt.fit {r:Rft} (h:Rgt r) (hm:r.hard.log.length < 4294967):Fit r:=by
 have hA:=zaq h.hard
 refine ⟨h.id,hm,?_,hA.1.b,hA.1.t,h.round,h.quiet,⟨h.wait.1,by have:=h.wait.2;omega⟩,h.next,h.silent,?_⟩
 ·have:=h.hard
  unfold hardB at this
  simp only [Bool.and_eq_true,decide_eq_true_eq] at this
  omega
 ·have:=h.reads
  unfold rdsB at this
  split at this
  ·cases this
  ·omega
theorem c_Tick (r : Rft) (hr : zbu r = true) (hm : r.hard.log.length < 4294967) (hn : r.role ≠ 3) :
    Ctr Tryz.prog 12 [.ag r.enc] (.tu [.ag (tickR r).enc,.sl 16 (tickO r),iv 0]) []:=by
 have hg:=zd8 hr
 have hf:=hg.fit hm
 have ko:=c_of r hf.snap (by omega) (by have:=hf.reads;omega) hr
 have kt:=c_tick r hf [] (by decide)
 refine sBody Tryz.func12 ?_;conv=>whnf
 refine tE ([(28,500)],[],[(0,600),(1,601),(2,602),(3,603)]) ko ?_
 refine tS ?_ ?_<;>intro h
 ·exact absurd h hn
 ·refine tER ([(9990,500)],[(9990,600),(9991,601),(9992,602),(9993,603)],[]) kt ?_
  exact zaa rfl rfl
noncomputable abbrev rNew0 (id:Int) (h:Hrd):Rft:=⟨id,h,h.base,0,-1,0,0,0,0,zA,zA,zA,[]⟩
noncomputable abbrev newR (id:Int) (h:Hrd):Rft:={ rNew0 id h with wait:=delay (zab (rNew0 id h)) id }
theorem c_New (id : Int) (hid : 0 ≤ id ∧ id < 7) (a : Hrd) (hm : a.log.length ≤ 4294967) (hh : hardB a = true) :
    Ctr Tryz.prog 53 [iv id,.ag a.enc] (.tu [.ag (newR id a).enc,iv 0]) []:=by
 have kc:=zgv a (zad (by omega))
 rw [hh,if_pos rfl] at kc
 have hA:=zaq hh
 have hs:a.snap.length≤4294967296:=by
  have:=hh
  unfold hardB at this
  simp only [Bool.and_eq_true,decide_eq_true_eq] at this
  omega
 have c1:=(zcn a.snap hs).frz (zba (b:=false) (List.Mem.head _) rfl)
 have c2:=(zb7 a.log (by omega)).frz (zba (b:=false) (List.Mem.head _) rfl)
 have kv:=zdp (rNew0 id a) (zad (by show a.log.length≤_;omega))
 have kd:=zl1 (zab (rNew0 id a)) id
 refine sBody Tryz.func53 ?_;conv=>whnf
 refine tC kc ?_
 refine tS ?_ ?_<;>intro h
 ·omega
 refine tS ?_ ?_<;>intro h
 ·omega
 refine tC c1 ?_
 refine tN0 ?_
 refine tC c2 ?_
 refine tN0 ?_
 refine tCD kv ?_
 refine tC kd ?_
 refine za7 [] (by intro q hq;cases hq) (zat ⟨zao ?_,zae _ rfl,rfl⟩)
 conv=>whnf
 repeat' (refine And.intro ?_ ?_)
 all_goals first | exact True.intro | rfl | (with_reducible exact .inl rfl) | exact .inr (.inl ⟨rfl,rfl⟩) | exact .inl rfl | trace_state
theorem zfn (r : Rft) (out : List (List PV)) (ho : out.length ≤ 4294967) (m : Mg) (k ix rd : Int) (y : Bool) :
    CtrE Tryz.prog 131 [.pt 9990 0,.ag m.enc,.ag (msgV k 0 0 0 ix 0 0 rd y .nl cz .nl)] [(9990,repI r out)] (obI r out) (.tu []) [(9990,repM r (out++[msgV k r.id m.frm r.hard.term ix 0 0 rd y .nl cz .nl]))] (obM r (out++[msgV k r.id m.frm r.hard.term ix 0 0 rd y .nl cz .nl])):=by
 have ks:=zop r out ho k 0 0 0 ix 0 0 rd y cz m.frm r.hard.term
 refine zaj Tryz.func131 ?_;conv=>whnf
 refine tE ([(9990,9990)],[(9990,9990),(9991,9991),(9992,9992),(9993,9993)],[(1,900)]) ks ?_
 exact eX [(9990,9990),(9991,9991),(9992,9992),(9993,9993),(1,900)]
theorem zyc (r : Rft) (out : List (List PV)) (ho : out.length ≤ 4294967) (m : Mg) (k ix rd : Int) (y : Bool) :
    CtrE Tryz.prog 131 [.pt 9990 0,.ag m.enc,.ag (msgV k 0 0 0 ix 0 0 rd y .nl cz .nl)] [(9990,repFI r out)] [(9990,rdO r),(9991,some (false,16,out))] (.tu []) [(9990,repFM r (out++[msgV k r.id m.frm r.hard.term ix 0 0 rd y .nl cz .nl]))] [(9990,rdO r),(9991,none),(1,some (false,16,out++[msgV k r.id m.frm r.hard.term ix 0 0 rd y .nl cz .nl]))]:=by
 have ks:=ztt r out ho k 0 0 0 ix 0 0 rd y cz m.frm r.hard.term
 refine zaj Tryz.func131 ?_;conv=>whnf
 refine tE ([(9990,9990)],[(9990,9990),(9991,9991)],[(1,900)]) ks ?_
 exact eX [(9990,9990),(9991,9991),(1,900)]
noncomputable def zij (r:Rft) (m:Mg):List (List PV):=if asked r m=true then [msgV 2 r.id m.frm m.term 0 0 0 0 true .nl cz .nl] else [msgV 2 r.id m.frm r.hard.term 0 0 0 0 false .nl cz .nl]
theorem c_asked (r : Rft) (hm : r.hard.log.length ≤ maxLen) (out : List (List PV)) (ho : out.length ≤ 4294967) (m : Mg) :
    CtrE Tryz.prog 128 [.pt 9990 0,.ag m.enc] [(9990,repI r out)] (obI r out) (.tu []) [(9990,repX r (out++zij r m))] obX:=by
 have ka:=c_Asked r hm m
 have k1:=zop r out ho 2 0 0 0 0 0 0 0 true cz m.frm m.term
 have k2:=zop r out ho 2 0 0 0 0 0 0 0 false cz m.frm r.hard.term
 unfold zij
 cases hq:asked r m with
 | true =>
  rw [hq] at ka
  rw [if_pos rfl]
  refine zaj Tryz.func128 ?_;conv=>whnf
  refine tO ?_
  refine tO ?_
  refine tO ?_
  refine tCE ka ?_
  refine tE ([(9990,9990)],[(9990,9990),(9991,9991),(9992,9992),(9993,9993)],[(1,900)]) k1 ?_
  (refine tV 9 9990 ?_;refine tV 10 9991 ?_;refine tV 39 9992 ?_;refine tV 40 900 ?_;exact eX [(9990,9990),(9991,9991),(9992,9992),(9993,9993)])
 | false =>
  rw [hq] at ka
  rw [if_neg (by decide)]
  refine zaj Tryz.func128 ?_;conv=>whnf
  refine tO ?_
  refine tO ?_
  refine tO ?_
  refine tCE ka ?_
  refine tE ([(9990,9990)],[(9990,9990),(9991,9991),(9992,9992),(9993,9993)],[(1,900)]) k2 ?_
  (refine tV 9 9990 ?_;refine tV 10 9991 ?_;refine tV 39 9992 ?_;refine tV 40 900 ?_;exact eX [(9990,9990),(9991,9991),(9992,9992),(9993,9993)])
noncomputable def zhb (r:Rft) (m:Mg):List (List PV):=if m.kind=3 then [msgV 4 r.id m.frm r.hard.term 0 0 0 0 false .nl cz .nl] else if m.kind=5∨m.kind=7 then [msgV 6 r.id m.frm r.hard.term 0 0 0 0 false .nl cz .nl] else []
theorem c_elder (r : Rft) (out : List (List PV)) (ho : out.length ≤ 4294967) (m : Mg) :
    CtrE Tryz.prog 129 [.pt 9990 0,.ag m.enc] [(9990,repI r out)] (obI r out) (.tu []) [(9990,repX r (out++zhb r m))] obX:=by
 have k4:=zfn r out ho m 4 0 0 false
 have k6:=zfn r out ho m 6 0 0 false
 unfold zhb
 refine zaj Tryz.func129 ?_;conv=>whnf
 refine tS ?_ ?_<;>intro h
 ·have h:m.kind=3:=h
  rw [if_pos h]
  refine tE ([(9990,9990)],[(9990,9990),(9991,9991),(9992,9992),(9993,9993)],[(1,900)]) k4 ?_
  (refine tV 9 9990 ?_;refine tV 10 9991 ?_;refine tV 39 9992 ?_;refine tV 40 900 ?_;exact eX [(9990,9990),(9991,9991),(9992,9992),(9993,9993)])
 ·have h3:¬ m.kind=3:=h
  rw [if_neg h3]
  refine tS ?_ ?_<;>intro h
  ·have h:m.kind=5:=h
   rw [if_pos (.inl h)]
   refine tK ?_
   refine tE ([(9990,9990)],[(9990,9990),(9991,9991),(9992,9992),(9993,9993)],[(1,900)]) k6 ?_
   (refine tV 9 9990 ?_;refine tV 10 9991 ?_;refine tV 39 9992 ?_;refine tV 40 900 ?_;exact eX [(9990,9990),(9991,9991),(9992,9992),(9993,9993)])
  ·have h5:¬ m.kind=5:=h
   refine tS ?_ ?_<;>intro h
   ·have h:m.kind=7:=h
    rw [if_pos (.inr h)]
    refine tE ([(9990,9990)],[(9990,9990),(9991,9991),(9992,9992),(9993,9993)],[(1,900)]) k6 ?_
    (refine tV 9 9990 ?_;refine tV 10 9991 ?_;refine tV 39 9992 ?_;refine tV 40 900 ?_;exact eX [(9990,9990),(9991,9991),(9992,9992),(9993,9993)])
   ·have h7:¬ m.kind=7:=h
    rw [if_neg (by rintro (h | h);exact h5 h;exact h7 h),List.append_nil]
    exact eV
theorem c_fallF (r : Rft) (hm : r.hard.log.length ≤ maxLen) (out : List (List PV)) (term lead : Int) :
    CtrE Tryz.prog 118 [.pt 9990 0,iv term,iv lead] [(9990,repFI r out)] [(9990,rdO r),(9991,some (false,16,out))] (.tu [])
     [(9990,repV (fallR r term lead) (.sl 1 (r.hard.snap.map encB)) (.sl 16 (r.hard.log.map Ent.enc)) (.ow 2 0 0) (.ow 9991 0 out.length))] [(9990,rdO r),(9991,some (false,16,out)),(2,some (false,13,[]))]:=by
 have kc:=zdp { r with role:=0,lead:=lead,votes:=0,reads:=[],next:=zA,mtch:=zA,silent:=zA } hm
 have kd:=zl1 (zab r) r.id
 unfold fallR
 refine zaj Tryz.func118 ?_;conv=>whnf
 refine tCD kc ?_
 refine tC kd ?_
 refine tS ?_ ?_<;>intro h
 ·rw [if_pos (by omega)]
  refine zdv 9990 39 3000 13 _ rfl rfl rfl ?_
  conv=>whnf
  exact eX [(9990,9990),(9991,9991),(2,3000)]
 ·rw [if_neg (by omega)]
  refine zdv 9990 39 3000 13 _ rfl rfl rfl ?_
  conv=>whnf
  exact eX [(9990,9990),(9991,9991),(2,3000)]
noncomputable abbrev folR (r:Rft) (m:Mg):Rft:={ fallR r r.hard.term m.frm with quiet:=0 }
noncomputable abbrev folM (r:Rft) (m:Mg) (ix:Int) (y:Bool):List PV:=msgV 6 (folR r m).id m.frm (folR r m).hard.term ix 0 0 m.round y .nl cz .nl
theorem zet (r:Rft) (l:Int):(fallR r r.hard.term l).hard=r.hard:=by unfold fallR;rw [if_neg (by omega)]
theorem zed (r : Rft) (hm : r.hard.log.length ≤ maxLen) (out : List (List PV)) (t l : Int) :
    CtrE Tryz.prog 118 [.pt 9990 0,iv t,iv l] [(9990,repI r out)] (obI r out) (.tu [])
     [(9990,repV (fallR r t l) (snW (fallR r t l) 9990) (lgW (fallR r t l) 9991) (rdW (fallR r t l) 2) (.ow 9993 0 out.length))] [(9990,snO (fallR r t l)),(9991,lgO (fallR r t l)),(9992,rdO r),(9993,some (false,16,out)),(2,rdO (fallR r t l))]:=by
 have k:=c_fall r hm out t l
 unfold snW lgW snO lgO
 rw [zdh,zce]
 exact k
theorem z4n (r : Rft) (hm : r.hard.log.length ≤ maxLen) (out : List (List PV)) (t l : Int) :
    CtrE Tryz.prog 118 [.pt 9990 0,iv t,iv l] [(9990,repFI r out)] [(9990,rdO r),(9991,some (false,16,out))] (.tu [])
     [(9990,repV (fallR r t l) (.sl 1 ((fallR r t l).hard.snap.map encB)) (.sl 16 ((fallR r t l).hard.log.map Ent.enc)) (rdW (fallR r t l) 2) (.ow 9991 0 out.length))] [(9990,rdO r),(9991,some (false,16,out)),(2,rdO (fallR r t l))]:=by
 have k:=c_fallF r hm out t l
 rw [zdh,zce]
 exact k
theorem zth (r : Rft) (hm : r.hard.log.length ≤ maxLen) (out : List (List PV)) (ho : out.length ≤ 4294967) (m : Mg) (ix : Int) (y : Bool) :
    CtrE Tryz.prog 188 [.pt 9990 0,.ag m.enc,.ag (msgV 6 0 0 0 ix 0 0 0 y .nl cz .nl)] [(9990,repFI r out)] [(9990,rdO r),(9991,some (false,16,out))] (.tu [])
     [(9990,repX (folR r m) (out++[folM r m ix y]))] [(9990,none),(9991,none)]:=by
 have kf:=z4n r hm out r.hard.term m.frm
 have ka:=zyc (folR r m) out ho m 6 ix m.round y
 unfold folM
 unfold folR at *
 generalize fallR r r.hard.term m.frm=x at *
 refine zaj Tryz.func188 ?_;conv=>whnf
 refine tE ([(9990,9990)],[(9990,9990),(9991,9991)],[(2,3000)]) kf ?_
 refine tE ([(9990,9990)],[(9990,3000),(9991,9991)],[(1,4000)]) ka ?_
 (refine tV 39 3000 ?_;refine tV 40 4000 ?_;exact eX [(9990,9990),(9991,9991)])
theorem zzr (r : Rft) (hm : r.hard.log.length ≤ maxLen) (out : List (List PV)) (ho : out.length ≤ 4294967) (m : Mg) (ix : Int) (y : Bool) :
    CtrE Tryz.prog 188 [.pt 9990 0,.ag m.enc,.ag (msgV 6 0 0 0 ix 0 0 0 y .nl cz .nl)] [(9990,repI r out)] (obI r out) (.tu [])
     [(9990,repX (folR r m) (out++[folM r m ix y]))] obX:=by
 have kf:=zed r hm out r.hard.term m.frm
 have ka:=zfn (folR r m) out ho m 6 ix m.round y
 unfold folM
 unfold folR at *
 generalize fallR r r.hard.term m.frm=x at *
 refine zaj Tryz.func188 ?_;conv=>whnf
 refine tE ([(9990,9990)],[(9990,9990),(9991,9991),(9992,9992),(9993,9993)],[(2,3000)]) kf ?_
 refine tE ([(9990,9990)],[(9990,9990),(9991,9991),(9992,3000),(9993,9993)],[(1,4000)]) ka ?_
 (refine tV 9 9990 ?_;refine tV 10 9991 ?_;refine tV 39 3000 ?_;refine tV 40 4000 ?_;exact eX [(9990,9990),(9991,9991),(9992,9992),(9993,9993)])
abbrev setH (r:Rft) (h:Hrd) (c:Int):Rft:={ r with hard:=h,commit:=c }
noncomputable def appE (r:Rft) (m:Mg):Int:=if r.role=3 then 0 else growE r.hard r.commit m
noncomputable def appR (r:Rft) (m:Mg):Rft:=if r.role=3 then r else if growE r.hard r.commit m=0 then folR (setH r (growO r.hard r.commit m).h (growO r.hard r.commit m).c) m else r
noncomputable def appO (r:Rft) (m:Mg):List (List PV):=if r.role=3 then [] else if growE r.hard r.commit m=0 then [folM (setH r (growO r.hard r.commit m).h (growO r.hard r.commit m).c) m (growO r.hard r.commit m).i (growO r.hard r.commit m).yes] else []
theorem zul (r : Rft) (hf : Fit r) (out : List (List PV)) (ho : out.length ≤ 4294967) (m : Mg) (hm : m.entries.length ≤ 4294967)
    (hl:growE r.hard r.commit m=0→(growO r.hard r.commit m).h.log.length≤maxLen) :
    CtrE Tryz.prog 133 [.pt 9990 0,.ag m.enc] [(9990,repI r out)] (obI r out) (iv (appE r m)) [(9990,repX (appR r m) (out++appO r m))] obX:=by
 have hb:=hf.base
 have hl0:=hf.log
 have kg:=c_growV r.hard hf.snap (by omega) (by unfold isI;omega) r.commit m hm
 unfold appE appR appO
 refine zaj Tryz.func133 ?_;conv=>whnf
 refine tS ?_ ?_<;>intro h
 ·have h:r.role=3:=h
  rw [if_pos h,if_pos h,if_pos h,List.append_nil]
  exact eV
 ·have h:¬ r.role=3:=h
  rw [if_neg h,if_neg h,if_neg h]
  refine tO ?_
  refine tO ?_
  by_cases he:growE r.hard r.commit m=0
  ·have kf:=zth (setH r (growO r.hard r.commit m).h (growO r.hard r.commit m).c) (hl he) out ho m (growO r.hard r.commit m).i (growO r.hard r.commit m).yes
   rw [if_pos he,if_pos he,he]
   rw [(zgg he).2.2] at kg
   refine tCE kg ?_
   refine tN0 ?_
   refine tE ([(9990,9990)],[(9990,9992),(9991,9993)],[]) kf ?_
   exact eX [(9990,9990),(9991,9991),(9992,9992),(9993,9993)]
  ·rw [if_neg he,if_neg he,List.append_nil]
   rw [(zdo he).2.2] at kg
   refine tCE kg ?_
   refine tS ?_ ?_<;>intro h
   ·exact eV
   ·exact absurd (by first | exact h | (simpa using h)) he
noncomputable abbrev insEE (r:Rft) (m:Mg):Int:=instE r.hard m.index m.logTerm m.conf m.snap
noncomputable abbrev insHH (r:Rft) (m:Mg):Hrd:=instH r.hard m.index m.logTerm m.conf m.snap
noncomputable def insE (r:Rft) (m:Mg):Int:=if r.role=3 then 0 else if r.commit < m.index then insEE r m else 0
noncomputable def insR (r:Rft) (m:Mg):Rft:=if r.role=3 then r else if r.commit < m.index then (if insEE r m=0 then folR (setH r (insHH r m) m.index) m else r) else folR r m
noncomputable def insO (r:Rft) (m:Mg):List (List PV):=if r.role=3 then [] else if r.commit < m.index then (if insEE r m=0 then [folM (setH r (insHH r m) m.index) m m.index true] else []) else [folM r m r.commit true]
theorem zqw (r : Rft) (hf : Fit r) (out : List (List PV)) (ho : out.length ≤ 4294967) (m : Mg) (hm : m.snap.length ≤ 4294967296) (hi : isI m.index)
    (hl:(insHH r m).log.length≤maxLen) :
    CtrE Tryz.prog 134 [.pt 9990 0,.ag m.enc] [(9990,repI r out)] (obI r out) (iv (insE r m)) [(9990,repX (insR r m) (out++insO r m))] obX:=by
 have hb:=hf.base
 have hl0:=hf.log
 have kg:=zva r.hard (by omega) (by unfold isI;omega) m.index hi m.logTerm m.conf m.snap hm
 unfold insE insR insO
 refine zaj Tryz.func134 ?_;conv=>whnf
 refine tS ?_ ?_<;>intro h
 ·have h:r.role=3:=h
  rw [if_pos h,if_pos h,if_pos h,List.append_nil]
  exact eV
 ·have h:¬ r.role=3:=h
  rw [if_neg h,if_neg h,if_neg h]
  refine tS ?_ ?_<;>intro h
  ·have h:r.commit < m.index:=by omega
   rw [if_pos h,if_pos h,if_pos h]
   refine tO ?_
   refine tO ?_
   by_cases he:insEE r m=0
   ·have kf:=zth (setH r (insHH r m) m.index) hl out ho m m.index true
    rw [if_pos he,if_pos he,he]
    rw [(zdt he).2.2] at kg
    refine tCE kg ?_
    refine tN0 ?_
    refine tE ([(9990,9990)],[(9990,9992),(9991,9993)],[]) kf ?_
    exact eX [(9990,9990),(9991,9991),(9992,9992),(9993,9993)]
   ·rw [if_neg he,if_neg he,List.append_nil]
    rw [(zb9 he).2.2] at kg
    refine tCE kg ?_
    refine tS ?_ ?_<;>intro h
    ·exact eV
    ·exact absurd (by first | exact h | (simpa using h)) he
  ·have h:¬ r.commit < m.index:=by omega
   rw [if_neg h,if_neg h,if_neg h]
   have kf:=zzr r (zad (by omega)) out ho m r.commit true
   refine tE ([(9990,9990)],[(9990,9990),(9991,9991),(9992,9992),(9993,9993)],[]) kf ?_
   exact eX [(9990,9990),(9991,9991),(9992,9992),(9993,9993)]
abbrev lrnI (r:Rft) (m:Mg):Int:=if lastI r.hard < m.index then lastI r.hard else m.index
abbrev lrnNx (r:Rft) (m:Mg):Arr:=r.next.put m.frm.toNat (nxN (r.next.at m.frm.toNat) (r.mtch.at m.frm.toNat) m.yes (lrnI r m))
abbrev lrnMt (r:Rft) (m:Mg):Arr:=r.mtch.put m.frm.toNat (nxM (r.mtch.at m.frm.toNat) m.yes (lrnI r m))
noncomputable def zb8 (r:Rft) (m:Mg):Rft:=if r.role=3 then { r with silent:=r.silent.put m.frm.toNat 0,next:=lrnNx r m,mtch:=lrnMt r m,reads:=r.reads.map (ack1 m.frm m.round),commit:=zc9 r.hard r.commit (lrnMt r m) } else r
theorem z1e (r : Rft) (hf : Fit r) (out : List (List PV)) (m : Mg) (hfr : 0 ≤ m.frm ∧ m.frm < 7) (hi : 0 ≤ m.index ∧ m.index ≤ 1099511627776)
    (hmt:∀ i,i < 7→0≤r.mtch.at i∧r.mtch.at i≤lastI r.hard) :
    CtrE Tryz.prog 135 [.pt 9990 0,.ag m.enc] [(9990,repI r out)] (obI r out) (.tu []) [(9990,repX (zb8 r m) out)] obX:=by
 have hb:=hf.base
 have hl0:=hf.log
 have hm:r.hard.log.length≤maxLen:=zad (by omega)
 have hla:lastI r.hard=r.hard.base+r.hard.log.length:=zax hb.1 (by omega)
 have kl:=zc1 r.hard hm
 have hn:=hf.next
 have hix:-1152921504606846976≤lrnI r m∧lrnI r m≤1152921504606846976:=by unfold lrnI;split<;>omega
 have kn:=fun (nx mt:Int) h1 h2=>c_gNext nx mt { m with index:=lrnI r m } h1 h2 hix
 have kk:=c_Ack r.reads (by have:=hf.reads;omega) m.frm m.round
 have kc:=fun a:Arr=>zu8 r.hard hm hb.1 (by omega) r.commit a
 unfold zb8
 refine zaj Tryz.func135 ?_;conv=>whnf
 refine tS ?_ ?_<;>intro h
 ·have h:¬ r.role=3:=h
  rw [if_neg h]
  exact eV
 have h:r.role=3:=by first | exact h | exact Classical.byContradiction h
 rw [if_pos h]
 unfold lrnNx lrnMt
 refine tO ?_
 refine tO ?_
 refine tCE kl ?_
 refine ⟨⟨hfr.1,hfr.2⟩,?_⟩
 have hnx:=hn m.frm.toNat (by omega)
 have hmx:=hmt m.frm.toNat (by omega)
 rcases zct hfr with e | e | e | e | e | e | e
 ·have kn:=kn r.next.a0 r.mtch.a0 (by rw [e] at hnx;have hnx:0≤r.next.a0∧r.next.a0≤1099511627776:=hnx;omega) (by rw [e] at hmx;have hmx:0≤r.mtch.a0∧r.mtch.a0≤lastI r.hard:=hmx;omega)
  rw [e]
  conv=>whnf
  refine ⟨⟨hfr.1,hfr.2⟩,?_⟩
  rw [e]
  conv=>whnf
  refine ⟨⟨hfr.1,hfr.2⟩,?_⟩
  rw [e]
  refine tCE kn ?_
  refine ⟨⟨hfr.1,hfr.2⟩,?_⟩
  rw [e]
  conv=>whnf
  refine ⟨⟨hfr.1,hfr.2⟩,?_⟩
  rw [e]
  refine tO ?_
  refine tCE kk ?_
  refine tN1 ?_
  refine tO ?_
  refine tO ?_
  refine tCE (kc ⟨nxM r.mtch.a0 m.yes (lrnI r m),r.mtch.a1,r.mtch.a2,r.mtch.a3,r.mtch.a4,r.mtch.a5,r.mtch.a6⟩) ?_
  (refine tV 9 9990 ?_;refine tV 10 9991 ?_;refine tV 39 1248 ?_;refine tV 40 9993 ?_;exact eX [(9990,9990),(9991,9991),(9992,9992),(9993,9993)])
 ·have kn:=kn r.next.a1 r.mtch.a1 (by rw [e] at hnx;have hnx:0≤r.next.a1∧r.next.a1≤1099511627776:=hnx;omega) (by rw [e] at hmx;have hmx:0≤r.mtch.a1∧r.mtch.a1≤lastI r.hard:=hmx;omega)
  rw [e]
  conv=>whnf
  refine ⟨⟨hfr.1,hfr.2⟩,?_⟩
  rw [e]
  conv=>whnf
  refine ⟨⟨hfr.1,hfr.2⟩,?_⟩
  rw [e]
  refine tCE kn ?_
  refine ⟨⟨hfr.1,hfr.2⟩,?_⟩
  rw [e]
  conv=>whnf
  refine ⟨⟨hfr.1,hfr.2⟩,?_⟩
  rw [e]
  refine tO ?_
  refine tCE kk ?_
  refine tN1 ?_
  refine tO ?_
  refine tO ?_
  refine tCE (kc ⟨r.mtch.a0,nxM r.mtch.a1 m.yes (lrnI r m),r.mtch.a2,r.mtch.a3,r.mtch.a4,r.mtch.a5,r.mtch.a6⟩) ?_
  (refine tV 9 9990 ?_;refine tV 10 9991 ?_;refine tV 39 1248 ?_;refine tV 40 9993 ?_;exact eX [(9990,9990),(9991,9991),(9992,9992),(9993,9993)])
 ·have kn:=kn r.next.a2 r.mtch.a2 (by rw [e] at hnx;have hnx:0≤r.next.a2∧r.next.a2≤1099511627776:=hnx;omega) (by rw [e] at hmx;have hmx:0≤r.mtch.a2∧r.mtch.a2≤lastI r.hard:=hmx;omega)
  rw [e]
  conv=>whnf
  refine ⟨⟨hfr.1,hfr.2⟩,?_⟩
  rw [e]
  conv=>whnf
  refine ⟨⟨hfr.1,hfr.2⟩,?_⟩
  rw [e]
  refine tCE kn ?_
  refine ⟨⟨hfr.1,hfr.2⟩,?_⟩
  rw [e]
  conv=>whnf
  refine ⟨⟨hfr.1,hfr.2⟩,?_⟩
  rw [e]
  refine tO ?_
  refine tCE kk ?_
  refine tN1 ?_
  refine tO ?_
  refine tO ?_
  refine tCE (kc ⟨r.mtch.a0,r.mtch.a1,nxM r.mtch.a2 m.yes (lrnI r m),r.mtch.a3,r.mtch.a4,r.mtch.a5,r.mtch.a6⟩) ?_
  (refine tV 9 9990 ?_;refine tV 10 9991 ?_;refine tV 39 1248 ?_;refine tV 40 9993 ?_;exact eX [(9990,9990),(9991,9991),(9992,9992),(9993,9993)])
 ·have kn:=kn r.next.a3 r.mtch.a3 (by rw [e] at hnx;have hnx:0≤r.next.a3∧r.next.a3≤1099511627776:=hnx;omega) (by rw [e] at hmx;have hmx:0≤r.mtch.a3∧r.mtch.a3≤lastI r.hard:=hmx;omega)
  rw [e]
  conv=>whnf
  refine ⟨⟨hfr.1,hfr.2⟩,?_⟩
  rw [e]
  conv=>whnf
  refine ⟨⟨hfr.1,hfr.2⟩,?_⟩
  rw [e]
  refine tCE kn ?_
  refine ⟨⟨hfr.1,hfr.2⟩,?_⟩
  rw [e]
  conv=>whnf
  refine ⟨⟨hfr.1,hfr.2⟩,?_⟩
  rw [e]
  refine tO ?_
  refine tCE kk ?_
  refine tN1 ?_
  refine tO ?_
  refine tO ?_
  refine tCE (kc ⟨r.mtch.a0,r.mtch.a1,r.mtch.a2,nxM r.mtch.a3 m.yes (lrnI r m),r.mtch.a4,r.mtch.a5,r.mtch.a6⟩) ?_
  (refine tV 9 9990 ?_;refine tV 10 9991 ?_;refine tV 39 1248 ?_;refine tV 40 9993 ?_;exact eX [(9990,9990),(9991,9991),(9992,9992),(9993,9993)])
 ·have kn:=kn r.next.a4 r.mtch.a4 (by rw [e] at hnx;have hnx:0≤r.next.a4∧r.next.a4≤1099511627776:=hnx;omega) (by rw [e] at hmx;have hmx:0≤r.mtch.a4∧r.mtch.a4≤lastI r.hard:=hmx;omega)
  rw [e]
  conv=>whnf
  refine ⟨⟨hfr.1,hfr.2⟩,?_⟩
  rw [e]
  conv=>whnf
  refine ⟨⟨hfr.1,hfr.2⟩,?_⟩
  rw [e]
  refine tCE kn ?_
  refine ⟨⟨hfr.1,hfr.2⟩,?_⟩
  rw [e]
  conv=>whnf
  refine ⟨⟨hfr.1,hfr.2⟩,?_⟩
  rw [e]
  refine tO ?_
  refine tCE kk ?_
  refine tN1 ?_
  refine tO ?_
  refine tO ?_
  refine tCE (kc ⟨r.mtch.a0,r.mtch.a1,r.mtch.a2,r.mtch.a3,nxM r.mtch.a4 m.yes (lrnI r m),r.mtch.a5,r.mtch.a6⟩) ?_
  (refine tV 9 9990 ?_;refine tV 10 9991 ?_;refine tV 39 1248 ?_;refine tV 40 9993 ?_;exact eX [(9990,9990),(9991,9991),(9992,9992),(9993,9993)])
 ·have kn:=kn r.next.a5 r.mtch.a5 (by rw [e] at hnx;have hnx:0≤r.next.a5∧r.next.a5≤1099511627776:=hnx;omega) (by rw [e] at hmx;have hmx:0≤r.mtch.a5∧r.mtch.a5≤lastI r.hard:=hmx;omega)
  rw [e]
  conv=>whnf
  refine ⟨⟨hfr.1,hfr.2⟩,?_⟩
  rw [e]
  conv=>whnf
  refine ⟨⟨hfr.1,hfr.2⟩,?_⟩
  rw [e]
  refine tCE kn ?_
  refine ⟨⟨hfr.1,hfr.2⟩,?_⟩
  rw [e]
  conv=>whnf
  refine ⟨⟨hfr.1,hfr.2⟩,?_⟩
  rw [e]
  refine tO ?_
  refine tCE kk ?_
  refine tN1 ?_
  refine tO ?_
  refine tO ?_
  refine tCE (kc ⟨r.mtch.a0,r.mtch.a1,r.mtch.a2,r.mtch.a3,r.mtch.a4,nxM r.mtch.a5 m.yes (lrnI r m),r.mtch.a6⟩) ?_
  (refine tV 9 9990 ?_;refine tV 10 9991 ?_;refine tV 39 1248 ?_;refine tV 40 9993 ?_;exact eX [(9990,9990),(9991,9991),(9992,9992),(9993,9993)])
 ·have kn:=kn r.next.a6 r.mtch.a6 (by rw [e] at hnx;have hnx:0≤r.next.a6∧r.next.a6≤1099511627776:=hnx;omega) (by rw [e] at hmx;have hmx:0≤r.mtch.a6∧r.mtch.a6≤lastI r.hard:=hmx;omega)
  rw [e]
  conv=>whnf
  refine ⟨⟨hfr.1,hfr.2⟩,?_⟩
  rw [e]
  conv=>whnf
  refine ⟨⟨hfr.1,hfr.2⟩,?_⟩
  rw [e]
  refine tCE kn ?_
  refine ⟨⟨hfr.1,hfr.2⟩,?_⟩
  rw [e]
  conv=>whnf
  refine ⟨⟨hfr.1,hfr.2⟩,?_⟩
  rw [e]
  refine tO ?_
  refine tCE kk ?_
  refine tN1 ?_
  refine tO ?_
  refine tO ?_
  refine tCE (kc ⟨r.mtch.a0,r.mtch.a1,r.mtch.a2,r.mtch.a3,r.mtch.a4,r.mtch.a5,nxM r.mtch.a6 m.yes (lrnI r m)⟩) ?_
  (refine tV 9 9990 ?_;refine tV 10 9991 ?_;refine tV 39 1248 ?_;refine tV 40 9993 ?_;exact eX [(9990,9990),(9991,9991),(9992,9992),(9993,9993)])
abbrev mkM (m:Mg) (k:Int):Mg:={ m with kind:=k }
abbrev mkY (m:Mg) (k:Int) (y:Bool):Mg:={ m with kind:=k,yes:=y }
noncomputable abbrev vtR (x:Rft) (m:Mg):Rft:={ x with votes:=bor x.votes (shl 1 m.frm) }
noncomputable def k2R (x:Rft) (m:Mg):Rft:=if x.role=1 then (if m.term=x.hard.term+1 then (if zak (zab (vtR x m)) (vtR x m).votes=true then ze2 (vtR x m) else vtR x m) else x) else x
noncomputable def k2O (x:Rft) (m:Mg):List (List PV):=if x.role=1 then (if m.term=x.hard.term+1 then (if zak (zab (vtR x m)) (vtR x m).votes=true then zf6 (vtR x m) else []) else []) else []
abbrev vdR (x:Rft) (m:Mg):Rft:={ x with hard:={ x.hard with vote:=m.frm } }
noncomputable def k3R (x:Rft) (m:Mg):Rft:=if voted x m=true then fallR (vdR x m) x.hard.term (-1) else x
noncomputable def k3O (x:Rft) (m:Mg):List (List PV):=if voted x m=true then [msgV 4 (fallR (vdR x m) x.hard.term (-1)).id m.frm (fallR (vdR x m) x.hard.term (-1)).hard.term 0 0 0 0 true .nl cz .nl] else [msgV 4 x.id m.frm x.hard.term 0 0 0 0 false .nl cz .nl]
noncomputable def k4R (x:Rft) (m:Mg):Rft:=if x.role=2 then (if zak (zab (vtR x m)) (vtR x m).votes=true then leadR (vtR x m) else vtR x m) else x
noncomputable def k4O (x:Rft) (m:Mg):List (List PV):=if x.role=2 then (if zak (zab (vtR x m)) (vtR x m).votes=true then (allL (leadR (vtR x m))).map (zar (leadR (vtR x m))) else []) else []
noncomputable def k8R (x:Rft) (m:Mg):Rft:=if zbx x=true then (if x.lead=m.frm then ze2 x else x) else x
noncomputable def k8O (x:Rft) (m:Mg):List (List PV):=if zbx x=true then (if x.lead=m.frm then zf6 x else []) else []
theorem zbw {r:Rft} (hf:Fit r) {t:Int} (ht:r.hard.term≤t∧t≤1099511627776) (l:Int):Fit (fallR r t l):=by
 have hd:=zd6 (zab r) hf.id
 have hT:=hf.term
 have hz:∀ i,i < 7→0≤zA.at i∧zA.at i≤1099511627776:=by
  intro i hi
  rcases (by omega:i=0∨i=1∨i=2∨i=3∨i=4∨i=5∨i=6) with rfl | rfl | rfl | rfl | rfl | rfl | rfl<;>decide
 refine ⟨hf.id,by rw [zce];exact hf.log,by rw [zdh];exact hf.snap,?_,?_,hf.round,hf.quiet,⟨hd.1,Int.le_trans hd.2 (by decide)⟩,hz,hz,Nat.zero_le _⟩
 ·have:(fallR r t l).hard.base=r.hard.base:=by unfold fallR;split<;>rfl
  rw [this];exact hf.base
 ·unfold fallR
  split
  ·show 0≤t∧t≤1099511627776;omega
  ·exact hT
theorem zbb {r:Rft}{t:Int} (ht:r.hard.term < t) (l:Int):(fallR r t l).hard.term=t:=by unfold fallR;rw [if_pos ht]
theorem z30 (r : Rft) (hf : Fit r) (out : List (List PV)) (ho : out.length ≤ 4000000) (m : Mg) :
    CtrE Tryz.prog 52 [.pt 9990 0,.ag (mkM m 1).enc] [(9990,repI r out)] (obI r out) (iv 0) [(9990,repX r (out++zij r (mkM m 1)))] obX:=by
 have hl0:=hf.log
 have ka:=c_asked r (zad (by omega)) out (by omega) (mkM m 1)
 refine zaj Tryz.func52 ?_;conv=>whnf
 refine tS ?_ ?_<;>intro h
 ·refine tE ([(9990,9990)],[(9990,9990),(9991,9991),(9992,9992),(9993,9993)],[]) ka ?_
  exact eX [(9990,9990),(9991,9991),(9992,9992),(9993,9993)]
 ·refine tE ([(9990,9990)],[(9990,9990),(9991,9991),(9992,9992),(9993,9993)],[]) ka ?_
  exact eX [(9990,9990),(9991,9991),(9992,9992),(9993,9993)]
theorem zw7 (r : Rft) (hf : Fit r) (out : List (List PV)) (ho : out.length ≤ 4000000) (m : Mg) (hk : ¬ m.kind = 1) (hlt : m.term < r.hard.term) :
    CtrE Tryz.prog 52 [.pt 9990 0,.ag m.enc] [(9990,repI r out)] (obI r out) (iv 0) [(9990,repX r (out++zhb r m))] obX:=by
 have ke:=c_elder r out (by omega) m
 have hng:¬ m.term > r.hard.term:=by omega
 refine zaj Tryz.func52 ?_;conv=>whnf
 refine tK ?_
 refine tK ?_
 refine tK ?_
 refine tE ([(9990,9990)],[(9990,9990),(9991,9991),(9992,9992),(9993,9993)],[]) ke ?_
 exact eX [(9990,9990),(9991,9991),(9992,9992),(9993,9993)]
theorem z05 (r : Rft) (hf : Fit r) (out : List (List PV)) (ho : out.length ≤ 4000000) (m : Mg) (hfr : 0 ≤ m.frm ∧ m.frm < 7) (hmt : m.term ≤ 1099511627776) (heq : m.term = r.hard.term) :
    CtrE Tryz.prog 52 [.pt 9990 0,.ag (mkY m 2 false).enc] [(9990,repI r out)] (obI r out) (iv 0) [(9990,repX (r) (out++([]:List (List PV))))] obX:=by
 have hl0:=hf.log
 have hT0:=hf.term
 have hfx:=hf
 have hx0:¬ (mkY m 2 false).term < r.hard.term:=by show ¬ m.term < r.hard.term;omega
 have hg1:¬ r.hard.term < (mkY m 2 false).term:=by show ¬ r.hard.term < m.term;omega
 have hlx:=hfx.log
 have hmx:r.hard.log.length≤maxLen:=zad (by omega)
 rw [List.append_nil]
 refine zaj Tryz.func52 ?_;conv=>whnf
 refine tK ?_
 refine tK ?_
 refine ⟨⟨by decide,hfr.1⟩,?_⟩
 refine tS ?_ ?_<;>intro h
 ·exact eV
 ·exact eV
theorem zw3 (r : Rft) (hf : Fit r) (out : List (List PV)) (ho : out.length ≤ 4000000) (m : Mg) (hfr : 0 ≤ m.frm ∧ m.frm < 7) (hmt : m.term ≤ 1099511627776) (hgt : r.hard.term < m.term) :
    CtrE Tryz.prog 52 [.pt 9990 0,.ag (mkY m 2 false).enc] [(9990,repI r out)] (obI r out) (iv 0) [(9990,repX ((fallR r m.term (-1))) (out++([]:List (List PV))))] obX:=by
 have hl0:=hf.log
 have hT0:=hf.term
 have kf:=zed r (zad (by omega)) out m.term (-1)
 have hfx:=zbw hf (t:=m.term) (by omega) (-1)
 have hxt:=zbb hgt (-1)
 have hx0:¬ (mkY m 2 false).term < (fallR r m.term (-1)).hard.term:=by show ¬ m.term < (fallR r m.term (-1)).hard.term;omega
 have hg1:r.hard.term < (mkY m 2 false).term:=hgt
 have hlx:=hfx.log
 have hmx:(fallR r m.term (-1)).hard.log.length≤maxLen:=zad (by omega)
 rw [List.append_nil]
 refine zaj Tryz.func52 ?_;conv=>whnf
 refine tK ?_
 refine tE ([(9990,9990)],[(9990,9990),(9991,9991),(9992,9992),(9993,9993)],[(2,3000)]) kf ?_
 refine tK ?_
 refine ⟨⟨by decide,hfr.1⟩,?_⟩
 conv=>whnf
 (refine tV 9 9990 ?_;refine tV 10 9991 ?_;refine tV 39 3000 ?_;refine tV 40 9993 ?_;exact eX [(9990,9990),(9991,9991),(9992,9992),(9993,9993)])
theorem zz6 (r : Rft) (hf : Fit r) (out : List (List PV)) (ho : out.length ≤ 4000000) (m : Mg) (hfr : 0 ≤ m.frm ∧ m.frm < 7) (hmt : m.term ≤ 1099511627776) (hge : r.hard.term < m.term) :
    CtrE Tryz.prog 52 [.pt 9990 0,.ag (mkY m 2 true).enc] [(9990,repI r out)] (obI r out) (iv 0) [(9990,repX (k2R r (mkY m 2 true)) (out++k2O r (mkY m 2 true)))] obX:=by
 have hl0:=hf.log
 have hT0:=hf.term
 have hfx:=hf
 have hx0:¬ (mkY m 2 true).term < r.hard.term:=by show ¬ m.term < r.hard.term;omega
 have hg1:r.hard.term < (mkY m 2 true).term:=hge
 have hlx:=hfx.log
 have hmx:r.hard.log.length≤maxLen:=zad (by omega)
 have kw:=zmu (vtR r (mkY m 2 true)) hmx
 have kst:=zkc (vtR r (mkY m 2 true)) ⟨hfx.id,hfx.log,hfx.snap,hfx.base,hfx.term,hfx.round,hfx.quiet,hfx.wait,hfx.next,hfx.silent,hfx.reads⟩ out ho
 have ew:IntKind.i64.wrap (r.hard.term+1)=r.hard.term+1:=zaf (by have:=hfx.term;omega) (by have:=hfx.term;omega)
 refine zaj Tryz.func52 ?_;conv=>whnf
 refine tK ?_
 refine tK ?_
 refine ⟨⟨by decide,hfr.1⟩,?_⟩
 conv=>whnf
 unfold k2R k2O
 refine tS ?_ ?_<;>intro h
 ·have h:r.role=1:=h
  rw [if_pos h,if_pos h]
  rw [ew]
  refine tS ?_ ?_<;>intro h
  ·have h:m.term=r.hard.term+1:=h
   rw [if_pos h,if_pos h]
   refine tO ?_
   refine tO ?_
   refine tO ?_
   cases hq:zak (zab (vtR r (mkY m 2 true))) (vtR r (mkY m 2 true)).votes with
   | true =>
    rw [hq] at kw
    rw [if_pos rfl,if_pos rfl]
    refine tCE kw ?_
    refine tE ([(9990,9990)],[(9990,9990),(9991,9991),(9992,9992),(9993,9993)],[]) kst ?_
    exact eX [(9990,9990),(9991,9991),(9992,9992),(9993,9993)]
   | false =>
    rw [hq] at kw
    rw [if_neg (show ¬ false=true by decide),if_neg (show ¬ false=true by decide),List.append_nil]
    refine tCE kw ?_
    exact eV
  ·have h:¬ m.term=r.hard.term+1:=h
   rw [if_neg h,if_neg h,List.append_nil]
   exact eV
 ·have h:¬ r.role=1:=h
  rw [if_neg h,if_neg h,List.append_nil]
  exact eV
theorem zxo (r : Rft) (hf : Fit r) (out : List (List PV)) (ho : out.length ≤ 4000000) (m : Mg) (hfr : 0 ≤ m.frm ∧ m.frm < 7) (hmt : m.term ≤ 1099511627776) (heq : m.term = r.hard.term) :
    CtrE Tryz.prog 52 [.pt 9990 0,.ag (mkY m 2 true).enc] [(9990,repI r out)] (obI r out) (iv 0) [(9990,repX (k2R r (mkY m 2 true)) (out++k2O r (mkY m 2 true)))] obX:=by
 have hl0:=hf.log
 have hT0:=hf.term
 have hfx:=hf
 have hx0:¬ (mkY m 2 true).term < r.hard.term:=by show ¬ m.term < r.hard.term;omega
 have hg1:¬ r.hard.term < (mkY m 2 true).term:=by show ¬ r.hard.term < m.term;omega
 have hlx:=hfx.log
 have hmx:r.hard.log.length≤maxLen:=zad (by omega)
 have kw:=zmu (vtR r (mkY m 2 true)) hmx
 have kst:=zkc (vtR r (mkY m 2 true)) ⟨hfx.id,hfx.log,hfx.snap,hfx.base,hfx.term,hfx.round,hfx.quiet,hfx.wait,hfx.next,hfx.silent,hfx.reads⟩ out ho
 have ew:IntKind.i64.wrap (r.hard.term+1)=r.hard.term+1:=zaf (by have:=hfx.term;omega) (by have:=hfx.term;omega)
 refine zaj Tryz.func52 ?_;conv=>whnf
 refine tK ?_
 refine tK ?_
 refine ⟨⟨by decide,hfr.1⟩,?_⟩
 conv=>whnf
 unfold k2R k2O
 refine tS ?_ ?_<;>intro h
 ·have h:r.role=1:=h
  rw [if_pos h,if_pos h]
  rw [ew]
  refine tS ?_ ?_<;>intro h
  ·have h:m.term=r.hard.term+1:=h
   rw [if_pos h,if_pos h]
   refine tO ?_
   refine tO ?_
   refine tO ?_
   cases hq:zak (zab (vtR r (mkY m 2 true))) (vtR r (mkY m 2 true)).votes with
   | true =>
    rw [hq] at kw
    rw [if_pos rfl,if_pos rfl]
    refine tCE kw ?_
    refine tE ([(9990,9990)],[(9990,9990),(9991,9991),(9992,9992),(9993,9993)],[]) kst ?_
    exact eX [(9990,9990),(9991,9991),(9992,9992),(9993,9993)]
   | false =>
    rw [hq] at kw
    rw [if_neg (show ¬ false=true by decide),if_neg (show ¬ false=true by decide),List.append_nil]
    refine tCE kw ?_
    exact eV
  ·have h:¬ m.term=r.hard.term+1:=h
   rw [if_neg h,if_neg h,List.append_nil]
   exact eV
 ·have h:¬ r.role=1:=h
  rw [if_neg h,if_neg h,List.append_nil]
  exact eV
theorem z2s (r : Rft) (hf : Fit r) (out : List (List PV)) (ho : out.length ≤ 4000000) (m : Mg) (hfr : 0 ≤ m.frm ∧ m.frm < 7) (hmt : m.term ≤ 1099511627776) (heq : m.term = r.hard.term) :
    CtrE Tryz.prog 52 [.pt 9990 0,.ag (mkM m 3).enc] [(9990,repI r out)] (obI r out) (iv 0) [(9990,repX (k3R r (mkM m 3)) (out++k3O r (mkM m 3)))] obX:=by
 have hl0:=hf.log
 have hT0:=hf.term
 have hfx:=hf
 have hx0:¬ (mkM m 3).term < r.hard.term:=by show ¬ m.term < r.hard.term;omega
 have hg1:¬ r.hard.term < (mkM m 3).term:=by show ¬ r.hard.term < m.term;omega
 have hlx:=hfx.log
 have hmx:r.hard.log.length≤maxLen:=zad (by omega)
 have kv:=z1l r hmx (mkM m 3)
 have kfv:=zed (vdR r (mkM m 3)) hmx out r.hard.term (-1)
 have kan:=zfn r out (by omega) (mkM m 3) 4 0 0 false
 have kay:=zfn (fallR (vdR r (mkM m 3)) r.hard.term (-1)) out (by omega) (mkM m 3) 4 0 0 true
 unfold k3R k3O
 generalize fallR (vdR r (mkM m 3)) r.hard.term (-1)=z at *
 refine zaj Tryz.func52 ?_;conv=>whnf
 refine tK ?_
 refine tK ?_
 refine ⟨⟨by decide,hfr.1⟩,?_⟩
 refine tO ?_
 refine tO ?_
 refine tO ?_
 cases hq:voted r (mkM m 3) with
 | true =>
  rw [hq] at kv
  rw [if_pos rfl,if_pos rfl]
  refine tCE kv ?_
  refine tE ([(9990,9990)],[(9990,9990),(9991,9991),(9992,9992),(9993,9993)],[(2,3001)]) kfv ?_
  refine tE ([(9990,9990)],[(9990,9990),(9991,9991),(9992,3001),(9993,9993)],[(1,4000)]) kay ?_
  (refine tV 9 9990 ?_;refine tV 10 9991 ?_;refine tV 39 3001 ?_;refine tV 40 4000 ?_;exact eX [(9990,9990),(9991,9991),(9992,9992),(9993,9993)])
 | false =>
  rw [hq] at kv
  rw [if_neg (show ¬ false=true by decide),if_neg (show ¬ false=true by decide)]
  refine tCE kv ?_
  refine tE ([(9990,9990)],[(9990,9990),(9991,9991),(9992,9992),(9993,9993)],[(1,4000)]) kan ?_
  (refine tV 9 9990 ?_;refine tV 10 9991 ?_;refine tV 39 9992 ?_;refine tV 40 4000 ?_;exact eX [(9990,9990),(9991,9991),(9992,9992),(9993,9993)])
theorem z0k (r : Rft) (hf : Fit r) (out : List (List PV)) (ho : out.length ≤ 4000000) (m : Mg) (hfr : 0 ≤ m.frm ∧ m.frm < 7) (hmt : m.term ≤ 1099511627776) (hgt : r.hard.term < m.term) :
    CtrE Tryz.prog 52 [.pt 9990 0,.ag (mkM m 3).enc] [(9990,repI r out)] (obI r out) (iv 0) [(9990,repX (k3R (fallR r m.term (-1)) (mkM m 3)) (out++k3O (fallR r m.term (-1)) (mkM m 3)))] obX:=by
 have hl0:=hf.log
 have hT0:=hf.term
 have kf:=zed r (zad (by omega)) out m.term (-1)
 have hfx:=zbw hf (t:=m.term) (by omega) (-1)
 have hxt:=zbb hgt (-1)
 generalize fallR r m.term (-1)=x at *
 have hx0:¬ (mkM m 3).term < x.hard.term:=by show ¬ m.term < x.hard.term;omega
 have hg1:r.hard.term < (mkM m 3).term:=hgt
 have hlx:=hfx.log
 have hmx:x.hard.log.length≤maxLen:=zad (by omega)
 have kv:=z1l x hmx (mkM m 3)
 have kfv:=zed (vdR x (mkM m 3)) hmx out x.hard.term (-1)
 have kan:=zfn x out (by omega) (mkM m 3) 4 0 0 false
 have kay:=zfn (fallR (vdR x (mkM m 3)) x.hard.term (-1)) out (by omega) (mkM m 3) 4 0 0 true
 unfold k3R k3O
 generalize fallR (vdR x (mkM m 3)) x.hard.term (-1)=z at *
 refine zaj Tryz.func52 ?_;conv=>whnf
 refine tK ?_
 refine tE ([(9990,9990)],[(9990,9990),(9991,9991),(9992,9992),(9993,9993)],[(2,3000)]) kf ?_
 refine tK ?_
 refine ⟨⟨by decide,hfr.1⟩,?_⟩
 refine tO ?_
 refine tO ?_
 refine tO ?_
 cases hq:voted x (mkM m 3) with
 | true =>
  rw [hq] at kv
  rw [if_pos rfl,if_pos rfl]
  refine tCE kv ?_
  refine tE ([(9990,9990)],[(9990,9990),(9991,9991),(9992,3000),(9993,9993)],[(2,3001)]) kfv ?_
  refine tE ([(9990,9990)],[(9990,9990),(9991,9991),(9992,3001),(9993,9993)],[(1,4000)]) kay ?_
  (refine tV 9 9990 ?_;refine tV 10 9991 ?_;refine tV 39 3001 ?_;refine tV 40 4000 ?_;exact eX [(9990,9990),(9991,9991),(9992,9992),(9993,9993)])
 | false =>
  rw [hq] at kv
  rw [if_neg (show ¬ false=true by decide),if_neg (show ¬ false=true by decide)]
  refine tCE kv ?_
  refine tE ([(9990,9990)],[(9990,9990),(9991,9991),(9992,3000),(9993,9993)],[(1,4000)]) kan ?_
  (refine tV 9 9990 ?_;refine tV 10 9991 ?_;refine tV 39 3000 ?_;refine tV 40 4000 ?_;exact eX [(9990,9990),(9991,9991),(9992,9992),(9993,9993)])
theorem zyy (r : Rft) (hf : Fit r) (out : List (List PV)) (ho : out.length ≤ 4000000) (m : Mg) (hfr : 0 ≤ m.frm ∧ m.frm < 7) (hmt : m.term ≤ 1099511627776) (heq : m.term = r.hard.term) :
    CtrE Tryz.prog 52 [.pt 9990 0,.ag (mkY m 4 false).enc] [(9990,repI r out)] (obI r out) (iv 0) [(9990,repX (r) (out++([]:List (List PV))))] obX:=by
 have hl0:=hf.log
 have hT0:=hf.term
 have hfx:=hf
 have hx0:¬ (mkY m 4 false).term < r.hard.term:=by show ¬ m.term < r.hard.term;omega
 have hg1:¬ r.hard.term < (mkY m 4 false).term:=by show ¬ r.hard.term < m.term;omega
 have hlx:=hfx.log
 have hmx:r.hard.log.length≤maxLen:=zad (by omega)
 rw [List.append_nil]
 refine zaj Tryz.func52 ?_;conv=>whnf
 refine tK ?_
 refine tK ?_
 refine ⟨⟨by decide,hfr.1⟩,?_⟩
 refine tS ?_ ?_<;>intro h
 ·exact eV
 ·exact eV
theorem zvh (r : Rft) (hf : Fit r) (out : List (List PV)) (ho : out.length ≤ 4000000) (m : Mg) (hfr : 0 ≤ m.frm ∧ m.frm < 7) (hmt : m.term ≤ 1099511627776) (hgt : r.hard.term < m.term) :
    CtrE Tryz.prog 52 [.pt 9990 0,.ag (mkY m 4 false).enc] [(9990,repI r out)] (obI r out) (iv 0) [(9990,repX ((fallR r m.term (-1))) (out++([]:List (List PV))))] obX:=by
 have hl0:=hf.log
 have hT0:=hf.term
 have kf:=zed r (zad (by omega)) out m.term (-1)
 have hfx:=zbw hf (t:=m.term) (by omega) (-1)
 have hxt:=zbb hgt (-1)
 generalize fallR r m.term (-1)=x at *
 have hx0:¬ (mkY m 4 false).term < x.hard.term:=by show ¬ m.term < x.hard.term;omega
 have hg1:r.hard.term < (mkY m 4 false).term:=hgt
 have hlx:=hfx.log
 have hmx:x.hard.log.length≤maxLen:=zad (by omega)
 rw [List.append_nil]
 refine zaj Tryz.func52 ?_;conv=>whnf
 refine tK ?_
 refine tE ([(9990,9990)],[(9990,9990),(9991,9991),(9992,9992),(9993,9993)],[(2,3000)]) kf ?_
 refine tK ?_
 refine ⟨⟨by decide,hfr.1⟩,?_⟩
 refine tS ?_ ?_<;>intro h
 ·(refine tV 9 9990 ?_;refine tV 10 9991 ?_;refine tV 39 3000 ?_;refine tV 40 9993 ?_;exact eX [(9990,9990),(9991,9991),(9992,9992),(9993,9993)])
 ·(refine tV 9 9990 ?_;refine tV 10 9991 ?_;refine tV 39 3000 ?_;refine tV 40 9993 ?_;exact eX [(9990,9990),(9991,9991),(9992,9992),(9993,9993)])
theorem zxn (r : Rft) (hf : Fit r) (out : List (List PV)) (ho : out.length ≤ 4000000) (m : Mg) (hfr : 0 ≤ m.frm ∧ m.frm < 7) (hmt : m.term ≤ 1099511627776) (heq : m.term = r.hard.term) :
    CtrE Tryz.prog 52 [.pt 9990 0,.ag (mkY m 4 true).enc] [(9990,repI r out)] (obI r out) (iv 0) [(9990,repX (k4R r (mkY m 4 true)) (out++k4O r (mkY m 4 true)))] obX:=by
 have hl0:=hf.log
 have hT0:=hf.term
 have hfx:=hf
 have hx0:¬ (mkY m 4 true).term < r.hard.term:=by show ¬ m.term < r.hard.term;omega
 have hg1:¬ r.hard.term < (mkY m 4 true).term:=by show ¬ r.hard.term < m.term;omega
 have hlx:=hfx.log
 have hmx:r.hard.log.length≤maxLen:=zad (by omega)
 have kw:=zmu (vtR r (mkY m 4 true)) hmx
 have kld:=zxp (vtR r (mkY m 4 true)) hfx.id hfx.log hfx.snap hfx.base hfx.round out ho
 refine zaj Tryz.func52 ?_;conv=>whnf
 refine tK ?_
 refine tK ?_
 refine ⟨⟨by decide,hfr.1⟩,?_⟩
 conv=>whnf
 unfold k4R k4O
 refine tS ?_ ?_<;>intro h
 ·have h:r.role=2:=h
  rw [if_pos h,if_pos h]
  refine tO ?_
  refine tO ?_
  refine tO ?_
  cases hq:zak (zab (vtR r (mkY m 4 true))) (vtR r (mkY m 4 true)).votes with
  | true =>
   rw [hq] at kw
   rw [if_pos rfl,if_pos rfl]
   refine tCE kw ?_
   refine tE ([(9990,9990)],[(9990,9990),(9991,9991),(9992,9992),(9993,9993)],[]) kld ?_
   exact eX [(9990,9990),(9991,9991),(9992,9992),(9993,9993)]
  | false =>
   rw [hq] at kw
   rw [if_neg (show ¬ false=true by decide),if_neg (show ¬ false=true by decide),List.append_nil]
   refine tCE kw ?_
   exact eV
 ·have h:¬ r.role=2:=h
  rw [if_neg h,if_neg h,List.append_nil]
  exact eV
theorem zw4 (r : Rft) (hf : Fit r) (out : List (List PV)) (ho : out.length ≤ 4000000) (m : Mg) (hfr : 0 ≤ m.frm ∧ m.frm < 7) (hmt : m.term ≤ 1099511627776) (hgt : r.hard.term < m.term) :
    CtrE Tryz.prog 52 [.pt 9990 0,.ag (mkY m 4 true).enc] [(9990,repI r out)] (obI r out) (iv 0) [(9990,repX (k4R (fallR r m.term (-1)) (mkY m 4 true)) (out++k4O (fallR r m.term (-1)) (mkY m 4 true)))] obX:=by
 have hl0:=hf.log
 have hT0:=hf.term
 have kf:=zed r (zad (by omega)) out m.term (-1)
 have hfx:=zbw hf (t:=m.term) (by omega) (-1)
 have hxt:=zbb hgt (-1)
 generalize fallR r m.term (-1)=x at *
 have hx0:¬ (mkY m 4 true).term < x.hard.term:=by show ¬ m.term < x.hard.term;omega
 have hg1:r.hard.term < (mkY m 4 true).term:=hgt
 have hlx:=hfx.log
 have hmx:x.hard.log.length≤maxLen:=zad (by omega)
 have kw:=zmu (vtR x (mkY m 4 true)) hmx
 have kld:=zxp (vtR x (mkY m 4 true)) hfx.id hfx.log hfx.snap hfx.base hfx.round out ho
 refine zaj Tryz.func52 ?_;conv=>whnf
 refine tK ?_
 refine tE ([(9990,9990)],[(9990,9990),(9991,9991),(9992,9992),(9993,9993)],[(2,3000)]) kf ?_
 refine tK ?_
 refine ⟨⟨by decide,hfr.1⟩,?_⟩
 conv=>whnf
 unfold k4R k4O
 refine tS ?_ ?_<;>intro h
 ·have h:x.role=2:=h
  rw [if_pos h,if_pos h]
  refine tO ?_
  refine tO ?_
  refine tO ?_
  cases hq:zak (zab (vtR x (mkY m 4 true))) (vtR x (mkY m 4 true)).votes with
  | true =>
   rw [hq] at kw
   rw [if_pos rfl,if_pos rfl]
   refine tCE kw ?_
   refine tE ([(9990,9990)],[(9990,9990),(9991,9991),(9992,3000),(9993,9993)],[]) kld ?_
   exact eX [(9990,9990),(9991,9991),(9992,9992),(9993,9993)]
  | false =>
   rw [hq] at kw
   rw [if_neg (show ¬ false=true by decide),if_neg (show ¬ false=true by decide),List.append_nil]
   refine tCE kw ?_
   (refine tV 9 9990 ?_;refine tV 10 9991 ?_;refine tV 39 3000 ?_;refine tV 40 9993 ?_;exact eX [(9990,9990),(9991,9991),(9992,9992),(9993,9993)])
 ·have h:¬ x.role=2:=h
  rw [if_neg h,if_neg h,List.append_nil]
  (refine tV 9 9990 ?_;refine tV 10 9991 ?_;refine tV 39 3000 ?_;refine tV 40 9993 ?_;exact eX [(9990,9990),(9991,9991),(9992,9992),(9993,9993)])
theorem z2l (r : Rft) (hf : Fit r) (out : List (List PV)) (ho : out.length ≤ 4000000) (m : Mg) (hfr : 0 ≤ m.frm ∧ m.frm < 7) (hmt : m.term ≤ 1099511627776) (heq : m.term = r.hard.term) (hen : m.entries.length ≤ 4294967) (hgl : growE r.hard r.commit (mkM m 5) = 0 → (growO r.hard r.commit (mkM m 5)).h.log.length ≤ maxLen) :
    CtrE Tryz.prog 52 [.pt 9990 0,.ag (mkM m 5).enc] [(9990,repI r out)] (obI r out) (iv (appE r (mkM m 5))) [(9990,repX (appR r (mkM m 5)) (out++appO r (mkM m 5)))] obX:=by
 have hl0:=hf.log
 have hT0:=hf.term
 have hfx:=hf
 have hx0:¬ (mkM m 5).term < r.hard.term:=by show ¬ m.term < r.hard.term;omega
 have hg1:¬ r.hard.term < (mkM m 5).term:=by show ¬ r.hard.term < m.term;omega
 have hlx:=hfx.log
 have hmx:r.hard.log.length≤maxLen:=zad (by omega)
 have ka:=zul r hfx out (by omega) (mkM m 5) hen hgl
 refine zaj Tryz.func52 ?_;conv=>whnf
 refine tK ?_
 refine tK ?_
 refine ⟨⟨by decide,hfr.1⟩,?_⟩
 conv=>whnf
 refine tE ([(9990,9990)],[(9990,9990),(9991,9991),(9992,9992),(9993,9993)],[]) ka ?_
 exact eX [(9990,9990),(9991,9991),(9992,9992),(9993,9993)]
theorem zx5 (r : Rft) (hf : Fit r) (out : List (List PV)) (ho : out.length ≤ 4000000) (m : Mg) (hfr : 0 ≤ m.frm ∧ m.frm < 7) (hmt : m.term ≤ 1099511627776) (hgt : r.hard.term < m.term) (hen : m.entries.length ≤ 4294967) (hgl : growE (fallR r m.term (-1)).hard (fallR r m.term (-1)).commit (mkM m 5) = 0 → (growO (fallR r m.term (-1)).hard (fallR r m.term (-1)).commit (mkM m 5)).h.log.length ≤ maxLen) :
    CtrE Tryz.prog 52 [.pt 9990 0,.ag (mkM m 5).enc] [(9990,repI r out)] (obI r out) (iv (appE (fallR r m.term (-1)) (mkM m 5))) [(9990,repX (appR (fallR r m.term (-1)) (mkM m 5)) (out++appO (fallR r m.term (-1)) (mkM m 5)))] obX:=by
 have hl0:=hf.log
 have hT0:=hf.term
 have kf:=zed r (zad (by omega)) out m.term (-1)
 have hfx:=zbw hf (t:=m.term) (by omega) (-1)
 have hxt:=zbb hgt (-1)
 generalize fallR r m.term (-1)=x at *
 have hx0:¬ (mkM m 5).term < x.hard.term:=by show ¬ m.term < x.hard.term;omega
 have hg1:r.hard.term < (mkM m 5).term:=hgt
 have hlx:=hfx.log
 have hmx:x.hard.log.length≤maxLen:=zad (by omega)
 have ka:=zul x hfx out (by omega) (mkM m 5) hen hgl
 refine zaj Tryz.func52 ?_;conv=>whnf
 refine tK ?_
 refine tE ([(9990,9990)],[(9990,9990),(9991,9991),(9992,9992),(9993,9993)],[(2,3000)]) kf ?_
 refine tK ?_
 refine ⟨⟨by decide,hfr.1⟩,?_⟩
 conv=>whnf
 refine tE ([(9990,9990)],[(9990,9990),(9991,9991),(9992,3000),(9993,9993)],[]) ka ?_
 exact eX [(9990,9990),(9991,9991),(9992,9992),(9993,9993)]
theorem z4b (r : Rft) (hf : Fit r) (out : List (List PV)) (ho : out.length ≤ 4000000) (m : Mg) (hfr : 0 ≤ m.frm ∧ m.frm < 7) (hmt : m.term ≤ 1099511627776) (heq : m.term = r.hard.term) (hsn : m.snap.length ≤ 4294967296) (hix : 0 ≤ m.index ∧ m.index ≤ 1099511627776) (hgl : (insHH r (mkM m 7)).log.length ≤ maxLen) :
    CtrE Tryz.prog 52 [.pt 9990 0,.ag (mkM m 7).enc] [(9990,repI r out)] (obI r out) (iv (insE r (mkM m 7))) [(9990,repX (insR r (mkM m 7)) (out++insO r (mkM m 7)))] obX:=by
 have hl0:=hf.log
 have hT0:=hf.term
 have hfx:=hf
 have hx0:¬ (mkM m 7).term < r.hard.term:=by show ¬ m.term < r.hard.term;omega
 have hg1:¬ r.hard.term < (mkM m 7).term:=by show ¬ r.hard.term < m.term;omega
 have hlx:=hfx.log
 have hmx:r.hard.log.length≤maxLen:=zad (by omega)
 have ka:=zqw r hfx out (by omega) (mkM m 7) hsn (by unfold isI;exact ⟨by show _≤m.index;omega,by show m.index < _;omega⟩) hgl
 refine zaj Tryz.func52 ?_;conv=>whnf
 refine tK ?_
 refine tK ?_
 refine ⟨⟨by decide,hfr.1⟩,?_⟩
 conv=>whnf
 refine tE ([(9990,9990)],[(9990,9990),(9991,9991),(9992,9992),(9993,9993)],[]) ka ?_
 exact eX [(9990,9990),(9991,9991),(9992,9992),(9993,9993)]
theorem z1s (r : Rft) (hf : Fit r) (out : List (List PV)) (ho : out.length ≤ 4000000) (m : Mg) (hfr : 0 ≤ m.frm ∧ m.frm < 7) (hmt : m.term ≤ 1099511627776) (hgt : r.hard.term < m.term) (hsn : m.snap.length ≤ 4294967296) (hix : 0 ≤ m.index ∧ m.index ≤ 1099511627776) (hgl : (insHH (fallR r m.term (-1)) (mkM m 7)).log.length ≤ maxLen) :
    CtrE Tryz.prog 52 [.pt 9990 0,.ag (mkM m 7).enc] [(9990,repI r out)] (obI r out) (iv (insE (fallR r m.term (-1)) (mkM m 7))) [(9990,repX (insR (fallR r m.term (-1)) (mkM m 7)) (out++insO (fallR r m.term (-1)) (mkM m 7)))] obX:=by
 have hl0:=hf.log
 have hT0:=hf.term
 have kf:=zed r (zad (by omega)) out m.term (-1)
 have hfx:=zbw hf (t:=m.term) (by omega) (-1)
 have hxt:=zbb hgt (-1)
 generalize fallR r m.term (-1)=x at *
 have hx0:¬ (mkM m 7).term < x.hard.term:=by show ¬ m.term < x.hard.term;omega
 have hg1:r.hard.term < (mkM m 7).term:=hgt
 have hlx:=hfx.log
 have hmx:x.hard.log.length≤maxLen:=zad (by omega)
 have ka:=zqw x hfx out (by omega) (mkM m 7) hsn (by unfold isI;exact ⟨by show _≤m.index;omega,by show m.index < _;omega⟩) hgl
 refine zaj Tryz.func52 ?_;conv=>whnf
 refine tK ?_
 refine tE ([(9990,9990)],[(9990,9990),(9991,9991),(9992,9992),(9993,9993)],[(2,3000)]) kf ?_
 refine tK ?_
 refine ⟨⟨by decide,hfr.1⟩,?_⟩
 conv=>whnf
 refine tE ([(9990,9990)],[(9990,9990),(9991,9991),(9992,3000),(9993,9993)],[]) ka ?_
 exact eX [(9990,9990),(9991,9991),(9992,9992),(9993,9993)]
end Go.Proofs
