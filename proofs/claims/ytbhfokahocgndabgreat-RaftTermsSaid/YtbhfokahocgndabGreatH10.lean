import Derived.Test.YtbhfokahocgndabGreatC1
import Derived.Test.YtbhfokahocgndabGreatH9
import Derived.Test.YtbhfokahocgndabGreatC5
import Derived.Test.YtbhfokahocgndabGreatC24
import Derived.Test.YtbhfokahocgndabGreatC47
import Derived.Test.YtbhfokahocgndabGreatC54
import Derived.Test.YtbhfokahocgndabGreatC13
/- Contracts of functions: a replica leads. -/
set_option linter.unusedSimpArgs false
set_option linter.unusedVariables false
namespace Go.Proofs
open Go.Pv
set_option maxRecDepth 100000
abbrev farM (n:Int):Int:=if 1099511627776 < n then 1099511627776 else n
abbrev allA (n:Int):Arr:=⟨n,n,n,n,n,n,n⟩
abbrev led0 (r:Rft):Rft:={ r with role:=3,lead:=r.id,votes:=0,reads:=[],quiet:=0,round:=farM (r.round+1),mtch:=zA,silent:=zA }
noncomputable def leadR (r:Rft):Rft:={ addR (led0 r) (et r.hard.term) with next:=allA (lastI (logR r (et r.hard.term))) }
theorem zma (r:Rft):(leadR r).hard.log=r.hard.log++[et r.hard.term]:=rfl
abbrev repX (x:Rft) (out:List (List PV)):List PV:=repV x (.sl 1 (x.hard.snap.map encB)) (.sl 16 (x.hard.log.map Ent.enc)) (.sl 13 (x.reads.map Rd.enc)) (.sl 16 out)
abbrev obX:List (Nat×Option (Bool×Nat×List (List PV))):=[(1000000,none),(1000001,none),(1000002,none),(1000003,none)]
set_option maxHeartbeats 8000000 in
theorem zt5 (r : Rft) (hid : 0 ≤ r.id ∧ r.id < 7) (hm : r.hard.log.length < 4294967) (hsn : r.hard.snap.length ≤ 4294967296) (hb : 0 ≤ r.hard.base ∧ r.hard.base ≤ 1099511627776) (hr : 0 ≤ r.round ∧ r.round ≤ 1099511627776) (out : List (List PV)) (ho : out.length ≤ 4000000) :
    CtrE Tryz.prog 132 [.pt 1000000 0] [(1000000,repI r out)] (obI r out) (.tu []) [(1000000,repX (leadR r) (out++(allL (leadR r)).map (zba (leadR r))))] obX:=by
 have ka:=c_add (led0 r) hid (by show r.hard.log.length≤_;omega) hb.1 hb.2 out (et r.hard.term)
 have hlast:lastI (logR r (et r.hard.term))=r.hard.base+r.hard.log.length+1:=by
  have h1:(logR r (et r.hard.term)).log.length=r.hard.log.length+1:=by rw [List.length_append];rfl
  unfold lastI
  rw [if_neg (by omega),h1]
  have h2:(logR r (et r.hard.term)).base=r.hard.base:=rfl
  rw [h2]
  have:w64 (r.hard.base+((r.hard.log.length+1:Nat):Int))=r.hard.base+((r.hard.log.length+1:Nat):Int):=zal (by omega) (by omega)
  rw [this];omega
 have ks:=zni (leadR r) ⟨by rw [zma,List.length_append];show r.hard.log.length+1≤_;omega,hsn,hb,fun i hi=>by
  have:(leadR r).next.at i=lastI (logR r (et r.hard.term)):=by
   rcases (by omega:i=0∨i=1∨i=2∨i=3∨i=4∨i=5∨i=6) with rfl | rfl | rfl | rfl | rfl | rfl | rfl<;>rfl
  rw [this,hlast];unfold isI;omega⟩ out ho
 have ew:IntKind.i64.wrap (r.round+1)=r.round+1:=zal (by omega) (by omega)
 refine zbe mixed Tryz.func132 rfl (by kernel_rfl) (by kernel_rfl) ?_
 refine tSeq ?_
 conv=>whnf
 refine ztz 1000000 39 3000 13 _ rfl rfl rfl ?_
 conv=>whnf
 refine pwS ?_
 conv=>whnf
 rw [ew]
 ((refine Exists.intro (some ([(1000000,1000000)],[(1000000,1000000),(1000001,1000001),(1000002,3000),(1000003,1000003)],[(1,4000)])) ?_);(conv=>whnf);refine zax (ka) (by kernel_rfl) (by kernel_rfl) (by kernel_rfl) ?_;conv=>whnf)
 refine zcd mixed (by kernel_rfl) 9 ?_
 conv=>whnf
 refine ⟨⟨by decide,by decide⟩,?_⟩
 conv=>whnf
 refine ⟨⟨by decide,by decide⟩,?_⟩
 conv=>whnf
 refine ⟨⟨by decide,by decide⟩,?_⟩
 conv=>whnf
 refine ⟨⟨by decide,by decide⟩,?_⟩
 conv=>whnf
 refine ⟨⟨by decide,by decide⟩,?_⟩
 conv=>whnf
 refine ⟨⟨by decide,by decide⟩,?_⟩
 conv=>whnf
 refine ⟨⟨by decide,by decide⟩,?_⟩
 conv=>whnf
 ((refine Exists.intro (some ([(1000000,1000000)],[(1000000,1000000),(1000001,4000),(1000002,3000),(1000003,1000003)],[(1,5000)])) ?_);(conv=>whnf);refine zax (ks) (by kernel_rfl) (by kernel_rfl) (by kernel_rfl) ?_;conv=>whnf)
 (refine zad 1000000 39 3000 _ _ rfl rfl rfl rfl ?_;refine zad 1000000 40 5000 _ _ rfl rfl rfl rfl ?_;refine zae [(1000000,1000000),(1000001,1000001),(1000002,1000002),(1000003,1000003)] [] ?_;(conv=>whnf);exact wkD)
structure Fit (r:Rft):Prop where
 id:0≤r.id∧r.id < 7
 log:r.hard.log.length < 4294967
 snap:r.hard.snap.length≤4294967296
 base:0≤r.hard.base∧r.hard.base≤1099511627776
 term:0≤r.hard.term∧r.hard.term≤1099511627776
 round:0≤r.round∧r.round≤1099511627776
 quiet:0≤r.quiet∧r.quiet≤1099511627776
 wait:0≤r.wait∧r.wait≤1099511627776
 next:∀ i,i < 7→0≤r.next.at i∧r.next.at i≤1099511627776
 silent:∀ i,i < 7→0≤r.silent.at i∧r.silent.at i≤1099511627776
 reads:r.reads.length≤1000
abbrev std0 (r:Rft):Rft:={ r with hard:={ r.hard with term:=r.hard.term+1,vote:=r.id },role:=2,votes:=shl 1 r.id,lead:=-1 }
noncomputable abbrev stdR (r:Rft):Rft:={ std0 r with wait:=delay (zac (std0 r)) r.id }
noncomputable def ze3 (r:Rft):Rft:=if r.hard.term=1099511627776 then fallR r r.hard.term (-1) else if zbb (zac (stdR r)) (shl 1 r.id)=true then leadR (stdR r) else stdR r
noncomputable def zgv (r:Rft):List (List PV):=if r.hard.term=1099511627776 then [] else if zbb (zac (stdR r)) (shl 1 r.id)=true then (allL (leadR (stdR r))).map (zba (leadR (stdR r))) else (votL (stdR r)).map (askM (stdR r) 3 (r.hard.term+1))
theorem zc8 (r:Rft) (t l:Int):(fallR r t l).hard.snap=r.hard.snap:=by unfold fallR;split<;>rfl
theorem zci (r:Rft) (t l:Int):(fallR r t l).hard.log=r.hard.log:=by unfold fallR;split<;>rfl
set_option maxHeartbeats 8000000 in
theorem zi6 (r : Rft) (hf : Fit r) (out : List (List PV)) (ho : out.length ≤ 4000000) :
    CtrE Tryz.prog 124 [.pt 1000000 0] [(1000000,repI r out)] (obI r out) (.tu []) [(1000000,repX (ze3 r) (out++zgv r))] obX:=by
 have hm:r.hard.log.length≤maxLen:=zak (by have:=hf.log;omega)
 have kf:=c_fall r hm out r.hard.term (-1)
 have kb:=zw1 { r with hard:={ r.hard with term:=r.hard.term+1 } } out hf.id
 have kc:=zem (std0 r) hm
 have kd:=zjx (zac (std0 r)) r.id
 have kw:=zk4 (stdR r) hm
 have kl:=zt5 (stdR r) hf.id hf.log hf.snap hf.base hf.round out ho
 have ka:=zmu (stdR r) hm out ho 3 (r.hard.term+1)
 unfold ze3 zgv
 have hT:=hf.term
 refine za1 Tryz.func124 ?_;conv=>whnf
 (refine tSp (fun h=>?_) (fun h=>?_)<;>conv=>whnf)
 ·have h:r.hard.term=1099511627776:=h
  rw [if_pos h,if_pos h,List.append_nil]
  ((refine Exists.intro (some ([(1000000,1000000)],[(1000000,1000000),(1000001,1000001),(1000002,1000002),(1000003,1000003)],[(2,3000)])) ?_);(conv=>whnf);first | ((with_reducible refine zam (kf) ?_);conv=>whnf))
  (refine zad 1000000 9 1000000 _ _ rfl rfl rfl rfl ?_;refine zad 1000000 10 1000001 _ _ rfl rfl rfl rfl ?_;refine zad 1000000 39 3000 _ _ rfl rfl rfl rfl ?_;refine zad 1000000 40 1000003 _ _ rfl rfl rfl rfl ?_;refine zae [(1000000,1000000),(1000001,1000001),(1000002,1000002),(1000003,1000003)] [] ?_;(conv=>whnf);(refine wkx ?_;refine ⟨?_,?_,?_⟩<;>(conv=>whnf)<;>repeat' first | exact wkc | (with_reducible refine And.intro ?_ ?_)<;>first | exact wks | refine wko ?_ | refine wki ?_ | refine wkb ?_ | (refine zan ?_;conv=>whnf) | (refine zah ?_;conv=>whnf) | (refine zag ?_;conv=>whnf) | conv=>whnf))
  all_goals first | rfl | exact .inl rfl | (rw [zc8];exact .inl rfl) | (rw [zci];exact .inl rfl) | trace_state
 ·have h:¬ r.hard.term=1099511627776:=h
  rw [if_neg h,if_neg h]
  have ew:IntKind.i64.wrap (r.hard.term+1)=r.hard.term+1:=zal (by omega) (by omega)
  rw [ew]
  conv=>whnf
  ((refine Exists.intro (some ([(1000000,1000000)],[(1000000,1000000),(1000001,1000001),(1000002,1000002),(1000003,1000003)],[(999999,0)])) ?_);(conv=>whnf);(with_reducible refine zam (kb) ?_);(conv=>whnf);refine And.intro (And.intro rfl rfl) ?_;conv=>whnf)
  ((try (refine Exists.intro none ?_;conv=>whnf));refine tOwn0 ?_;conv=>whnf)
  ((try (refine Exists.intro none ?_;conv=>whnf));refine tOwn0 ?_;conv=>whnf)
  ((try (refine Exists.intro none ?_;conv=>whnf));refine tOwn0 ?_;conv=>whnf)
  ((try ((refine Exists.intro none ?_);(conv=>whnf)));first | (refine zai (kc) (by simp only [List.drop_zero,List.take_length]) ?_;conv=>whnf))
  ((try (refine Exists.intro none ?_;conv=>whnf));(with_reducible refine zaa (kd) ?_);conv=>whnf)
  ((try (refine Exists.intro none ?_;conv=>whnf));refine tOwn0 ?_;conv=>whnf)
  ((try (refine Exists.intro none ?_;conv=>whnf));refine tOwn0 ?_;conv=>whnf)
  ((try (refine Exists.intro none ?_;conv=>whnf));refine tOwn0 ?_;conv=>whnf)
  cases hq:zbb (zac (stdR r)) (shl 1 r.id) with
  | true =>
   rw [if_pos rfl,if_pos rfl]
   have kw:=kw
   rw [show zbb (zac (stdR r)) (stdR r).votes=true from hq] at kw
   ((try ((refine Exists.intro none ?_);(conv=>whnf)));first | (refine zai (kw) (by simp only [List.drop_zero,List.take_length]) ?_;conv=>whnf))
   ((refine Exists.intro (some ([(1000000,1000000)],[(1000000,1000000),(1000001,1000001),(1000002,1000002),(1000003,1000003)],[])) ?_);(conv=>whnf);first | ((with_reducible refine zam (kl) ?_);conv=>whnf))
   (refine zae [(1000000,1000000),(1000001,1000001),(1000002,1000002),(1000003,1000003)] [] ?_;(conv=>whnf);(refine wkx ?_;refine ⟨?_,?_,?_⟩<;>(conv=>whnf)<;>repeat' first | exact wkc | (with_reducible refine And.intro ?_ ?_)<;>first | exact wks | refine wko ?_ | refine wki ?_ | refine wkb ?_ | (refine zan ?_;conv=>whnf) | (refine zah ?_;conv=>whnf) | (refine zag ?_;conv=>whnf) | conv=>whnf))
   all_goals first | rfl | exact .inl rfl | (rw [zc8];exact .inl rfl) | (rw [zci];exact .inl rfl) | trace_state
  | false =>
   rw [if_neg (by decide),if_neg (by decide)]
   have kw:=kw
   rw [show zbb (zac (stdR r)) (stdR r).votes=false from hq] at kw
   ((try ((refine Exists.intro none ?_);(conv=>whnf)));first | (refine zai (kw) (by simp only [List.drop_zero,List.take_length]) ?_;conv=>whnf))
   ((refine Exists.intro (some ([(1000000,1000000)],[(1000000,1000000),(1000001,1000001),(1000002,1000002),(1000003,1000003)],[(1,4000)])) ?_);(conv=>whnf);first | ((with_reducible refine zam (ka) ?_);conv=>whnf))
   (refine zad 1000000 9 1000000 _ _ rfl rfl rfl rfl ?_;refine zad 1000000 10 1000001 _ _ rfl rfl rfl rfl ?_;refine zad 1000000 39 1000002 _ _ rfl rfl rfl rfl ?_;refine zad 1000000 40 4000 _ _ rfl rfl rfl rfl ?_;refine zae [(1000000,1000000),(1000001,1000001),(1000002,1000002),(1000003,1000003)] [] ?_;(conv=>whnf);(refine wkx ?_;refine ⟨?_,?_,?_⟩<;>(conv=>whnf)<;>repeat' first | exact wkc | (with_reducible refine And.intro ?_ ?_)<;>first | exact wks | refine wko ?_ | refine wki ?_ | refine wkb ?_ | (refine zan ?_;conv=>whnf) | (refine zah ?_;conv=>whnf) | (refine zag ?_;conv=>whnf) | conv=>whnf))
   all_goals first | rfl | exact .inl rfl | (rw [zc8];exact .inl rfl) | (rw [zci];exact .inl rfl) | trace_state
abbrev tq (r:Rft):Rft:={ r with quiet:=farM (r.quiet+1) }
abbrev zeroM (n:Int):Int:=if 0 > n then 0 else n
abbrev tw (r:Rft):Rft:={ tq r with wait:=zeroM (r.wait - 1) }
abbrev ta (r:Rft):Rft:={ tw r with role:=1,lead:=-1,votes:=shl 1 r.id }
noncomputable abbrev taR (r:Rft):Rft:={ ta r with wait:=delay (zac (ta r)) r.id }
noncomputable abbrev zcf (r:Rft):Bool:=bitB (bor (zac r).full (zac r).wit) r.id
noncomputable def tickR (r:Rft):Rft :=
 if zcf r=false then tq r else if 0 < zeroM (r.wait - 1) then tw r else
 if zbb (zac (taR r)) (shl 1 r.id)=true then ze3 (taR r) else taR r
noncomputable def tickO (r:Rft):List (List PV) :=
 if zcf r=false then [] else if 0 < zeroM (r.wait - 1) then [] else
 if zbb (zac (taR r)) (shl 1 r.id)=true then zgv (taR r) else if r.hard.term < 1099511627776 then (votL (taR r)).map (askM (taR r) 1 (r.hard.term+1)) else []
theorem zdo (c:Conf) {i:Int} (h:0≤i∧i < 7):0≤delay c i∧delay c i≤32:=by
 unfold delay
 have e1:IntKind.i64.wrap (2 * i)=2 * i:=zal (by omega) (by omega)
 have e2:IntKind.i64.wrap (7+i)=7+i:=zal (by omega) (by omega)
 have e3:IntKind.i64.wrap (2 * (7+i))=2 * (7+i):=zal (by omega) (by omega)
 have e4:IntKind.i64.wrap (6+2 * i)=6+2 * i:=zal (by omega) (by omega)
 have e5:IntKind.i64.wrap (6+2 * (7+i))=6+2 * (7+i):=zal (by omega) (by omega)
 rw [e1,e2,e3,e4,e5]
 split
 ·omega
 ·split<;>omega
set_option maxHeartbeats 8000000 in
theorem c_tick (r : Rft) (hf : Fit r) (out : List (List PV)) (ho : out.length ≤ 4000000) :
    CtrE Tryz.prog 46 [.pt 1000000 0] [(1000000,repI r out)] (obI r out) (.tu []) [(1000000,repX (tickR r) (out++tickO r))] obX:=by
 have hm:r.hard.log.length≤maxLen:=zak (by have:=hf.log;omega)
 have kv:=zlu (tq r) hm
 have kb:=zw1 (tw r) out hf.id
 have kc:=zem (ta r) hm
 have kd:=zjx (zac (ta r)) r.id
 have kw:=zk4 (taR r) hm
 have hq1:0≤farM (r.quiet+1)∧farM (r.quiet+1)≤1099511627776:=by have:=hf.quiet;unfold farM;split<;>omega
 have kst:=zi6 (taR r) { id:=hf.id,log:=hf.log,snap:=hf.snap,base:=hf.base,term:=hf.term,round:=hf.round,quiet:=hq1,wait:=by have:=zdo (zac (ta r)) hf.id;show 0≤delay (zac (ta r)) r.id∧delay (zac (ta r)) r.id≤1099511627776;omega,next:=hf.next,silent:=hf.silent,reads:=hf.reads } out ho
 have kca:=zmu (taR r) hm out ho 1 (r.hard.term+1)
 have hT:=hf.term
 have hQ:=hf.quiet
 have hW:=hf.wait
 have ew1:IntKind.i64.wrap (r.quiet+1)=r.quiet+1:=zal (by omega) (by omega)
 have ew2:IntKind.i64.wrap (r.wait - 1)=r.wait - 1:=zal (by omega) (by omega)
 have ew3:IntKind.i64.wrap (r.hard.term+1)=r.hard.term+1:=zal (by omega) (by omega)
 unfold tickR tickO
 refine za1 Tryz.func46 ?_;conv=>whnf
 rw [ew1]
 conv=>whnf
 ((try (refine Exists.intro none ?_;conv=>whnf));refine tOwn0 ?_;conv=>whnf)
 ((try (refine Exists.intro none ?_;conv=>whnf));refine tOwn0 ?_;conv=>whnf)
 ((try (refine Exists.intro none ?_;conv=>whnf));refine tOwn0 ?_;conv=>whnf)
 cases hv:zcf r with
 | false =>
  rw [if_pos rfl,if_pos rfl,List.append_nil]
  rw [show bitB (bor (zac (tq r)).full (zac (tq r)).wit) (tq r).id=false from hv] at kv
  ((try ((refine Exists.intro none ?_);(conv=>whnf)));first | (refine zai (kv) (by simp only [List.drop_zero,List.take_length]) ?_;conv=>whnf))
  (refine zad 1000000 9 1000000 _ _ rfl rfl rfl rfl ?_;refine zad 1000000 10 1000001 _ _ rfl rfl rfl rfl ?_;refine zad 1000000 39 1000002 _ _ rfl rfl rfl rfl ?_;refine zad 1000000 40 1000003 _ _ rfl rfl rfl rfl ?_;refine zae [(1000000,1000000),(1000001,1000001),(1000002,1000002),(1000003,1000003)] [] ?_;(conv=>whnf);exact wkD)
 | true =>
  rw [if_neg (show ¬ true=false by decide),if_neg (show ¬ true=false by decide)]
  rw [show bitB (bor (zac (tq r)).full (zac (tq r)).wit) (tq r).id=true from hv] at kv
  ((try ((refine Exists.intro none ?_);(conv=>whnf)));first | (refine zai (kv) (by simp only [List.drop_zero,List.take_length]) ?_;conv=>whnf))
  rw [ew2]
  conv=>whnf
  (refine tSp (fun h=>?_) (fun h=>?_)<;>conv=>whnf)
  ·have h:0 < zeroM (r.wait - 1):=h
   rw [if_pos h,if_pos h,List.append_nil]
   (refine zad 1000000 9 1000000 _ _ rfl rfl rfl rfl ?_;refine zad 1000000 10 1000001 _ _ rfl rfl rfl rfl ?_;refine zad 1000000 39 1000002 _ _ rfl rfl rfl rfl ?_;refine zad 1000000 40 1000003 _ _ rfl rfl rfl rfl ?_;refine zae [(1000000,1000000),(1000001,1000001),(1000002,1000002),(1000003,1000003)] [] ?_;(conv=>whnf);exact wkD)
  ·have h:¬ 0 < zeroM (r.wait - 1):=h
   rw [if_neg h,if_neg h]
   ((refine Exists.intro (some ([(1000000,1000000)],[(1000000,1000000),(1000001,1000001),(1000002,1000002),(1000003,1000003)],[(999999,0)])) ?_);(conv=>whnf);(with_reducible refine zam (kb) ?_);(conv=>whnf);refine And.intro (And.intro rfl rfl) ?_;conv=>whnf)
   ((try (refine Exists.intro none ?_;conv=>whnf));refine tOwn0 ?_;conv=>whnf)
   ((try (refine Exists.intro none ?_;conv=>whnf));refine tOwn0 ?_;conv=>whnf)
   ((try (refine Exists.intro none ?_;conv=>whnf));refine tOwn0 ?_;conv=>whnf)
   ((try ((refine Exists.intro none ?_);(conv=>whnf)));first | (refine zai (kc) (by simp only [List.drop_zero,List.take_length]) ?_;conv=>whnf))
   ((try (refine Exists.intro none ?_;conv=>whnf));(with_reducible refine zaa (kd) ?_);conv=>whnf)
   ((try (refine Exists.intro none ?_;conv=>whnf));refine tOwn0 ?_;conv=>whnf)
   ((try (refine Exists.intro none ?_;conv=>whnf));refine tOwn0 ?_;conv=>whnf)
   ((try (refine Exists.intro none ?_;conv=>whnf));refine tOwn0 ?_;conv=>whnf)
   cases hq:zbb (zac (taR r)) (shl 1 r.id) with
   | true =>
    rw [if_pos rfl,if_pos rfl]
    have kw:=kw
    rw [show zbb (zac (taR r)) (taR r).votes=true from hq] at kw
    ((try ((refine Exists.intro none ?_);(conv=>whnf)));first | (refine zai (kw) (by simp only [List.drop_zero,List.take_length]) ?_;conv=>whnf))
    ((refine Exists.intro (some ([(1000000,1000000)],[(1000000,1000000),(1000001,1000001),(1000002,1000002),(1000003,1000003)],[])) ?_);(conv=>whnf);first | ((with_reducible refine zam (kst) ?_);conv=>whnf))
    (refine zae [(1000000,1000000),(1000001,1000001),(1000002,1000002),(1000003,1000003)] [] ?_;(conv=>whnf);exact wkD)
   | false =>
    rw [if_neg (show ¬ false=true by decide),if_neg (show ¬ false=true by decide)]
    have kw:=kw
    rw [show zbb (zac (taR r)) (taR r).votes=false from hq] at kw
    ((try ((refine Exists.intro none ?_);(conv=>whnf)));first | (refine zai (kw) (by simp only [List.drop_zero,List.take_length]) ?_;conv=>whnf))
    (refine tSp (fun h=>?_) (fun h=>?_)<;>conv=>whnf)
    ·have h:r.hard.term < 1099511627776:=h
     rw [if_pos h]
     rw [ew3]
     conv=>whnf
     ((refine Exists.intro (some ([(1000000,1000000)],[(1000000,1000000),(1000001,1000001),(1000002,1000002),(1000003,1000003)],[(1,4000)])) ?_);(conv=>whnf);first | ((with_reducible refine zam (kca) ?_);conv=>whnf))
     (refine zad 1000000 9 1000000 _ _ rfl rfl rfl rfl ?_;refine zad 1000000 10 1000001 _ _ rfl rfl rfl rfl ?_;refine zad 1000000 39 1000002 _ _ rfl rfl rfl rfl ?_;refine zad 1000000 40 4000 _ _ rfl rfl rfl rfl ?_;refine zae [(1000000,1000000),(1000001,1000001),(1000002,1000002),(1000003,1000003)] [] ?_;(conv=>whnf);exact wkD)
    ·have h:¬ r.hard.term < 1099511627776:=h
     rw [if_neg h,List.append_nil]
     (refine zad 1000000 9 1000000 _ _ rfl rfl rfl rfl ?_;refine zad 1000000 10 1000001 _ _ rfl rfl rfl rfl ?_;refine zad 1000000 39 1000002 _ _ rfl rfl rfl rfl ?_;refine zad 1000000 40 1000003 _ _ rfl rfl rfl rfl ?_;refine zae [(1000000,1000000),(1000001,1000001),(1000002,1000002),(1000003,1000003)] [] ?_;(conv=>whnf);exact wkD)
theorem zc6 {g x:Int} (h:inR g x=true):0≤x∧x≤g:=of_decide_eq_true h
theorem zo7 {g:Int}{a:Arr} (h:arrR g a=true):∀ i,i < 7→0≤a.at i∧a.at i≤g:=by
 unfold arrR at h
 simp only [Bool.and_eq_true] at h
 obtain ⟨h0,h1,h2,h3,h4,h5,h6⟩:=h
 intro i hi
 rcases (by omega:i=0∨i=1∨i=2∨i=3∨i=4∨i=5∨i=6) with rfl | rfl | rfl | rfl | rfl | rfl | rfl
 ·exact zc6 h0
 ·exact zc6 h1
 ·exact zc6 h2
 ·exact zc6 h3
 ·exact zc6 h4
 ·exact zc6 h5
 ·exact zc6 h6
structure Rgt (r:Rft):Prop where
 hard:hardB r.hard=true
 id:0≤r.id∧r.id < 7
 com:r.hard.base≤r.commit∧r.commit≤lastI r.hard
 role:0≤r.role∧r.role≤3
 lead:-1≤r.lead∧r.lead < 7
 wait:0≤r.wait∧r.wait≤100
 quiet:0≤r.quiet∧r.quiet≤1099511627776
 round:0≤r.round∧r.round≤1099511627776
 votes:0≤r.votes∧r.votes≤127
 next:∀ i,i < 7→0≤r.next.at i∧r.next.at i≤1099511627776
 mtch:∀ i,i < 7→0≤r.mtch.at i∧r.mtch.at i≤lastI r.hard
 silent:∀ i,i < 7→0≤r.silent.at i∧r.silent.at i≤1099511627776
 reads:rdsB r=true
 own:r.role=3→r.lead=r.id
theorem zh4 {r:Rft} (h:zcw r=true):Rgt r:=by
 unfold zcw at h
 simp only [Bool.and_eq_true,decide_eq_true_eq] at h
 obtain ⟨h1,h2,h3,h4,h5,h6,h7,h8,⟨h9,h10⟩,h11,h12,h13,h14,h15,h16⟩:=h
 have h2:=zc6 h2
 exact ⟨h1,by omega,⟨h3,h4⟩,zc6 h5,⟨h6,h7⟩,zc6 h8,zc6 h9,zc6 h10,zc6 h11,zo7 h12,zo7 h13,zo7 h14,h15,fun e=>by rw [if_pos e] at h16;exact of_decide_eq_true h16⟩
theorem Rgt.fit {r:Rft} (h:Rgt r) (hm:r.hard.log.length < 4294967):Fit r:=by
 have hA:=za9 h.hard
 refine ⟨h.id,hm,?_,hA.1.b,hA.1.t,h.round,h.quiet,⟨h.wait.1,by have:=h.wait.2;omega⟩,h.next,h.silent,?_⟩
 ·have:=h.hard
  unfold hardB at this
  simp only [Bool.and_eq_true,decide_eq_true_eq] at this
  omega
 ·have:=h.reads
  unfold rdsB at this
  split at this
  ·cases this
  ·omega
set_option maxHeartbeats 4000000 in
theorem zus (r : Rft) (hr : zcw r = true) (hm : r.hard.log.length < 4294967) (hn : r.role ≠ 3) :
    Ctr Tryz.prog 12 [.ag r.enc] (.tu [.ag (tickR r).enc,.sl 16 (tickO r),iv 0]) []:=by
 have hg:=zh4 hr
 have hf:=hg.fit hm
 have ko:=c_of r hf.snap (by omega) (by have:=hf.reads;omega) hr
 have kt:=c_tick r hf [] (by decide)
 refine sBody Tryz.func12 ?_;conv=>whnf
 ((refine Exists.intro (some ([(28,500)],[],[(0,600),(1,601),(2,602),(3,603)])) ?_);(conv=>whnf);first | ((with_reducible refine zam (ko) ?_);conv=>whnf))
 (refine tSp (fun h=>?_) (fun h=>?_)<;>conv=>whnf)
 ·exact absurd h hn
 ·((refine Exists.intro (some ([(1000000,500)],[(1000000,600),(1000001,601),(1000002,602),(1000003,603)],[])) ?_);(conv=>whnf);refine zax (kt) (by kernel_rfl) (by kernel_rfl) (by kernel_rfl) ?_;conv=>whnf)
  exact zab rfl rfl
noncomputable abbrev rNew0 (id:Int) (h:Hrd):Rft:=⟨id,h,h.base,0,-1,0,0,0,0,zA,zA,zA,[]⟩
noncomputable abbrev newR (id:Int) (h:Hrd):Rft:={ rNew0 id h with wait:=delay (zac (rNew0 id h)) id }
set_option maxHeartbeats 4000000 in
theorem c_New (id : Int) (hid : 0 ≤ id ∧ id < 7) (a : Hrd) (hm : a.log.length ≤ 4294967) (hh : hardB a = true) :
    Ctr Tryz.prog 53 [iv id,.ag a.enc] (.tu [.ag (newR id a).enc,iv 0]) []:=by
 have kc:=zg6 a (zak (by omega))
 rw [hh,if_pos rfl] at kc
 have hA:=za9 hh
 have hs:a.snap.length≤4294967296:=by
  have:=hh
  unfold hardB at this
  simp only [Bool.and_eq_true,decide_eq_true_eq] at this
  omega
 have c1:=(zdq a.snap hs).frz (zbw (b:=false) (List.Mem.head _) rfl)
 have c2:=(zc2 a.log (by omega)).frz (zbw (b:=false) (List.Mem.head _) rfl)
 have kv:=zem (rNew0 id a) (zak (by show a.log.length≤_;omega))
 have kd:=zjx (zac (rNew0 id a)) id
 refine sBody Tryz.func53 ?_;conv=>whnf
 ((try (refine Exists.intro none ?_;conv=>whnf));(with_reducible refine zaa (kc) ?_);conv=>whnf)
 (refine tSp (fun h=>?_) (fun h=>?_)<;>conv=>whnf)
 ·omega
 (refine tSp (fun h=>?_) (fun h=>?_)<;>conv=>whnf)
 ·omega
 ((try (refine Exists.intro none ?_;conv=>whnf));(with_reducible refine zaa (c1) ?_);conv=>whnf)
 (refine tNew0 ?_;conv=>whnf)
 ((try (refine Exists.intro none ?_;conv=>whnf));(with_reducible refine zaa (c2) ?_);conv=>whnf)
 (refine tNew0 ?_;conv=>whnf)
 ((try ((refine Exists.intro none ?_);(conv=>whnf)));refine zaw (kv) (by (repeat' (first | exact zav | exact zau | refine zar ?_ ?_ | refine zaq ?_ ?_ | exact SubV.refl _ | exact za2 | (with_reducible exact za7 rfl) | refine za6 ?_ | refine za8 ?_ | refine za5 ?_))) ?_;conv=>whnf)
 ((try (refine Exists.intro none ?_;conv=>whnf));(with_reducible refine zaa (kd) ?_);conv=>whnf)
 refine zat [] (by intro q hq;cases hq) (zah ⟨zag ?_,zaj _ rfl,rfl⟩)
 conv=>whnf
 repeat' (refine And.intro ?_ ?_)
 all_goals first | exact True.intro | rfl | (with_reducible exact .inl rfl) | exact .inr (.inl ⟨rfl,rfl⟩) | exact .inl rfl | trace_state
set_option maxHeartbeats 2000000 in
theorem zer (r : Rft) (out : List (List PV)) (ho : out.length ≤ 4294967) (m : Mg) (k ix rd : Int) (y : Bool) :
    CtrE Tryz.prog 131 [.pt 1000000 0,.ag m.enc,.ag (msgV k 0 0 0 ix 0 0 rd y .nl cz .nl)] [(1000000,repI r out)] (obI r out) (.tu []) [(1000000,repM r (out++[msgV k r.id m.frm r.hard.term ix 0 0 rd y .nl cz .nl]))] (obM r (out++[msgV k r.id m.frm r.hard.term ix 0 0 rd y .nl cz .nl])):=by
 have ks:=zmg r out ho k 0 0 0 ix 0 0 rd y cz m.frm r.hard.term
 refine za1 Tryz.func131 ?_;conv=>whnf
 ((refine Exists.intro (some ([(1000000,1000000)],[(1000000,1000000),(1000001,1000001),(1000002,1000002),(1000003,1000003)],[(1,900)])) ?_);(conv=>whnf);first | ((with_reducible refine zam (ks) ?_);conv=>whnf))
 (refine zae [(1000000,1000000),(1000001,1000001),(1000002,1000002),(1000003,1000003),(1,900)] [] ?_;(conv=>whnf);exact wkD)
set_option maxHeartbeats 2000000 in
theorem zw0 (r : Rft) (out : List (List PV)) (ho : out.length ≤ 4294967) (m : Mg) (k ix rd : Int) (y : Bool) :
    CtrE Tryz.prog 131 [.pt 1000000 0,.ag m.enc,.ag (msgV k 0 0 0 ix 0 0 rd y .nl cz .nl)] [(1000000,repFI r out)] [(1000000,rdO r),(1000001,some (false,16,out))] (.tu []) [(1000000,repFM r (out++[msgV k r.id m.frm r.hard.term ix 0 0 rd y .nl cz .nl]))] [(1000000,rdO r),(1000001,none),(1,some (false,16,out++[msgV k r.id m.frm r.hard.term ix 0 0 rd y .nl cz .nl]))]:=by
 have ks:=zq0 r out ho k 0 0 0 ix 0 0 rd y cz m.frm r.hard.term
 refine za1 Tryz.func131 ?_;conv=>whnf
 ((refine Exists.intro (some ([(1000000,1000000)],[(1000000,1000000),(1000001,1000001)],[(1,900)])) ?_);(conv=>whnf);first | ((with_reducible refine zam (ks) ?_);conv=>whnf))
 (refine zae [(1000000,1000000),(1000001,1000001),(1,900)] [] ?_;(conv=>whnf);exact wkD)
noncomputable def zj0 (r:Rft) (m:Mg):List (List PV):=if asked r m=true then [msgV 2 r.id m.frm m.term 0 0 0 0 true .nl cz .nl] else [msgV 2 r.id m.frm r.hard.term 0 0 0 0 false .nl cz .nl]
set_option maxHeartbeats 4000000 in
theorem c_asked (r : Rft) (hm : r.hard.log.length ≤ maxLen) (out : List (List PV)) (ho : out.length ≤ 4294967) (m : Mg) :
    CtrE Tryz.prog 128 [.pt 1000000 0,.ag m.enc] [(1000000,repI r out)] (obI r out) (.tu []) [(1000000,repX r (out++zj0 r m))] obX:=by
 have ka:=c_Asked r hm m
 have k1:=zmg r out ho 2 0 0 0 0 0 0 0 true cz m.frm m.term
 have k2:=zmg r out ho 2 0 0 0 0 0 0 0 false cz m.frm r.hard.term
 unfold zj0
 cases hq:asked r m with
 | true =>
  rw [hq] at ka
  rw [if_pos rfl]
  refine za1 Tryz.func128 ?_;conv=>whnf
  ((try (refine Exists.intro none ?_;conv=>whnf));refine tOwn0 ?_;conv=>whnf)
  ((try (refine Exists.intro none ?_;conv=>whnf));refine tOwn0 ?_;conv=>whnf)
  ((try (refine Exists.intro none ?_;conv=>whnf));refine tOwn0 ?_;conv=>whnf)
  ((try ((refine Exists.intro none ?_);(conv=>whnf)));first | (refine zai (ka) (by simp only [List.drop_zero,List.take_length]) ?_;conv=>whnf))
  ((refine Exists.intro (some ([(1000000,1000000)],[(1000000,1000000),(1000001,1000001),(1000002,1000002),(1000003,1000003)],[(1,900)])) ?_);(conv=>whnf);first | ((with_reducible refine zam (k1) ?_);conv=>whnf))
  (refine zad 1000000 9 1000000 _ _ rfl rfl rfl rfl ?_;refine zad 1000000 10 1000001 _ _ rfl rfl rfl rfl ?_;refine zad 1000000 39 1000002 _ _ rfl rfl rfl rfl ?_;refine zad 1000000 40 900 _ _ rfl rfl rfl rfl ?_;refine zae [(1000000,1000000),(1000001,1000001),(1000002,1000002),(1000003,1000003)] [] ?_;(conv=>whnf);exact wkD)
 | false =>
  rw [hq] at ka
  rw [if_neg (by decide)]
  refine za1 Tryz.func128 ?_;conv=>whnf
  ((try (refine Exists.intro none ?_;conv=>whnf));refine tOwn0 ?_;conv=>whnf)
  ((try (refine Exists.intro none ?_;conv=>whnf));refine tOwn0 ?_;conv=>whnf)
  ((try (refine Exists.intro none ?_;conv=>whnf));refine tOwn0 ?_;conv=>whnf)
  ((try ((refine Exists.intro none ?_);(conv=>whnf)));first | (refine zai (ka) (by simp only [List.drop_zero,List.take_length]) ?_;conv=>whnf))
  ((refine Exists.intro (some ([(1000000,1000000)],[(1000000,1000000),(1000001,1000001),(1000002,1000002),(1000003,1000003)],[(1,900)])) ?_);(conv=>whnf);first | ((with_reducible refine zam (k2) ?_);conv=>whnf))
  (refine zad 1000000 9 1000000 _ _ rfl rfl rfl rfl ?_;refine zad 1000000 10 1000001 _ _ rfl rfl rfl rfl ?_;refine zad 1000000 39 1000002 _ _ rfl rfl rfl rfl ?_;refine zad 1000000 40 900 _ _ rfl rfl rfl rfl ?_;refine zae [(1000000,1000000),(1000001,1000001),(1000002,1000002),(1000003,1000003)] [] ?_;(conv=>whnf);exact wkD)
noncomputable def zh8 (r:Rft) (m:Mg):List (List PV):=if m.kind=3 then [msgV 4 r.id m.frm r.hard.term 0 0 0 0 false .nl cz .nl] else if m.kind=5∨m.kind=7 then [msgV 6 r.id m.frm r.hard.term 0 0 0 0 false .nl cz .nl] else []
set_option maxHeartbeats 4000000 in
theorem c_elder (r : Rft) (out : List (List PV)) (ho : out.length ≤ 4294967) (m : Mg) :
    CtrE Tryz.prog 129 [.pt 1000000 0,.ag m.enc] [(1000000,repI r out)] (obI r out) (.tu []) [(1000000,repX r (out++zh8 r m))] obX:=by
 have k4:=zer r out ho m 4 0 0 false
 have k6:=zer r out ho m 6 0 0 false
 unfold zh8
 refine za1 Tryz.func129 ?_;conv=>whnf
 (refine tSp (fun h=>?_) (fun h=>?_)<;>conv=>whnf)
 ·have h:m.kind=3:=h
  rw [if_pos h]
  ((refine Exists.intro (some ([(1000000,1000000)],[(1000000,1000000),(1000001,1000001),(1000002,1000002),(1000003,1000003)],[(1,900)])) ?_);(conv=>whnf);first | ((with_reducible refine zam (k4) ?_);conv=>whnf))
  (refine zad 1000000 9 1000000 _ _ rfl rfl rfl rfl ?_;refine zad 1000000 10 1000001 _ _ rfl rfl rfl rfl ?_;refine zad 1000000 39 1000002 _ _ rfl rfl rfl rfl ?_;refine zad 1000000 40 900 _ _ rfl rfl rfl rfl ?_;refine zae [(1000000,1000000),(1000001,1000001),(1000002,1000002),(1000003,1000003)] [] ?_;(conv=>whnf);exact wkD)
 ·have h3:¬ m.kind=3:=h
  rw [if_neg h3]
  (refine tSp (fun h=>?_) (fun h=>?_)<;>conv=>whnf)
  ·have h:m.kind=5:=h
   rw [if_pos (.inl h)]
   (first | refine tYes ?_ | refine tNo ?_)
   conv=>whnf
   ((refine Exists.intro (some ([(1000000,1000000)],[(1000000,1000000),(1000001,1000001),(1000002,1000002),(1000003,1000003)],[(1,900)])) ?_);(conv=>whnf);first | ((with_reducible refine zam (k6) ?_);conv=>whnf))
   (refine zad 1000000 9 1000000 _ _ rfl rfl rfl rfl ?_;refine zad 1000000 10 1000001 _ _ rfl rfl rfl rfl ?_;refine zad 1000000 39 1000002 _ _ rfl rfl rfl rfl ?_;refine zad 1000000 40 900 _ _ rfl rfl rfl rfl ?_;refine zae [(1000000,1000000),(1000001,1000001),(1000002,1000002),(1000003,1000003)] [] ?_;(conv=>whnf);exact wkD)
  ·have h5:¬ m.kind=5:=h
   (refine tSp (fun h=>?_) (fun h=>?_)<;>conv=>whnf)
   ·have h:m.kind=7:=h
    rw [if_pos (.inr h)]
    ((refine Exists.intro (some ([(1000000,1000000)],[(1000000,1000000),(1000001,1000001),(1000002,1000002),(1000003,1000003)],[(1,900)])) ?_);(conv=>whnf);first | ((with_reducible refine zam (k6) ?_);conv=>whnf))
    (refine zad 1000000 9 1000000 _ _ rfl rfl rfl rfl ?_;refine zad 1000000 10 1000001 _ _ rfl rfl rfl rfl ?_;refine zad 1000000 39 1000002 _ _ rfl rfl rfl rfl ?_;refine zad 1000000 40 900 _ _ rfl rfl rfl rfl ?_;refine zae [(1000000,1000000),(1000001,1000001),(1000002,1000002),(1000003,1000003)] [] ?_;(conv=>whnf);exact wkD)
   ·have h7:¬ m.kind=7:=h
    rw [if_neg (by rintro (h | h);exact h5 h;exact h7 h),List.append_nil]
    (refine zad 1000000 9 1000000 _ _ rfl rfl rfl rfl ?_;refine zad 1000000 10 1000001 _ _ rfl rfl rfl rfl ?_;refine zad 1000000 39 1000002 _ _ rfl rfl rfl rfl ?_;refine zad 1000000 40 1000003 _ _ rfl rfl rfl rfl ?_;refine zae [(1000000,1000000),(1000001,1000001),(1000002,1000002),(1000003,1000003)] [] ?_;(conv=>whnf);exact wkD)
set_option maxHeartbeats 2000000 in
theorem c_fallF (r : Rft) (hm : r.hard.log.length ≤ maxLen) (out : List (List PV)) (term lead : Int) :
    CtrE Tryz.prog 118 [.pt 1000000 0,iv term,iv lead] [(1000000,repFI r out)] [(1000000,rdO r),(1000001,some (false,16,out))] (.tu [])
     [(1000000,repV (fallR r term lead) (.sl 1 (r.hard.snap.map encB)) (.sl 16 (r.hard.log.map Ent.enc)) (.ow 2 0 0) (.ow 1000001 0 out.length))] [(1000000,rdO r),(1000001,some (false,16,out)),(2,some (false,13,[]))]:=by
 have kc:=zem { r with role:=0,lead:=lead,votes:=0,reads:=[],next:=zA,mtch:=zA,silent:=zA } hm
 have kd:=zjx (zac r) r.id
 unfold fallR
 refine za1 Tryz.func118 ?_;conv=>whnf
 ((try ((refine Exists.intro none ?_);(conv=>whnf)));refine zaw (kc) (by (repeat' (first | exact zav | exact zau | refine zar ?_ ?_ | refine zaq ?_ ?_ | exact SubV.refl _ | exact za2 | (with_reducible exact za7 rfl) | refine za6 ?_ | refine za8 ?_ | refine za5 ?_))) ?_;conv=>whnf)
 ((try (refine Exists.intro none ?_;conv=>whnf));(with_reducible refine zaa (kd) ?_);conv=>whnf)
 (refine tSp (fun h=>?_) (fun h=>?_)<;>conv=>whnf)
 ·rw [if_pos (by omega)]
  refine zd3 1000000 39 3000 13 _ rfl rfl rfl ?_
  conv=>whnf
  (refine zae [(1000000,1000000),(1000001,1000001),(2,3000)] [] ?_;(conv=>whnf);exact wkD)
 ·rw [if_neg (by omega)]
  refine zd3 1000000 39 3000 13 _ rfl rfl rfl ?_
  conv=>whnf
  (refine zae [(1000000,1000000),(1000001,1000001),(2,3000)] [] ?_;(conv=>whnf);exact wkD)
noncomputable abbrev folR (r:Rft) (m:Mg):Rft:={ fallR r r.hard.term m.frm with quiet:=0 }
noncomputable abbrev folM (r:Rft) (m:Mg) (ix:Int) (y:Bool):List PV:=msgV 6 (folR r m).id m.frm (folR r m).hard.term ix 0 0 m.round y .nl cz .nl
theorem zja (r:Rft) (l:Int):(fallR r r.hard.term l).hard=r.hard:=by unfold fallR;rw [if_neg (by omega)]
theorem zdu (r : Rft) (hm : r.hard.log.length ≤ maxLen) (out : List (List PV)) (t l : Int) :
    CtrE Tryz.prog 118 [.pt 1000000 0,iv t,iv l] [(1000000,repI r out)] (obI r out) (.tu [])
     [(1000000,repV (fallR r t l) (snW (fallR r t l) 1000000) (lgW (fallR r t l) 1000001) (rdW (fallR r t l) 2) (.ow 1000003 0 out.length))] [(1000000,snO (fallR r t l)),(1000001,lgO (fallR r t l)),(1000002,rdO r),(1000003,some (false,16,out)),(2,rdO (fallR r t l))]:=by
 have k:=c_fall r hm out t l
 unfold snW lgW snO lgO
 rw [zc8,zci]
 exact k
theorem zzt (r : Rft) (hm : r.hard.log.length ≤ maxLen) (out : List (List PV)) (t l : Int) :
    CtrE Tryz.prog 118 [.pt 1000000 0,iv t,iv l] [(1000000,repFI r out)] [(1000000,rdO r),(1000001,some (false,16,out))] (.tu [])
     [(1000000,repV (fallR r t l) (.sl 1 ((fallR r t l).hard.snap.map encB)) (.sl 16 ((fallR r t l).hard.log.map Ent.enc)) (rdW (fallR r t l) 2) (.ow 1000001 0 out.length))] [(1000000,rdO r),(1000001,some (false,16,out)),(2,rdO (fallR r t l))]:=by
 have k:=c_fallF r hm out t l
 rw [zc8,zci]
 exact k
set_option maxHeartbeats 2000000 in
theorem zpu (r : Rft) (hm : r.hard.log.length ≤ maxLen) (out : List (List PV)) (ho : out.length ≤ 4294967) (m : Mg) (ix : Int) (y : Bool) :
    CtrE Tryz.prog 188 [.pt 1000000 0,.ag m.enc,.ag (msgV 6 0 0 0 ix 0 0 0 y .nl cz .nl)] [(1000000,repFI r out)] [(1000000,rdO r),(1000001,some (false,16,out))] (.tu [])
     [(1000000,repX (folR r m) (out++[folM r m ix y]))] [(1000000,none),(1000001,none)]:=by
 have kf:=zzt r hm out r.hard.term m.frm
 have ka:=zw0 (folR r m) out ho m 6 ix m.round y
 unfold folM
 unfold folR at *
 generalize fallR r r.hard.term m.frm=x at *
 refine za1 Tryz.func188 ?_;conv=>whnf
 ((refine Exists.intro (some ([(1000000,1000000)],[(1000000,1000000),(1000001,1000001)],[(2,3000)])) ?_);(conv=>whnf);first | ((with_reducible refine zam (kf) ?_);conv=>whnf))
 ((refine Exists.intro (some ([(1000000,1000000)],[(1000000,3000),(1000001,1000001)],[(1,4000)])) ?_);(conv=>whnf);first | ((with_reducible refine zam (ka) ?_);conv=>whnf))
 (refine zad 1000000 39 3000 _ _ rfl rfl rfl rfl ?_;refine zad 1000000 40 4000 _ _ rfl rfl rfl rfl ?_;refine zae [(1000000,1000000),(1000001,1000001)] [] ?_;(conv=>whnf);exact wkD)
set_option maxHeartbeats 2000000 in
theorem zuv (r : Rft) (hm : r.hard.log.length ≤ maxLen) (out : List (List PV)) (ho : out.length ≤ 4294967) (m : Mg) (ix : Int) (y : Bool) :
    CtrE Tryz.prog 188 [.pt 1000000 0,.ag m.enc,.ag (msgV 6 0 0 0 ix 0 0 0 y .nl cz .nl)] [(1000000,repI r out)] (obI r out) (.tu [])
     [(1000000,repX (folR r m) (out++[folM r m ix y]))] obX:=by
 have kf:=zdu r hm out r.hard.term m.frm
 have ka:=zer (folR r m) out ho m 6 ix m.round y
 unfold folM
 unfold folR at *
 generalize fallR r r.hard.term m.frm=x at *
 refine za1 Tryz.func188 ?_;conv=>whnf
 ((refine Exists.intro (some ([(1000000,1000000)],[(1000000,1000000),(1000001,1000001),(1000002,1000002),(1000003,1000003)],[(2,3000)])) ?_);(conv=>whnf);first | ((with_reducible refine zam (kf) ?_);conv=>whnf))
 ((refine Exists.intro (some ([(1000000,1000000)],[(1000000,1000000),(1000001,1000001),(1000002,3000),(1000003,1000003)],[(1,4000)])) ?_);(conv=>whnf);first | ((with_reducible refine zam (ka) ?_);conv=>whnf))
 (refine zad 1000000 9 1000000 _ _ rfl rfl rfl rfl ?_;refine zad 1000000 10 1000001 _ _ rfl rfl rfl rfl ?_;refine zad 1000000 39 3000 _ _ rfl rfl rfl rfl ?_;refine zad 1000000 40 4000 _ _ rfl rfl rfl rfl ?_;refine zae [(1000000,1000000),(1000001,1000001),(1000002,1000002),(1000003,1000003)] [] ?_;(conv=>whnf);exact wkD)
abbrev setH (r:Rft) (h:Hrd) (c:Int):Rft:={ r with hard:=h,commit:=c }
noncomputable def appE (r:Rft) (m:Mg):Int:=if r.role=3 then 0 else growE r.hard r.commit m
noncomputable def appR (r:Rft) (m:Mg):Rft:=if r.role=3 then r else if growE r.hard r.commit m=0 then folR (setH r (growO r.hard r.commit m).h (growO r.hard r.commit m).c) m else r
noncomputable def appO (r:Rft) (m:Mg):List (List PV):=if r.role=3 then [] else if growE r.hard r.commit m=0 then [folM (setH r (growO r.hard r.commit m).h (growO r.hard r.commit m).c) m (growO r.hard r.commit m).i (growO r.hard r.commit m).yes] else []
set_option maxHeartbeats 4000000 in
theorem zp8 (r : Rft) (hf : Fit r) (out : List (List PV)) (ho : out.length ≤ 4294967) (m : Mg) (hm : m.entries.length ≤ 4294967)
    (hl:growE r.hard r.commit m=0→(growO r.hard r.commit m).h.log.length≤maxLen) :
    CtrE Tryz.prog 133 [.pt 1000000 0,.ag m.enc] [(1000000,repI r out)] (obI r out) (iv (appE r m)) [(1000000,repX (appR r m) (out++appO r m))] obX:=by
 have hb:=hf.base
 have hl0:=hf.log
 have kg:=c_growV r.hard hf.snap (by omega) (by unfold isI;omega) r.commit m hm
 unfold appE appR appO
 refine za1 Tryz.func133 ?_;conv=>whnf
 (refine tSp (fun h=>?_) (fun h=>?_)<;>conv=>whnf)
 ·have h:r.role=3:=h
  rw [if_pos h,if_pos h,if_pos h,List.append_nil]
  (refine zad 1000000 9 1000000 _ _ rfl rfl rfl rfl ?_;refine zad 1000000 10 1000001 _ _ rfl rfl rfl rfl ?_;refine zad 1000000 39 1000002 _ _ rfl rfl rfl rfl ?_;refine zad 1000000 40 1000003 _ _ rfl rfl rfl rfl ?_;refine zae [(1000000,1000000),(1000001,1000001),(1000002,1000002),(1000003,1000003)] [] ?_;(conv=>whnf);exact wkD)
 ·have h:¬ r.role=3:=h
  rw [if_neg h,if_neg h,if_neg h]
  ((try (refine Exists.intro none ?_;conv=>whnf));refine tOwn0 ?_;conv=>whnf)
  ((try (refine Exists.intro none ?_;conv=>whnf));refine tOwn0 ?_;conv=>whnf)
  by_cases he:growE r.hard r.commit m=0
  ·have kf:=zpu (setH r (growO r.hard r.commit m).h (growO r.hard r.commit m).c) (hl he) out ho m (growO r.hard r.commit m).i (growO r.hard r.commit m).yes
   rw [if_pos he,if_pos he,he]
   rw [(zfg he).2.2] at kg
   ((try ((refine Exists.intro none ?_);(conv=>whnf)));first | (refine zai (kg) (by simp only [List.drop_zero,List.take_length]) ?_;conv=>whnf))
   (refine tNew0 ?_;conv=>whnf)
   ((refine Exists.intro (some ([(1000000,1000000)],[(1000000,1000002),(1000001,1000003)],[])) ?_);(conv=>whnf);first | ((with_reducible refine zam (kf) ?_);conv=>whnf))
   (refine zae [(1000000,1000000),(1000001,1000001),(1000002,1000002),(1000003,1000003)] [] ?_;(conv=>whnf);exact wkD)
  ·rw [if_neg he,if_neg he,List.append_nil]
   rw [(zc9 he).2.2] at kg
   ((try ((refine Exists.intro none ?_);(conv=>whnf)));first | (refine zai (kg) (by simp only [List.drop_zero,List.take_length]) ?_;conv=>whnf))
   (refine tSp (fun h=>?_) (fun h=>?_)<;>conv=>whnf)
   ·(refine zad 1000000 9 1000000 _ _ rfl rfl rfl rfl ?_;refine zad 1000000 10 1000001 _ _ rfl rfl rfl rfl ?_;refine zad 1000000 39 1000002 _ _ rfl rfl rfl rfl ?_;refine zad 1000000 40 1000003 _ _ rfl rfl rfl rfl ?_;refine zae [(1000000,1000000),(1000001,1000001),(1000002,1000002),(1000003,1000003)] [] ?_;(conv=>whnf);exact wkD)
   ·exact absurd (by first | exact h | (simpa using h)) he
noncomputable abbrev insEE (r:Rft) (m:Mg):Int:=instE r.hard m.index m.logTerm m.conf m.snap
noncomputable abbrev insHH (r:Rft) (m:Mg):Hrd:=instH r.hard m.index m.logTerm m.conf m.snap
noncomputable def insE (r:Rft) (m:Mg):Int:=if r.role=3 then 0 else if r.commit < m.index then insEE r m else 0
noncomputable def insR (r:Rft) (m:Mg):Rft:=if r.role=3 then r else if r.commit < m.index then (if insEE r m=0 then folR (setH r (insHH r m) m.index) m else r) else folR r m
noncomputable def insO (r:Rft) (m:Mg):List (List PV):=if r.role=3 then [] else if r.commit < m.index then (if insEE r m=0 then [folM (setH r (insHH r m) m.index) m m.index true] else []) else [folM r m r.commit true]
set_option maxHeartbeats 4000000 in
theorem znx (r : Rft) (hf : Fit r) (out : List (List PV)) (ho : out.length ≤ 4294967) (m : Mg) (hm : m.snap.length ≤ 4294967296) (hi : isI m.index)
    (hl:(insHH r m).log.length≤maxLen) :
    CtrE Tryz.prog 134 [.pt 1000000 0,.ag m.enc] [(1000000,repI r out)] (obI r out) (iv (insE r m)) [(1000000,repX (insR r m) (out++insO r m))] obX:=by
 have hb:=hf.base
 have hl0:=hf.log
 have kg:=zsh r.hard (by omega) (by unfold isI;omega) m.index hi m.logTerm m.conf m.snap hm
 unfold insE insR insO
 refine za1 Tryz.func134 ?_;conv=>whnf
 (refine tSp (fun h=>?_) (fun h=>?_)<;>conv=>whnf)
 ·have h:r.role=3:=h
  rw [if_pos h,if_pos h,if_pos h,List.append_nil]
  (refine zad 1000000 9 1000000 _ _ rfl rfl rfl rfl ?_;refine zad 1000000 10 1000001 _ _ rfl rfl rfl rfl ?_;refine zad 1000000 39 1000002 _ _ rfl rfl rfl rfl ?_;refine zad 1000000 40 1000003 _ _ rfl rfl rfl rfl ?_;refine zae [(1000000,1000000),(1000001,1000001),(1000002,1000002),(1000003,1000003)] [] ?_;(conv=>whnf);exact wkD)
 ·have h:¬ r.role=3:=h
  rw [if_neg h,if_neg h,if_neg h]
  (refine tSp (fun h=>?_) (fun h=>?_)<;>conv=>whnf)
  ·have h:r.commit < m.index:=by omega
   rw [if_pos h,if_pos h,if_pos h]
   ((try (refine Exists.intro none ?_;conv=>whnf));refine tOwn0 ?_;conv=>whnf)
   ((try (refine Exists.intro none ?_;conv=>whnf));refine tOwn0 ?_;conv=>whnf)
   by_cases he:insEE r m=0
   ·have kf:=zpu (setH r (insHH r m) m.index) hl out ho m m.index true
    rw [if_pos he,if_pos he,he]
    rw [(zea he).2.2] at kg
    ((try ((refine Exists.intro none ?_);(conv=>whnf)));first | (refine zai (kg) (by simp only [List.drop_zero,List.take_length]) ?_;conv=>whnf))
    (refine tNew0 ?_;conv=>whnf)
    ((refine Exists.intro (some ([(1000000,1000000)],[(1000000,1000002),(1000001,1000003)],[])) ?_);(conv=>whnf);first | ((with_reducible refine zam (kf) ?_);conv=>whnf))
    (refine zae [(1000000,1000000),(1000001,1000001),(1000002,1000002),(1000003,1000003)] [] ?_;(conv=>whnf);exact wkD)
   ·rw [if_neg he,if_neg he,List.append_nil]
    rw [(zc0 he).2.2] at kg
    ((try ((refine Exists.intro none ?_);(conv=>whnf)));first | (refine zai (kg) (by simp only [List.drop_zero,List.take_length]) ?_;conv=>whnf))
    (refine tSp (fun h=>?_) (fun h=>?_)<;>conv=>whnf)
    ·(refine zad 1000000 9 1000000 _ _ rfl rfl rfl rfl ?_;refine zad 1000000 10 1000001 _ _ rfl rfl rfl rfl ?_;refine zad 1000000 39 1000002 _ _ rfl rfl rfl rfl ?_;refine zad 1000000 40 1000003 _ _ rfl rfl rfl rfl ?_;refine zae [(1000000,1000000),(1000001,1000001),(1000002,1000002),(1000003,1000003)] [] ?_;(conv=>whnf);exact wkD)
    ·exact absurd (by first | exact h | (simpa using h)) he
  ·have h:¬ r.commit < m.index:=by omega
   rw [if_neg h,if_neg h,if_neg h]
   have kf:=zuv r (zak (by omega)) out ho m r.commit true
   ((refine Exists.intro (some ([(1000000,1000000)],[(1000000,1000000),(1000001,1000001),(1000002,1000002),(1000003,1000003)],[])) ?_);(conv=>whnf);first | ((with_reducible refine zam (kf) ?_);conv=>whnf))
   (refine zae [(1000000,1000000),(1000001,1000001),(1000002,1000002),(1000003,1000003)] [] ?_;(conv=>whnf);exact wkD)
abbrev lrnI (r:Rft) (m:Mg):Int:=if lastI r.hard < m.index then lastI r.hard else m.index
abbrev lrnNx (r:Rft) (m:Mg):Arr:=r.next.put m.frm.toNat (nxN (r.next.at m.frm.toNat) (r.mtch.at m.frm.toNat) m.yes (lrnI r m))
abbrev lrnMt (r:Rft) (m:Mg):Arr:=r.mtch.put m.frm.toNat (nxM (r.mtch.at m.frm.toNat) m.yes (lrnI r m))
noncomputable def zcj (r:Rft) (m:Mg):Rft:=if r.role=3 then { r with silent:=r.silent.put m.frm.toNat 0,next:=lrnNx r m,mtch:=lrnMt r m,reads:=r.reads.map (ack1 m.frm m.round),commit:=zdh r.hard r.commit (lrnMt r m) } else r
set_option maxHeartbeats 16000000 in
theorem zw8 (r : Rft) (hf : Fit r) (out : List (List PV)) (m : Mg) (hfr : 0 ≤ m.frm ∧ m.frm < 7) (hi : 0 ≤ m.index ∧ m.index ≤ 1099511627776)
    (hmt:∀ i,i < 7→0≤r.mtch.at i∧r.mtch.at i≤lastI r.hard) :
    CtrE Tryz.prog 135 [.pt 1000000 0,.ag m.enc] [(1000000,repI r out)] (obI r out) (.tu []) [(1000000,repX (zcj r m) out)] obX:=by
 have hb:=hf.base
 have hl0:=hf.log
 have hm:r.hard.log.length≤maxLen:=zak (by omega)
 have hla:lastI r.hard=r.hard.base+r.hard.log.length:=zbk hb.1 (by omega)
 have kl:=zd4 r.hard hm
 have hn:=hf.next
 have hix:-1152921504606846976≤lrnI r m∧lrnI r m≤1152921504606846976:=by unfold lrnI;split<;>omega
 have kn:=fun (nx mt:Int) h1 h2=>c_gNext nx mt { m with index:=lrnI r m } h1 h2 hix
 have kk:=c_Ack r.reads (by have:=hf.reads;omega) m.frm m.round
 have kc:=fun a:Arr=>zrb r.hard hm hb.1 (by omega) r.commit a
 unfold zcj
 refine za1 Tryz.func135 ?_;conv=>whnf
 (refine tSp (fun h=>?_) (fun h=>?_)<;>conv=>whnf)
 ·have h:¬ r.role=3:=h
  rw [if_neg h]
  (refine zad 1000000 9 1000000 _ _ rfl rfl rfl rfl ?_;refine zad 1000000 10 1000001 _ _ rfl rfl rfl rfl ?_;refine zad 1000000 39 1000002 _ _ rfl rfl rfl rfl ?_;refine zad 1000000 40 1000003 _ _ rfl rfl rfl rfl ?_;refine zae [(1000000,1000000),(1000001,1000001),(1000002,1000002),(1000003,1000003)] [] ?_;(conv=>whnf);exact wkD)
 have h:r.role=3:=by first | exact h | exact Classical.byContradiction h
 rw [if_pos h]
 unfold lrnNx lrnMt
 ((try (refine Exists.intro none ?_;conv=>whnf));refine tOwn0 ?_;conv=>whnf)
 ((try (refine Exists.intro none ?_;conv=>whnf));refine tOwn0 ?_;conv=>whnf)
 ((try ((refine Exists.intro none ?_);(conv=>whnf)));first | (refine zai (kl) (by simp only [List.drop_zero,List.take_length]) ?_;conv=>whnf))
 refine ⟨⟨hfr.1,hfr.2⟩,?_⟩
 have hnx:=hn m.frm.toNat (by omega)
 have hmx:=hmt m.frm.toNat (by omega)
 rcases zcm hfr with e | e | e | e | e | e | e
 ·have kn:=kn r.next.a0 r.mtch.a0 (by rw [e] at hnx;have hnx:0≤r.next.a0∧r.next.a0≤1099511627776:=hnx;omega) (by rw [e] at hmx;have hmx:0≤r.mtch.a0∧r.mtch.a0≤lastI r.hard:=hmx;omega)
  rw [e]
  conv=>whnf
  refine ⟨⟨hfr.1,hfr.2⟩,?_⟩
  rw [e]
  conv=>whnf
  refine ⟨⟨hfr.1,hfr.2⟩,?_⟩
  rw [e]
  conv=>whnf
  ((try ((refine Exists.intro none ?_);(conv=>whnf)));first | (refine zai (kn) (by simp only [List.drop_zero,List.take_length]) ?_;conv=>whnf))
  refine ⟨⟨hfr.1,hfr.2⟩,?_⟩
  rw [e]
  conv=>whnf
  refine ⟨⟨hfr.1,hfr.2⟩,?_⟩
  rw [e]
  conv=>whnf
  ((try (refine Exists.intro none ?_;conv=>whnf));refine tOwn0 ?_;conv=>whnf)
  ((try ((refine Exists.intro none ?_);(conv=>whnf)));first | (refine zai (kk) (by simp only [List.drop_zero,List.take_length]) ?_;conv=>whnf))
  (refine Exists.intro _ (And.intro rfl (And.intro (by intro q hq;first | (cases hq;done) | (simp only [List.mem_cons,List.not_mem_nil,or_false] at hq;rcases hq with rfl | rfl<;>(simp only [List.length_cons,List.length_nil];omega)) | (simp only [List.mem_cons,List.not_mem_nil,or_false] at hq;subst hq;simp only [List.length_cons,List.length_nil];omega)) (And.intro (by intro i hi;simp only [List.length_cons,List.length_nil,Nat.lt_one_iff,Nat.zero_add] at hi;subst hi;rfl) ?_)));conv=>whnf)
  ((try (refine Exists.intro none ?_;conv=>whnf));refine tOwn0 ?_;conv=>whnf)
  ((try (refine Exists.intro none ?_;conv=>whnf));refine tOwn0 ?_;conv=>whnf)
  ((try ((refine Exists.intro none ?_);(conv=>whnf)));first | (refine zai (kc ⟨nxM r.mtch.a0 m.yes (lrnI r m),r.mtch.a1,r.mtch.a2,r.mtch.a3,r.mtch.a4,r.mtch.a5,r.mtch.a6⟩) (by simp only [List.drop_zero,List.take_length]) ?_;conv=>whnf))
  (refine zad 1000000 9 1000000 _ _ rfl rfl rfl rfl ?_;refine zad 1000000 10 1000001 _ _ rfl rfl rfl rfl ?_;refine zad 1000000 39 1248 _ _ rfl rfl rfl rfl ?_;refine zad 1000000 40 1000003 _ _ rfl rfl rfl rfl ?_;refine zae [(1000000,1000000),(1000001,1000001),(1000002,1000002),(1000003,1000003)] [] ?_;(conv=>whnf);exact wkD)
 ·have kn:=kn r.next.a1 r.mtch.a1 (by rw [e] at hnx;have hnx:0≤r.next.a1∧r.next.a1≤1099511627776:=hnx;omega) (by rw [e] at hmx;have hmx:0≤r.mtch.a1∧r.mtch.a1≤lastI r.hard:=hmx;omega)
  rw [e]
  conv=>whnf
  refine ⟨⟨hfr.1,hfr.2⟩,?_⟩
  rw [e]
  conv=>whnf
  refine ⟨⟨hfr.1,hfr.2⟩,?_⟩
  rw [e]
  conv=>whnf
  ((try ((refine Exists.intro none ?_);(conv=>whnf)));first | (refine zai (kn) (by simp only [List.drop_zero,List.take_length]) ?_;conv=>whnf))
  refine ⟨⟨hfr.1,hfr.2⟩,?_⟩
  rw [e]
  conv=>whnf
  refine ⟨⟨hfr.1,hfr.2⟩,?_⟩
  rw [e]
  conv=>whnf
  ((try (refine Exists.intro none ?_;conv=>whnf));refine tOwn0 ?_;conv=>whnf)
  ((try ((refine Exists.intro none ?_);(conv=>whnf)));first | (refine zai (kk) (by simp only [List.drop_zero,List.take_length]) ?_;conv=>whnf))
  (refine Exists.intro _ (And.intro rfl (And.intro (by intro q hq;first | (cases hq;done) | (simp only [List.mem_cons,List.not_mem_nil,or_false] at hq;rcases hq with rfl | rfl<;>(simp only [List.length_cons,List.length_nil];omega)) | (simp only [List.mem_cons,List.not_mem_nil,or_false] at hq;subst hq;simp only [List.length_cons,List.length_nil];omega)) (And.intro (by intro i hi;simp only [List.length_cons,List.length_nil,Nat.lt_one_iff,Nat.zero_add] at hi;subst hi;rfl) ?_)));conv=>whnf)
  ((try (refine Exists.intro none ?_;conv=>whnf));refine tOwn0 ?_;conv=>whnf)
  ((try (refine Exists.intro none ?_;conv=>whnf));refine tOwn0 ?_;conv=>whnf)
  ((try ((refine Exists.intro none ?_);(conv=>whnf)));first | (refine zai (kc ⟨r.mtch.a0,nxM r.mtch.a1 m.yes (lrnI r m),r.mtch.a2,r.mtch.a3,r.mtch.a4,r.mtch.a5,r.mtch.a6⟩) (by simp only [List.drop_zero,List.take_length]) ?_;conv=>whnf))
  (refine zad 1000000 9 1000000 _ _ rfl rfl rfl rfl ?_;refine zad 1000000 10 1000001 _ _ rfl rfl rfl rfl ?_;refine zad 1000000 39 1248 _ _ rfl rfl rfl rfl ?_;refine zad 1000000 40 1000003 _ _ rfl rfl rfl rfl ?_;refine zae [(1000000,1000000),(1000001,1000001),(1000002,1000002),(1000003,1000003)] [] ?_;(conv=>whnf);exact wkD)
 ·have kn:=kn r.next.a2 r.mtch.a2 (by rw [e] at hnx;have hnx:0≤r.next.a2∧r.next.a2≤1099511627776:=hnx;omega) (by rw [e] at hmx;have hmx:0≤r.mtch.a2∧r.mtch.a2≤lastI r.hard:=hmx;omega)
  rw [e]
  conv=>whnf
  refine ⟨⟨hfr.1,hfr.2⟩,?_⟩
  rw [e]
  conv=>whnf
  refine ⟨⟨hfr.1,hfr.2⟩,?_⟩
  rw [e]
  conv=>whnf
  ((try ((refine Exists.intro none ?_);(conv=>whnf)));first | (refine zai (kn) (by simp only [List.drop_zero,List.take_length]) ?_;conv=>whnf))
  refine ⟨⟨hfr.1,hfr.2⟩,?_⟩
  rw [e]
  conv=>whnf
  refine ⟨⟨hfr.1,hfr.2⟩,?_⟩
  rw [e]
  conv=>whnf
  ((try (refine Exists.intro none ?_;conv=>whnf));refine tOwn0 ?_;conv=>whnf)
  ((try ((refine Exists.intro none ?_);(conv=>whnf)));first | (refine zai (kk) (by simp only [List.drop_zero,List.take_length]) ?_;conv=>whnf))
  (refine Exists.intro _ (And.intro rfl (And.intro (by intro q hq;first | (cases hq;done) | (simp only [List.mem_cons,List.not_mem_nil,or_false] at hq;rcases hq with rfl | rfl<;>(simp only [List.length_cons,List.length_nil];omega)) | (simp only [List.mem_cons,List.not_mem_nil,or_false] at hq;subst hq;simp only [List.length_cons,List.length_nil];omega)) (And.intro (by intro i hi;simp only [List.length_cons,List.length_nil,Nat.lt_one_iff,Nat.zero_add] at hi;subst hi;rfl) ?_)));conv=>whnf)
  ((try (refine Exists.intro none ?_;conv=>whnf));refine tOwn0 ?_;conv=>whnf)
  ((try (refine Exists.intro none ?_;conv=>whnf));refine tOwn0 ?_;conv=>whnf)
  ((try ((refine Exists.intro none ?_);(conv=>whnf)));first | (refine zai (kc ⟨r.mtch.a0,r.mtch.a1,nxM r.mtch.a2 m.yes (lrnI r m),r.mtch.a3,r.mtch.a4,r.mtch.a5,r.mtch.a6⟩) (by simp only [List.drop_zero,List.take_length]) ?_;conv=>whnf))
  (refine zad 1000000 9 1000000 _ _ rfl rfl rfl rfl ?_;refine zad 1000000 10 1000001 _ _ rfl rfl rfl rfl ?_;refine zad 1000000 39 1248 _ _ rfl rfl rfl rfl ?_;refine zad 1000000 40 1000003 _ _ rfl rfl rfl rfl ?_;refine zae [(1000000,1000000),(1000001,1000001),(1000002,1000002),(1000003,1000003)] [] ?_;(conv=>whnf);exact wkD)
 ·have kn:=kn r.next.a3 r.mtch.a3 (by rw [e] at hnx;have hnx:0≤r.next.a3∧r.next.a3≤1099511627776:=hnx;omega) (by rw [e] at hmx;have hmx:0≤r.mtch.a3∧r.mtch.a3≤lastI r.hard:=hmx;omega)
  rw [e]
  conv=>whnf
  refine ⟨⟨hfr.1,hfr.2⟩,?_⟩
  rw [e]
  conv=>whnf
  refine ⟨⟨hfr.1,hfr.2⟩,?_⟩
  rw [e]
  conv=>whnf
  ((try ((refine Exists.intro none ?_);(conv=>whnf)));first | (refine zai (kn) (by simp only [List.drop_zero,List.take_length]) ?_;conv=>whnf))
  refine ⟨⟨hfr.1,hfr.2⟩,?_⟩
  rw [e]
  conv=>whnf
  refine ⟨⟨hfr.1,hfr.2⟩,?_⟩
  rw [e]
  conv=>whnf
  ((try (refine Exists.intro none ?_;conv=>whnf));refine tOwn0 ?_;conv=>whnf)
  ((try ((refine Exists.intro none ?_);(conv=>whnf)));first | (refine zai (kk) (by simp only [List.drop_zero,List.take_length]) ?_;conv=>whnf))
  (refine Exists.intro _ (And.intro rfl (And.intro (by intro q hq;first | (cases hq;done) | (simp only [List.mem_cons,List.not_mem_nil,or_false] at hq;rcases hq with rfl | rfl<;>(simp only [List.length_cons,List.length_nil];omega)) | (simp only [List.mem_cons,List.not_mem_nil,or_false] at hq;subst hq;simp only [List.length_cons,List.length_nil];omega)) (And.intro (by intro i hi;simp only [List.length_cons,List.length_nil,Nat.lt_one_iff,Nat.zero_add] at hi;subst hi;rfl) ?_)));conv=>whnf)
  ((try (refine Exists.intro none ?_;conv=>whnf));refine tOwn0 ?_;conv=>whnf)
  ((try (refine Exists.intro none ?_;conv=>whnf));refine tOwn0 ?_;conv=>whnf)
  ((try ((refine Exists.intro none ?_);(conv=>whnf)));first | (refine zai (kc ⟨r.mtch.a0,r.mtch.a1,r.mtch.a2,nxM r.mtch.a3 m.yes (lrnI r m),r.mtch.a4,r.mtch.a5,r.mtch.a6⟩) (by simp only [List.drop_zero,List.take_length]) ?_;conv=>whnf))
  (refine zad 1000000 9 1000000 _ _ rfl rfl rfl rfl ?_;refine zad 1000000 10 1000001 _ _ rfl rfl rfl rfl ?_;refine zad 1000000 39 1248 _ _ rfl rfl rfl rfl ?_;refine zad 1000000 40 1000003 _ _ rfl rfl rfl rfl ?_;refine zae [(1000000,1000000),(1000001,1000001),(1000002,1000002),(1000003,1000003)] [] ?_;(conv=>whnf);exact wkD)
 ·have kn:=kn r.next.a4 r.mtch.a4 (by rw [e] at hnx;have hnx:0≤r.next.a4∧r.next.a4≤1099511627776:=hnx;omega) (by rw [e] at hmx;have hmx:0≤r.mtch.a4∧r.mtch.a4≤lastI r.hard:=hmx;omega)
  rw [e]
  conv=>whnf
  refine ⟨⟨hfr.1,hfr.2⟩,?_⟩
  rw [e]
  conv=>whnf
  refine ⟨⟨hfr.1,hfr.2⟩,?_⟩
  rw [e]
  conv=>whnf
  ((try ((refine Exists.intro none ?_);(conv=>whnf)));first | (refine zai (kn) (by simp only [List.drop_zero,List.take_length]) ?_;conv=>whnf))
  refine ⟨⟨hfr.1,hfr.2⟩,?_⟩
  rw [e]
  conv=>whnf
  refine ⟨⟨hfr.1,hfr.2⟩,?_⟩
  rw [e]
  conv=>whnf
  ((try (refine Exists.intro none ?_;conv=>whnf));refine tOwn0 ?_;conv=>whnf)
  ((try ((refine Exists.intro none ?_);(conv=>whnf)));first | (refine zai (kk) (by simp only [List.drop_zero,List.take_length]) ?_;conv=>whnf))
  (refine Exists.intro _ (And.intro rfl (And.intro (by intro q hq;first | (cases hq;done) | (simp only [List.mem_cons,List.not_mem_nil,or_false] at hq;rcases hq with rfl | rfl<;>(simp only [List.length_cons,List.length_nil];omega)) | (simp only [List.mem_cons,List.not_mem_nil,or_false] at hq;subst hq;simp only [List.length_cons,List.length_nil];omega)) (And.intro (by intro i hi;simp only [List.length_cons,List.length_nil,Nat.lt_one_iff,Nat.zero_add] at hi;subst hi;rfl) ?_)));conv=>whnf)
  ((try (refine Exists.intro none ?_;conv=>whnf));refine tOwn0 ?_;conv=>whnf)
  ((try (refine Exists.intro none ?_;conv=>whnf));refine tOwn0 ?_;conv=>whnf)
  ((try ((refine Exists.intro none ?_);(conv=>whnf)));first | (refine zai (kc ⟨r.mtch.a0,r.mtch.a1,r.mtch.a2,r.mtch.a3,nxM r.mtch.a4 m.yes (lrnI r m),r.mtch.a5,r.mtch.a6⟩) (by simp only [List.drop_zero,List.take_length]) ?_;conv=>whnf))
  (refine zad 1000000 9 1000000 _ _ rfl rfl rfl rfl ?_;refine zad 1000000 10 1000001 _ _ rfl rfl rfl rfl ?_;refine zad 1000000 39 1248 _ _ rfl rfl rfl rfl ?_;refine zad 1000000 40 1000003 _ _ rfl rfl rfl rfl ?_;refine zae [(1000000,1000000),(1000001,1000001),(1000002,1000002),(1000003,1000003)] [] ?_;(conv=>whnf);exact wkD)
 ·have kn:=kn r.next.a5 r.mtch.a5 (by rw [e] at hnx;have hnx:0≤r.next.a5∧r.next.a5≤1099511627776:=hnx;omega) (by rw [e] at hmx;have hmx:0≤r.mtch.a5∧r.mtch.a5≤lastI r.hard:=hmx;omega)
  rw [e]
  conv=>whnf
  refine ⟨⟨hfr.1,hfr.2⟩,?_⟩
  rw [e]
  conv=>whnf
  refine ⟨⟨hfr.1,hfr.2⟩,?_⟩
  rw [e]
  conv=>whnf
  ((try ((refine Exists.intro none ?_);(conv=>whnf)));first | (refine zai (kn) (by simp only [List.drop_zero,List.take_length]) ?_;conv=>whnf))
  refine ⟨⟨hfr.1,hfr.2⟩,?_⟩
  rw [e]
  conv=>whnf
  refine ⟨⟨hfr.1,hfr.2⟩,?_⟩
  rw [e]
  conv=>whnf
  ((try (refine Exists.intro none ?_;conv=>whnf));refine tOwn0 ?_;conv=>whnf)
  ((try ((refine Exists.intro none ?_);(conv=>whnf)));first | (refine zai (kk) (by simp only [List.drop_zero,List.take_length]) ?_;conv=>whnf))
  (refine Exists.intro _ (And.intro rfl (And.intro (by intro q hq;first | (cases hq;done) | (simp only [List.mem_cons,List.not_mem_nil,or_false] at hq;rcases hq with rfl | rfl<;>(simp only [List.length_cons,List.length_nil];omega)) | (simp only [List.mem_cons,List.not_mem_nil,or_false] at hq;subst hq;simp only [List.length_cons,List.length_nil];omega)) (And.intro (by intro i hi;simp only [List.length_cons,List.length_nil,Nat.lt_one_iff,Nat.zero_add] at hi;subst hi;rfl) ?_)));conv=>whnf)
  ((try (refine Exists.intro none ?_;conv=>whnf));refine tOwn0 ?_;conv=>whnf)
  ((try (refine Exists.intro none ?_;conv=>whnf));refine tOwn0 ?_;conv=>whnf)
  ((try ((refine Exists.intro none ?_);(conv=>whnf)));first | (refine zai (kc ⟨r.mtch.a0,r.mtch.a1,r.mtch.a2,r.mtch.a3,r.mtch.a4,nxM r.mtch.a5 m.yes (lrnI r m),r.mtch.a6⟩) (by simp only [List.drop_zero,List.take_length]) ?_;conv=>whnf))
  (refine zad 1000000 9 1000000 _ _ rfl rfl rfl rfl ?_;refine zad 1000000 10 1000001 _ _ rfl rfl rfl rfl ?_;refine zad 1000000 39 1248 _ _ rfl rfl rfl rfl ?_;refine zad 1000000 40 1000003 _ _ rfl rfl rfl rfl ?_;refine zae [(1000000,1000000),(1000001,1000001),(1000002,1000002),(1000003,1000003)] [] ?_;(conv=>whnf);exact wkD)
 ·have kn:=kn r.next.a6 r.mtch.a6 (by rw [e] at hnx;have hnx:0≤r.next.a6∧r.next.a6≤1099511627776:=hnx;omega) (by rw [e] at hmx;have hmx:0≤r.mtch.a6∧r.mtch.a6≤lastI r.hard:=hmx;omega)
  rw [e]
  conv=>whnf
  refine ⟨⟨hfr.1,hfr.2⟩,?_⟩
  rw [e]
  conv=>whnf
  refine ⟨⟨hfr.1,hfr.2⟩,?_⟩
  rw [e]
  conv=>whnf
  ((try ((refine Exists.intro none ?_);(conv=>whnf)));first | (refine zai (kn) (by simp only [List.drop_zero,List.take_length]) ?_;conv=>whnf))
  refine ⟨⟨hfr.1,hfr.2⟩,?_⟩
  rw [e]
  conv=>whnf
  refine ⟨⟨hfr.1,hfr.2⟩,?_⟩
  rw [e]
  conv=>whnf
  ((try (refine Exists.intro none ?_;conv=>whnf));refine tOwn0 ?_;conv=>whnf)
  ((try ((refine Exists.intro none ?_);(conv=>whnf)));first | (refine zai (kk) (by simp only [List.drop_zero,List.take_length]) ?_;conv=>whnf))
  (refine Exists.intro _ (And.intro rfl (And.intro (by intro q hq;first | (cases hq;done) | (simp only [List.mem_cons,List.not_mem_nil,or_false] at hq;rcases hq with rfl | rfl<;>(simp only [List.length_cons,List.length_nil];omega)) | (simp only [List.mem_cons,List.not_mem_nil,or_false] at hq;subst hq;simp only [List.length_cons,List.length_nil];omega)) (And.intro (by intro i hi;simp only [List.length_cons,List.length_nil,Nat.lt_one_iff,Nat.zero_add] at hi;subst hi;rfl) ?_)));conv=>whnf)
  ((try (refine Exists.intro none ?_;conv=>whnf));refine tOwn0 ?_;conv=>whnf)
  ((try (refine Exists.intro none ?_;conv=>whnf));refine tOwn0 ?_;conv=>whnf)
  ((try ((refine Exists.intro none ?_);(conv=>whnf)));first | (refine zai (kc ⟨r.mtch.a0,r.mtch.a1,r.mtch.a2,r.mtch.a3,r.mtch.a4,r.mtch.a5,nxM r.mtch.a6 m.yes (lrnI r m)⟩) (by simp only [List.drop_zero,List.take_length]) ?_;conv=>whnf))
  (refine zad 1000000 9 1000000 _ _ rfl rfl rfl rfl ?_;refine zad 1000000 10 1000001 _ _ rfl rfl rfl rfl ?_;refine zad 1000000 39 1248 _ _ rfl rfl rfl rfl ?_;refine zad 1000000 40 1000003 _ _ rfl rfl rfl rfl ?_;refine zae [(1000000,1000000),(1000001,1000001),(1000002,1000002),(1000003,1000003)] [] ?_;(conv=>whnf);exact wkD)
abbrev mkM (m:Mg) (k:Int):Mg:={ m with kind:=k }
abbrev mkY (m:Mg) (k:Int) (y:Bool):Mg:={ m with kind:=k,yes:=y }
noncomputable abbrev vtR (x:Rft) (m:Mg):Rft:={ x with votes:=bor x.votes (shl 1 m.frm) }
noncomputable def k2R (x:Rft) (m:Mg):Rft:=if x.role=1 then (if m.term=x.hard.term+1 then (if zbb (zac (vtR x m)) (vtR x m).votes=true then ze3 (vtR x m) else vtR x m) else x) else x
noncomputable def k2O (x:Rft) (m:Mg):List (List PV):=if x.role=1 then (if m.term=x.hard.term+1 then (if zbb (zac (vtR x m)) (vtR x m).votes=true then zgv (vtR x m) else []) else []) else []
abbrev vdR (x:Rft) (m:Mg):Rft:={ x with hard:={ x.hard with vote:=m.frm } }
noncomputable def k3R (x:Rft) (m:Mg):Rft:=if voted x m=true then fallR (vdR x m) x.hard.term (-1) else x
noncomputable def k3O (x:Rft) (m:Mg):List (List PV):=if voted x m=true then [msgV 4 (fallR (vdR x m) x.hard.term (-1)).id m.frm (fallR (vdR x m) x.hard.term (-1)).hard.term 0 0 0 0 true .nl cz .nl] else [msgV 4 x.id m.frm x.hard.term 0 0 0 0 false .nl cz .nl]
noncomputable def k4R (x:Rft) (m:Mg):Rft:=if x.role=2 then (if zbb (zac (vtR x m)) (vtR x m).votes=true then leadR (vtR x m) else vtR x m) else x
noncomputable def k4O (x:Rft) (m:Mg):List (List PV):=if x.role=2 then (if zbb (zac (vtR x m)) (vtR x m).votes=true then (allL (leadR (vtR x m))).map (zba (leadR (vtR x m))) else []) else []
noncomputable def k8R (x:Rft) (m:Mg):Rft:=if zcf x=true then (if x.lead=m.frm then ze3 x else x) else x
noncomputable def k8O (x:Rft) (m:Mg):List (List PV):=if zcf x=true then (if x.lead=m.frm then zgv x else []) else []
theorem zb3 {r:Rft} (hf:Fit r) {t:Int} (ht:r.hard.term≤t∧t≤1099511627776) (l:Int):Fit (fallR r t l):=by
 have hd:=zdo (zac r) hf.id
 have hT:=hf.term
 have hz:∀ i,i < 7→0≤zA.at i∧zA.at i≤1099511627776:=by
  intro i hi
  rcases (by omega:i=0∨i=1∨i=2∨i=3∨i=4∨i=5∨i=6) with rfl | rfl | rfl | rfl | rfl | rfl | rfl<;>decide
 refine ⟨hf.id,by rw [zci];exact hf.log,by rw [zc8];exact hf.snap,?_,?_,hf.round,hf.quiet,⟨hd.1,Int.le_trans hd.2 (by decide)⟩,hz,hz,Nat.zero_le _⟩
 ·have:(fallR r t l).hard.base=r.hard.base:=by unfold fallR;split<;>rfl
  rw [this];exact hf.base
 ·unfold fallR
  split
  ·show 0≤t∧t≤1099511627776;omega
  ·exact hT
theorem zbq {r:Rft}{t:Int} (ht:r.hard.term < t) (l:Int):(fallR r t l).hard.term=t:=by unfold fallR;rw [if_pos ht]
set_option maxHeartbeats 4000000 in
theorem zy8 (r : Rft) (hf : Fit r) (out : List (List PV)) (ho : out.length ≤ 4000000) (m : Mg) :
    CtrE Tryz.prog 52 [.pt 1000000 0,.ag (mkM m 1).enc] [(1000000,repI r out)] (obI r out) (iv 0) [(1000000,repX r (out++zj0 r (mkM m 1)))] obX:=by
 have hl0:=hf.log
 have ka:=c_asked r (zak (by omega)) out (by omega) (mkM m 1)
 refine za1 Tryz.func52 ?_;conv=>whnf
 (refine tSp (fun h=>?_) (fun h=>?_)<;>conv=>whnf)
 ·((refine Exists.intro (some ([(1000000,1000000)],[(1000000,1000000),(1000001,1000001),(1000002,1000002),(1000003,1000003)],[])) ?_);(conv=>whnf);first | ((with_reducible refine zam (ka) ?_);conv=>whnf))
  (refine zae [(1000000,1000000),(1000001,1000001),(1000002,1000002),(1000003,1000003)] [] ?_;(conv=>whnf);exact wkD)
 ·((refine Exists.intro (some ([(1000000,1000000)],[(1000000,1000000),(1000001,1000001),(1000002,1000002),(1000003,1000003)],[])) ?_);(conv=>whnf);first | ((with_reducible refine zam (ka) ?_);conv=>whnf))
  (refine zae [(1000000,1000000),(1000001,1000001),(1000002,1000002),(1000003,1000003)] [] ?_;(conv=>whnf);exact wkD)
set_option maxHeartbeats 8000000 in
theorem zsm (r : Rft) (hf : Fit r) (out : List (List PV)) (ho : out.length ≤ 4000000) (m : Mg) (hk : ¬ m.kind = 1) (hlt : m.term < r.hard.term) :
    CtrE Tryz.prog 52 [.pt 1000000 0,.ag m.enc] [(1000000,repI r out)] (obI r out) (iv 0) [(1000000,repX r (out++zh8 r m))] obX:=by
 have ke:=c_elder r out (by omega) m
 have hng:¬ m.term > r.hard.term:=by omega
 refine za1 Tryz.func52 ?_;conv=>whnf
 (first | refine tYes ?_ | refine tNo ?_)
 conv=>whnf
 (first | refine tYes ?_ | refine tNo ?_)
 conv=>whnf
 (first | refine tYes ?_ | refine tNo ?_)
 conv=>whnf
 ((refine Exists.intro (some ([(1000000,1000000)],[(1000000,1000000),(1000001,1000001),(1000002,1000002),(1000003,1000003)],[])) ?_);(conv=>whnf);first | ((with_reducible refine zam (ke) ?_);conv=>whnf))
 (refine zae [(1000000,1000000),(1000001,1000001),(1000002,1000002),(1000003,1000003)] [] ?_;(conv=>whnf);exact wkD)
end Go.Proofs
