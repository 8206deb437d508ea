import Derived.Test.YtbhfokahocgndabGreatPvQ3
import Derived.Test.YtbhfokahocgndabGreatI8
import Derived.Test.YtbhfokahocgndabGreatC12
import Derived.Test.YtbhfokahocgndabGreatC27
import Derived.Test.YtbhfokahocgndabGreatH8
/- Contracts of functions: a question, those that are ready, a snapshot. -/
set_option linter.unusedSimpArgs false
set_option linter.unusedVariables false
set_option maxHeartbeats 8000000
namespace Go.Proofs
open Go.Pv
set_option maxRecDepth 100000
abbrev qR (r:Rft) (c:VCall):Rd:=⟨c,r.commit,farM (r.round+1),shl 1 r.id⟩
noncomputable abbrev askR (r:Rft) (c:VCall):Rft:={ r with reads:=r.reads++[qR r c] }
noncomputable abbrev ownB (r:Rft):Bool:=fits r.hard r.commit r.hard.term
noncomputable def askE (r:Rft) (c:VCall):Int:=if zcb r=0 then (if ownB r=true then (if callR c=0 then (if r.reads.length < 4 then 0 else 12) else callR c) else 13) else 11
theorem zjq (r:Rft):zcb r=0∨zcb r=11:=by
 unfold zcb
 split
 ·split
  ·exact .inl rfl
  ·exact .inr rfl
 ·exact .inr rfl
theorem Rgt.comI {r:Rft} (h:Rgt r) (hm:r.hard.log.length < 4294967):isI r.commit:=by
 have hb:=(zaq h.hard).1.b
 have hc:=h.com
 rw [zax hb.1 (by omega)] at hc
 unfold isI;omega
theorem zzk (r:Rft) (c:VCall) (hl0:r.hard.log.length < 4294967) (hr:zbu r=true) (he:¬ askE r c=0):Ctr Tryz.prog 106 [.ag r.enc,.ag c.enc] (.tu [.ag rzv,iv (askE r c)]) []:=by
 have hg:=zd8 hr
 have hf:=hg.fit hl0
 have hb:=hf.base
 have ko:=c_of r hf.snap (by omega) (by have:=hf.reads;omega) hr
 have kl:=zix r (zad (by omega))
 have kw:=c_Own r.hard (zad (by omega)) (by unfold isI;omega) r.commit (hg.comI hl0)
 have ks:=zg8 c
 unfold askE at he ⊢
 rcases zjq r with h1 | h1
 ·rw [if_pos h1] at he ⊢
  rw [h1] at kl
  cases hw:ownB r with
  | false =>
   rw [show fits r.hard r.commit r.hard.term=false from hw] at kw
   rw [if_neg (by decide)]
   refine sBody Tryz.func106 ?_;conv=>whnf
   refine tE ([(28,500)],[],[(0,600),(1,601),(2,602),(3,603)]) ko ?_
   refine tC kl ?_
   refine tC kw ?_
   exact zaa rfl rfl
  | true =>
   rw [show fits r.hard r.commit r.hard.term=true from hw] at kw
   rw [hw,if_pos rfl] at he
   rw [if_pos rfl]
   by_cases h2:callR c=0
   ·rw [if_pos h2] at he ⊢
    rw [h2] at ks
    by_cases h3:r.reads.length < 4
    ·rw [if_pos h3] at he;exact absurd rfl he
    ·rw [if_neg h3]
     refine sBody Tryz.func106 ?_;conv=>whnf
     refine tE ([(28,500)],[],[(0,600),(1,601),(2,602),(3,603)]) ko ?_
     refine tC kl ?_
     refine tC kw ?_
     refine tC ks ?_
     refine tS ?_ ?_<;>intro h
     ·exact zaa rfl rfl
     ·simp only [List.length_map] at h
      omega
   ·rw [if_neg h2]
    generalize callR c=e at *
    refine sBody Tryz.func106 ?_;conv=>whnf
    refine tE ([(28,500)],[],[(0,600),(1,601),(2,602),(3,603)]) ko ?_
    refine tC kl ?_
    refine tC kw ?_
    refine tC ks ?_
    refine tK ?_
    refine tS ?_ ?_<;>intro h
    ·exact zaa rfl rfl
    ·exact absurd (by first | exact h | (simpa using h)) h2
 ·rw [if_neg (by omega)]
  rw [h1] at kl
  refine sBody Tryz.func106 ?_;conv=>whnf
  refine tE ([(28,500)],[],[(0,600),(1,601),(2,602),(3,603)]) ko ?_
  refine tC kl ?_
  exact zaa rfl rfl
theorem zzq {r:Rft}{c:VCall} (he:askE r c=0):zcb r=0∧ownB r=true∧callR c=0∧r.reads.length < 4:=by
 unfold askE at he
 by_cases h1:zcb r=0
 ·rw [if_pos h1] at he
  by_cases h2:ownB r=true
  ·rw [if_pos h2] at he
   by_cases h3:callR c=0
   ·rw [if_pos h3] at he
    by_cases h4:r.reads.length < 4
    ·exact ⟨h1,h2,h3,h4⟩
    ·rw [if_neg h4] at he;omega
   ·rw [if_neg h3] at he;exact absurd he h3
  ·rw [if_neg h2] at he;omega
 ·rw [if_neg h1] at he;omega
theorem zq4 (r:Rft) (hl0:r.hard.log.length < 4294967) (hr:zbu r=true) (s:List Int) (hs:s.length≤4294967296):Ctr Tryz.prog 108 [.ag r.enc,.sl 1 (s.map encB)] (if compE r.hard r.commit s=0 then .tu [.ag ({ r with hard:=compH r.hard r.commit s }:Rft).enc,iv 0] else .tu [.ag rzv,iv (compE r.hard r.commit s)]) []:=by
 have hg:=zd8 hr
 have hf:=hg.fit hl0
 have hb:=hf.base
 have ko:=c_of r hf.snap (by omega) (by have:=hf.reads;omega) hr
 have kc:=zwu r.hard (by omega) (by unfold isI;omega) r.commit (hg.comI hl0) s hs
 unfold resW at kc
 by_cases he:compE r.hard r.commit s=0
 ·rw [if_pos he] at kc ⊢
  refine sBody Tryz.func108 ?_;conv=>whnf
  refine tE ([(28,500)],[],[(0,600),(1,601),(2,602),(3,603)]) ko ?_
  refine tO ?_
  refine tO ?_
  refine tCE kc ?_
  refine tN0 ?_
  refine za7 [(602,false,13,r.reads.map Rd.enc)] ?_ (zat ⟨zao ?_,zae _ rfl,rfl⟩)
  ·intro q hq
   rw [List.mem_singleton.1 hq];rfl
  conv=>whnf
  repeat' (first | exact rfl | ((with_reducible refine And.intro ?_ ?_)<;>(first | (with_reducible exact zae _ rfl) | (refine zba (b:=false) (List.Mem.head _) rfl) | (refine zba (b:=false) (List.Mem.tail _ (List.Mem.head _)) rfl) | (refine zba (b:=false) (List.Mem.tail _ (List.Mem.tail _ (List.Mem.head _))) rfl) | (conv=>whnf))))
 ·rw [if_neg he] at kc ⊢
  generalize compE r.hard r.commit s=e at *
  refine sBody Tryz.func108 ?_;conv=>whnf
  refine tE ([(28,500)],[],[(0,600),(1,601),(2,602),(3,603)]) ko ?_
  refine tO ?_
  refine tO ?_
  refine tCE kc ?_
  refine tS ?_ ?_<;>intro h
  ·exact zaa rfl rfl
  ·exact absurd (by first | exact h | (simpa using h)) he
abbrev radR (r:Rft) (x:Ent):Rft:={ r with hard:=logR r x,mtch:=r.mtch.put r.id.toNat (lastI (logR r x)) }
theorem c_rAdd (r : Rft) (hid : 0 ≤ r.id ∧ r.id < 7) (hm : r.hard.log.length ≤ 4294967) (x : Ent) :
    CtrE Tryz.prog 160 [.pt 9990 0,.ag x.enc] [(9990,r.enc)] [] (iv (lastI (logR r x))) [(9990,(radR r x).enc)] []:=by
 have hmap:(logR r x).log.map Ent.enc=r.hard.log.map Ent.enc++[x.enc]:=by rw [List.map_append];rfl
 have hlen:(logR r x).log.length=r.hard.log.length+1:=by rw [List.length_append];rfl
 have kt:=zch r.hard.log (by omega)
 have kl:=zbr (logR r x) (zad (by omega))
 have b1:((r.hard.log.map Ent.enc).length+1) * 152≤140737488355328:=by rw [List.length_map];omega
 have b2:(r.hard.log.map Ent.enc).length+1≤maxLen:=zad (by rw [List.length_map];omega)
 unfold radR
 generalize hh:logR r x=H at *
 have e1:H.term=r.hard.term:=by rw [← hh]
 have e2:H.vote=r.hard.vote:=by rw [← hh]
 have e3:H.base=r.hard.base:=by rw [← hh]
 have e4:H.baseTerm=r.hard.baseTerm:=by rw [← hh]
 have e5:H.baseConf=r.hard.baseConf:=by rw [← hh]
 have e6:H.snap=r.hard.snap:=by rw [← hh]
 refine zay mixed Tryz.func160 rfl (by kernel_rfl) (by kernel_rfl) ?_
 refine tQ ?_
 refine tCut (fun _:Unit=>True) (fun _=>[]) (fun _=>[(9990,repV { r with hard:=H } (.sl 1 (H.snap.map encB)) (lgW { r with hard:=H } 2000) (.sl 13 (r.reads.map Rd.enc)) .bad |>.dropLast),(3,x.enc)]) (fun _=>[(2000,lgO { r with hard:=H })]) ?_ ?_
 ·refine tC kt ?_
  refine tN1 ?_
  refine tAB b1 b2 ?_
  refine ⟨(),[(2000,256)],trivial,?_⟩
  (refine tWK ?_;and_intros<;>try exact ⟨⟩)
  all_goals first | rfl | (rw [e1];done) | (rw [e2];done) | (rw [e3];done) | (rw [e4];done) | (rw [e5];done) | (rw [e6];done) | exact .inl (by rw [e6]) | (rw [hmap];done) | (rw [hmap];exact List.length_append.symm) | (refine zbi (by kernel_rfl) ?_;rw [hmap,List.take_of_length_le (Nat.le_refl _)];done) | (refine zbi (by kernel_rfl) ?_;rw [hmap,List.take_of_length_le (Nat.le_refl _)];rfl) | trace_state
 rintro _ _
 refine tZ ?_
 refine tO ?_
 refine tCE kl ?_
 refine ⟨⟨hid.1,hid.2⟩,?_⟩
 rcases zct hid with e | e | e | e | e | e | e
 ·rw [e]
  conv=>whnf
  (refine tV 10 2000 ?_;exact eX [])
 ·rw [e]
  conv=>whnf
  (refine tV 10 2000 ?_;exact eX [])
 ·rw [e]
  conv=>whnf
  (refine tV 10 2000 ?_;exact eX [])
 ·rw [e]
  conv=>whnf
  (refine tV 10 2000 ?_;exact eX [])
 ·rw [e]
  conv=>whnf
  (refine tV 10 2000 ?_;exact eX [])
 ·rw [e]
  conv=>whnf
  (refine tV 10 2000 ?_;exact eX [])
 ·rw [e]
  conv=>whnf
  (refine tV 10 2000 ?_;exact eX [])
theorem Fit.small {r:Rft} (h:Fit r):r.small:=⟨by have:=h.log;omega,by have:=h.base;unfold isI;omega,h.snap,by have:=h.reads;omega⟩
theorem z36 {r:Rft}{c:VCall} (he:propE r c=0):zcb r=0∧callR c=0∧r.hard.log.length < 64:=by
 unfold propE at he
 by_cases h1:zcb r=0
 ·rw [if_pos h1] at he
  by_cases h3:callR c=0
  ·rw [if_pos h3] at he
   by_cases h4:r.hard.log.length < 64
   ·exact ⟨h1,h3,h4⟩
   ·rw [if_neg h4] at he;omega
  ·rw [if_neg h3] at he;exact absurd he h3
 ·rw [if_neg h1] at he;omega
theorem zri (r:Rft) (c:VCall) (hl0:r.hard.log.length < 4294967) (he:¬ propE r c=0):Ctr Tryz.prog 99 [.ag r.enc,.ag c.enc] (.tu [.ag rzv,iv 0,iv (propE r c)]) []:=by
 have ks:=zg2 r (zad (by omega))
 have kc:=zlg c
 unfold propE at he ⊢
 by_cases h1:zcb r=0
 ·rw [if_pos h1] at he ⊢
  rw [decide_eq_true h1] at ks
  by_cases h2:callR c=0
  ·rw [if_pos h2] at he ⊢
   rw [h2] at kc
   by_cases h3:r.hard.log.length < 64
   ·rw [if_pos h3] at he;exact absurd rfl he
   ·rw [if_neg h3]
    refine sBody Tryz.func99 ?_;conv=>whnf
    refine tC ks ?_
    refine tC kc ?_
    refine tS ?_ ?_<;>intro h
    ·exact zaa rfl rfl
    ·simp only [List.length_map] at h
     omega
  ·rw [if_neg h2]
   generalize callR c=e at *
   refine sBody Tryz.func99 ?_;conv=>whnf
   refine tC ks ?_
   refine tC kc ?_
   refine tS ?_ ?_<;>intro h
   ·exact zaa rfl rfl
   ·exact absurd (by first | exact h | (simpa using h)) h2
 ·rw [if_neg h1]
  rw [decide_eq_false h1] at ks
  refine sBody Tryz.func99 ?_;conv=>whnf
  refine tC ks ?_
  exact zaa rfl rfl
theorem zw8 (r:Rft) (c:VCall) (hl0:r.hard.log.length < 4294967) (hr:zbu r=true) (he:propE r c=0):Ctr Tryz.prog 99 [.ag r.enc,.ag c.enc] (.tu [.ag (addR r (ec r c)).enc,iv (lastI (logR r (ec r c))),iv 0]) []:=by
 have hg:=zd8 hr
 have hf:=hg.fit hl0
 have hb:=hf.base
 obtain ⟨h1,h2,h3⟩:=z36 he
 have ks:=zg2 r (zad (by omega))
 have kc:=zlg c
 have kt:=za4 r hf.small
 have ka:=c_rAdd r hf.id (by omega) (ec r c)
 have hlen:(logR r (ec r c)).log.length=r.hard.log.length+1:=by rw [List.length_append];rfl
 have km:=zio (logR r (ec r c)) (zad (by omega)) hb.1 (by show r.hard.base+((logR r (ec r c)).log.length:Int) < _;omega) r.commit (r.mtch.put r.id.toNat (lastI (logR r (ec r c))))
 rw [decide_eq_true h1] at ks
 rw [h2] at kc
 unfold addR
 unfold radR at ka
 generalize hM:r.mtch.put r.id.toNat (lastI (logR r (ec r c)))=M at *
 generalize lastI (logR r (ec r c))=n at *
 generalize hH:logR r (ec r c)=H at *
 refine sBody Tryz.func99 ?_;conv=>whnf
 refine tC ks ?_
 refine tC kc ?_
 refine tS ?_ ?_<;>intro h
 ·simp only [List.length_map] at h
  omega
 clear h
 refine tC kt ?_
 refine tN0 ?_
 refine tER ([(9990,2)],[],[]) ka ?_
 refine tCR km ?_
 exact zaa rfl rfl
theorem zwq (r:Rft) (c:VCall) (hl0:r.hard.log.length < 4294967) (hr:zbu r=true) (he:¬ askE r c=0):Ctr Tryz.prog 102 [.ag r.enc,.ag c.enc] (.tu [.ag rzv,iv (askE r c)]) []:=by
 have hg:=zd8 hr
 have hf:=hg.fit hl0
 have hb:=hf.base
 have kl:=zg2 r (zad (by omega))
 have kw:=zyi r.hard (zad (by omega)) hb.1 (by omega) r.commit (hg.comI hl0)
 have ks:=zlg c
 unfold askE at he ⊢
 by_cases h1:zcb r=0
 ·rw [if_pos h1] at he ⊢
  rw [decide_eq_true h1] at kl
  cases hw:ownB r with
  | false =>
   rw [show fits r.hard r.commit r.hard.term=false from hw] at kw
   rw [if_neg (by decide)]
   refine sBody Tryz.func102 ?_;conv=>whnf
   refine tC kl ?_
   refine tC kw ?_
   exact zaa rfl rfl
  | true =>
   rw [show fits r.hard r.commit r.hard.term=true from hw] at kw
   rw [hw,if_pos rfl] at he
   rw [if_pos rfl]
   by_cases h2:callR c=0
   ·rw [if_pos h2] at he ⊢
    rw [h2] at ks
    by_cases h3:r.reads.length < 4
    ·rw [if_pos h3] at he;exact absurd rfl he
    ·rw [if_neg h3]
     refine sBody Tryz.func102 ?_;conv=>whnf
     refine tC kl ?_
     refine tC kw ?_
     refine tC ks ?_
     refine tS ?_ ?_<;>intro h
     ·exact zaa rfl rfl
     ·simp only [List.length_map] at h
      omega
   ·rw [if_neg h2]
    generalize callR c=e at *
    refine sBody Tryz.func102 ?_;conv=>whnf
    refine tC kl ?_
    refine tC kw ?_
    refine tC ks ?_
    refine tS ?_ ?_<;>intro h
    ·exact zaa rfl rfl
    ·exact absurd (by first | exact h | (simpa using h)) h2
 ·rw [if_neg h1]
  rw [decide_eq_false h1] at kl
  refine sBody Tryz.func102 ?_;conv=>whnf
  refine tC kl ?_
  exact zaa rfl rfl
theorem z1r (r:Rft) (c:VCall) (hl0:r.hard.log.length < 4294967) (hr:zbu r=true) (he:askE r c=0):Ctr Tryz.prog 102 [.ag r.enc,.ag c.enc] (.tu [.ag (askR r c).enc,iv 0]) []:=by
 have hg:=zd8 hr
 have hf:=hg.fit hl0
 have hb:=hf.base
 have hid:=hf.id
 have hro:=hf.round
 have kl:=zg2 r (zad (by omega))
 have kw:=zyi r.hard (zad (by omega)) hb.1 (by omega) r.commit (hg.comI hl0)
 have ks:=zlg c
 have kt:=zfb r hf.snap (by omega) (by have:=hf.reads;omega)
 obtain ⟨h1,h2,h3,h4⟩:=zzq he
 rw [decide_eq_true h1] at kl
 rw [show fits r.hard r.commit r.hard.term=true from h2] at kw
 rw [h3] at ks
 have ew:IntKind.i64.wrap (r.round+1)=r.round+1:=zaf (by omega) (by omega)
 have eu:IntKind.u64.wrap r.id=r.id:=zbz (by omega) (by omega)
 have b1:((r.reads.map Rd.enc).length+1) * 128≤140737488355328:=by rw [List.length_map];omega
 have b2:(r.reads.map Rd.enc).length+1≤maxLen:=zad (by rw [List.length_map];omega)
 refine sBody Tryz.func102 ?_;conv=>whnf
 refine tC kl ?_
 refine tC kw ?_
 refine tC ks ?_
 refine tS ?_ ?_<;>intro h
 ·simp only [List.length_map] at h
  omega
 clear h
 refine tC kt ?_
 refine tN3 ?_
 refine ⟨⟨by decide,by rw [eu];exact hid.1⟩,?_⟩
 conv=>whnf
 refine tAB b1 b2 ?_
 have erow:List.take (r.reads.map Rd.enc).length (r.reads.map Rd.enc)++[(⟨c,r.commit,farM (IntKind.i64.wrap (r.round+1)),shl 1 (IntKind.u64.wrap r.id)⟩:Rd).enc]=(askR r c).reads.map Rd.enc:=by
  rw [ew,eu,List.take_of_length_le (Nat.le_refl _),List.map_append];rfl
 refine za7 [(480,false,1,r.hard.snap.map encB),(481,false,16,r.hard.log.map Ent.enc),(736,false,13,(askR r c).reads.map Rd.enc)] ?_ (zat ⟨zao ?_,zae _ rfl,rfl⟩)
 ·intro q hq
  simp only [List.mem_cons,List.mem_nil_iff,or_false] at hq
  rcases hq with rfl | rfl | rfl
  ·rfl
  ·rfl
  ·refine Eq.trans ?_ (congrArg (fun l=>some (some (false,13,l))) erow)
   kernel_rfl
 conv=>whnf
 repeat' (first | exact rfl | ((with_reducible refine And.intro ?_ ?_)<;>(first | (with_reducible exact zae _ rfl) | (refine zba (b:=false) (List.Mem.head _) rfl) | (refine zba (b:=false) (List.Mem.tail _ (List.Mem.head _)) rfl) | (refine zba (b:=false) (List.Mem.tail _ (List.Mem.tail _ (List.Mem.head _))) rfl) | (conv=>whnf))))
 refine zba (rn:=[]) (kb:=[]) (b:=false) (List.Mem.tail _ (List.Mem.tail _ (List.Mem.head _))) ?_
 show _=((r.reads++[qR r c]).map Rd.enc).length
 rw [List.map_append,List.length_append];rfl
noncomputable abbrev mayB (r:Rft):Bool:=fits r.hard r.commit r.hard.term && decide ((force r.hard (lastI r.hard)).2≤r.commit)
noncomputable def chgE (r:Rft) (c:Conf):Int:=if zcb r=0 then (if mayB r=true then (if nearR (zab r) c=true∧¬ zab r=c then (if r.hard.log.length < 64 then 0 else 5) else 14) else 13) else 11
def nxt (f:Nat→Bool) (v:Int) (a:Arr):Nat→Arr
 | 0=>a
 | k+1=>if f k=true then (nxt f v a k).put k v else nxt f v a k
theorem zdl {f:Nat→Bool}{v:Int}{a:Arr}{k:Nat} (h:f k=true):nxt f v a (k+1)=(nxt f v a k).put k v:=if_pos h
theorem zc3 {f:Nat→Bool}{v:Int}{a:Arr}{k:Nat} (h:f k=false):nxt f v a (k+1)=nxt f v a k:=if_neg (by rw [h];decide)
noncomputable def newB (was c:Conf) (k:Nat):Bool:=tb (allB c) k && !tb (allB was) k
theorem z0o (r:Rft) (c:Conf) (hl0:r.hard.log.length < 4294967) (hr:zbu r=true) (he:¬ chgE r c=0):Ctr Tryz.prog 105 [.ag r.enc,.ag c.enc] (.tu [.ag rzv,iv 0,iv (chgE r c)]) []:=by
 have hg:=zd8 hr
 have hf:=hg.fit hl0
 have hb:=hf.base
 have ko:=c_of r hf.snap (by omega) (by have:=hf.reads;omega) hr
 have kl:=zix r (zad (by omega))
 have kv:=zdp r (zad (by omega))
 have km:=c_May r.hard (zad (by omega)) (by unfold isI;omega) r.commit (hg.comI hl0)
 have kn:=c_Near (zab r) c
 unfold chgE at he ⊢
 rcases zjq r with h1 | h1
 ·rw [if_pos h1] at he ⊢
  rw [h1] at kl
  cases hw:mayB r with
  | false =>
   rw [show (fits r.hard r.commit r.hard.term && decide ((force r.hard (lastI r.hard)).2≤r.commit))=false from hw] at km
   rw [if_neg (by decide)]
   refine sBody Tryz.func105 ?_;conv=>whnf
   refine tE ([(28,500)],[],[(0,600),(1,601),(2,602),(3,603)]) ko ?_
   refine tC kl ?_
   refine tC kv ?_
   refine tC km ?_
   exact zaa rfl rfl
  | true =>
   rw [show (fits r.hard r.commit r.hard.term && decide ((force r.hard (lastI r.hard)).2≤r.commit))=true from hw] at km
   rw [hw,if_pos rfl] at he
   rw [if_pos rfl]
   cases hn:nearR (zab r) c with
   | false =>
    rw [hn] at kn
    rw [if_neg (by intro h;cases h.1)]
    refine sBody Tryz.func105 ?_;conv=>whnf
    refine tE ([(28,500)],[],[(0,600),(1,601),(2,602),(3,603)]) ko ?_
    refine tC kl ?_
    refine tC kv ?_
    refine tC km ?_
    refine tC kn ?_
    exact zaa rfl rfl
   | true =>
    rw [hn] at kn
    by_cases h2:zab r=c
    ·rw [if_neg (fun h=>h.2 h2)]
     refine sBody Tryz.func105 ?_;conv=>whnf
     refine tE ([(28,500)],[],[(0,600),(1,601),(2,602),(3,603)]) ko ?_
     refine tC kl ?_
     refine tC kv ?_
     refine tC km ?_
     refine tC kn ?_
     refine ⟨zig,_,zh5 _ c,?_⟩
     refine tS ?_ ?_<;>intro h
     ·exact zaa rfl rfl
     ·exact absurd h2 (by first | exact h | (simpa using h))
    ·rw [hn,if_pos ⟨rfl,h2⟩] at he
     rw [if_pos ⟨rfl,h2⟩]
     by_cases h3:r.hard.log.length < 64
     ·rw [if_pos h3] at he;exact absurd rfl he
     ·rw [if_neg h3]
      refine sBody Tryz.func105 ?_;conv=>whnf
      refine tE ([(28,500)],[],[(0,600),(1,601),(2,602),(3,603)]) ko ?_
      refine tC kl ?_
      refine tC kv ?_
      refine tC km ?_
      refine tC kn ?_
      refine ⟨zig,_,zh5 _ c,?_⟩
      refine tS ?_ ?_<;>intro h
      ·exact absurd (by first | exact h | (simpa using h)) h2
      clear h
      refine tS ?_ ?_<;>intro h
      ·exact zaa rfl rfl
      ·simp only [List.length_map] at h
       omega
 ·rw [if_neg (by omega)]
  rw [h1] at kl
  refine sBody Tryz.func105 ?_;conv=>whnf
  refine tE ([(28,500)],[],[(0,600),(1,601),(2,602),(3,603)]) ko ?_
  refine tC kl ?_
  refine tC kv ?_
  exact zaa rfl rfl
theorem zfw (was c:Conf) {k:Nat} (hk:k < 64):(band (shr (bandn (bor (bor (bor c.full c.wit) c.learn) c.lwit) (bor (bor (bor was.full was.wit) was.learn) was.lwit)) k) 1=1→newB was c k=true)∧(¬ band (shr (bandn (bor (bor (bor c.full c.wit) c.learn) c.lwit) (bor (bor (bor was.full was.wit) was.learn) was.lwit)) k) 1=1→newB was c k=false):=by
 rw [zes _ k hk,zsa _ _ k hk]
 show (nb (newB was c k)=1→_)∧(¬ nb (newB was c k)=1→_)
 cases newB was c k with
 | true=>exact ⟨fun _=>rfl,fun h=>absurd rfl h⟩
 | false=>exact ⟨fun h=>absurd h (by decide),fun _=>rfl⟩
theorem z1k {r:Rft}{c:Conf} (he:chgE r c=0):zcb r=0∧mayB r=true∧nearR (zab r) c=true∧¬ zab r=c∧r.hard.log.length < 64:=by
 unfold chgE at he
 by_cases h1:zcb r=0
 ·rw [if_pos h1] at he
  by_cases h2:mayB r=true
  ·rw [if_pos h2] at he
   by_cases h3:nearR (zab r) c=true∧¬ zab r=c
   ·rw [if_pos h3] at he
    by_cases h4:r.hard.log.length < 64
    ·exact ⟨h1,h2,h3.1,h3.2,h4⟩
    ·rw [if_neg h4] at he;omega
   ·rw [if_neg h3] at he;omega
  ·rw [if_neg h2] at he;omega
 ·rw [if_neg h1] at he;omega
abbrev ecf (r:Rft) (c:Conf):Ent:=⟨r.hard.term,2,kz,c⟩
noncomputable abbrev nxR (r:Rft) (c:Conf) (k:Nat):Rft:={ r with next:=nxt (newB (zab r) c) (lastI r.hard+1) r.next k }
theorem obs_sc (x:Rft):∀ q ∈ x.obs,ScR q.2:=by
 intro q hq
 simp only [List.mem_cons,List.not_mem_nil,or_false] at hq
 rcases hq with rfl | rfl | rfl
 ·exact scB _
 ·exact scE _
 ·exact scD _
theorem znu {f:Nat}{args l:List PV}{x:Rft} (h:Ctr Tryz.prog f args (.tu (.ag (x.own 0) :: l)) x.obs) (hl:OwSlL x.obs l l):CtrN Tryz.prog f args (.tu (.ag x.enc :: l)):=by
 refine h.toN (obs_sc x) ⟨_,rfl,_,_,rfl,⟨_,rfl,?_⟩,hl⟩
 repeat' (first | exact rfl | refine ⟨_,_,rfl,rfl,?_⟩ | refine ⟨_,_,rfl,⟨_,_,rfl,rfl,rfl,rfl⟩,?_⟩)
theorem c_PropN (r:Rft) (c:VCall) (hf:Fit r) (hr:zbu r=true) (he:propE r c=0):CtrN Tryz.prog 59 [.ag r.enc,.ag c.enc] (.tu [.ag (addR r (ec r c)).enc,iv (lastI (logR r (ec r c))),iv 0]):=by
 refine znu ?_ ⟨_,_,rfl,rfl,_,_,rfl,rfl,rfl⟩
 have hl0:=hf.log
 have ko:=c_of r hf.snap (by omega) (by have:=hf.reads;omega) hr
 have kl:=zix r (zad (by omega))
 have ks:=zg8 c
 have ka:=c_add r hf.id (by omega) hf.base.1 hf.base.2 [] (ec r c)
 unfold propE at he
 have h1:zcb r=0:=by
  apply Classical.byContradiction;intro h;rw [if_neg h] at he;omega
 rw [if_pos h1] at he
 have h2:callR c=0:=by
  apply Classical.byContradiction;intro h;rw [if_neg h] at he;omega
 rw [if_pos h2] at he
 have h3:r.hard.log.length < 64:=by
  apply Classical.byContradiction;intro h;rw [if_neg h] at he;omega
 rw [h1] at kl
 rw [h2] at ks
 generalize hx:addR r (ec r c)=x at *
 refine sBody Tryz.func59 ?_;conv=>whnf
 refine tE ([(28,500)],[],[(0,600),(1,601),(2,602),(3,603)]) ko ?_
 refine tC kl ?_
 refine tC ks ?_
 refine tS ?_ ?_<;>intro h
 ·simp only [List.length_map] at h
  omega
 refine tER ([(9990,500)],[(9990,600),(9991,601),(9992,602),(9993,603)],[(1,4000)]) ka ?_
 refine zal [(0,600),(1,4000),(2,602)] rfl ⟨rfl,rfl,rfl,True.intro⟩ (zat ⟨zao ?_,zae _ rfl,zae _ rfl,rfl⟩)
 conv=>whnf
 repeat' (first | exact rfl | ((with_reducible refine And.intro ?_ ?_)<;>(first | (with_reducible exact zae _ rfl) | exact zas rfl rfl rfl | (conv=>whnf))))
theorem c_AskN (r:Rft) (c:VCall) (hl0:r.hard.log.length < 4294967) (hr:zbu r=true) (he:askE r c=0):CtrN Tryz.prog 106 [.ag r.enc,.ag c.enc] (.tu [.ag (askR r c).enc,iv 0]):=by
 refine znu ?_ ⟨_,_,rfl,rfl,rfl⟩
 have hg:=zd8 hr
 have hf:=hg.fit hl0
 have hb:=hf.base
 have hid:=hf.id
 have hro:=hf.round
 have ko:=c_of r hf.snap (by omega) (by have:=hf.reads;omega) hr
 have kl:=zix r (zad (by omega))
 have kw:=c_Own r.hard (zad (by omega)) (by unfold isI;omega) r.commit (hg.comI hl0)
 have ks:=zg8 c
 obtain ⟨h1,h2,h3,h4⟩:=zzq he
 rw [h1] at kl
 rw [show fits r.hard r.commit r.hard.term=true from h2] at kw
 rw [h3] at ks
 have ew:IntKind.i64.wrap (r.round+1)=r.round+1:=zaf (by omega) (by omega)
 have b1:((r.reads.map Rd.enc).length+1) * 128≤140737488355328:=by rw [List.length_map];omega
 have b2:(r.reads.map Rd.enc).length+1≤maxLen:=zad (by rw [List.length_map];omega)
 refine sBody Tryz.func106 ?_;conv=>whnf
 refine tE ([(28,500)],[],[(0,600),(1,601),(2,602),(3,603)]) ko ?_
 refine tC kl ?_
 refine tC kw ?_
 refine tC ks ?_
 refine tS ?_ ?_<;>intro h
 ·simp only [List.length_map] at h
  omega
 clear h
 refine ⟨⟨by decide,hid.1⟩,?_⟩
 conv=>whnf
 refine tAB b1 b2 ?_
 have erow:List.take (r.reads.map Rd.enc).length (r.reads.map Rd.enc)++[(⟨c,r.commit,farM (IntKind.i64.wrap (r.round+1)),shl 1 r.id⟩:Rd).enc]=(askR r c).reads.map Rd.enc:=by
  rw [ew,List.take_of_length_le (Nat.le_refl _),List.map_append];rfl
 have erl:(List.take (r.reads.map Rd.enc).length (r.reads.map Rd.enc)++[(⟨c,r.commit,farM (IntKind.i64.wrap (r.round+1)),shl 1 r.id⟩:Rd).enc]).length=((askR r c).reads.map Rd.enc).length:=congrArg List.length erow
 refine zal [(0,600),(1,601),(2,1120)] rfl ⟨rfl,rfl,?_,True.intro⟩ (zat ⟨zao ?_,zae _ rfl,rfl⟩)
 ·exact zbi (by kernel_rfl) erow
 conv=>whnf
 repeat' (first | exact rfl | ((with_reducible refine And.intro ?_ ?_)<;>(first | (with_reducible exact zae _ rfl) | exact zas rfl rfl rfl | (refine zas rfl rfl ?_;show _=((r.reads++[qR r c]).map Rd.enc).length;rw [List.map_append,List.length_append];rfl) | (conv=>whnf))))
theorem z26 (r:Rft) (hl0:r.hard.log.length < 4294967) (hr:zbu r=true) (a:Int):CtrN Tryz.prog 107 [.ag r.enc,iv a] (.tu [.ag ({ r with reads:=r.reads.filter fun x=>!rdy (zab r) a x }:Rft).enc,.sl 13 ((r.reads.filter (rdy (zab r) a)).map Rd.enc),iv 0]):=by
 have hg:=zd8 hr
 have hf:=hg.fit hl0
 have hrl:=hf.reads
 have ko:=c_of r hf.snap (by omega) (by omega) hr
 have kc:=zdp r (zad (by omega))
 have ky:=c_Ready r.reads (by omega) (zab r) a
 refine (?_:Ctr Tryz.prog 107 [.ag r.enc,iv a] (.tu [.ag (({ r with reads:=r.reads.filter fun x=>!rdy (zab r) a x }:Rft).own 0),.ow 3 0 ((r.reads.filter (rdy (zab r) a)).map Rd.enc).length,iv 0]) (({ r with reads:=r.reads.filter fun x=>!rdy (zab r) a x }:Rft).obs++[(13,(r.reads.filter (rdy (zab r) a)).map Rd.enc)])).toN ?_ ?_
 rotate_left
 ·intro q hq
  rcases List.mem_append.1 hq with hq | hq
  ·exact obs_sc _ q hq
  ·rw [List.mem_singleton.1 hq];exact scD _
 ·refine ⟨_,rfl,_,_,rfl,⟨_,rfl,?_⟩,_,_,rfl,⟨_,_,rfl,rfl,rfl,rfl⟩,_,_,rfl,rfl,rfl⟩
  repeat' (first | exact rfl | refine ⟨_,_,rfl,rfl,?_⟩ | refine ⟨_,_,rfl,⟨_,_,rfl,rfl,rfl,rfl⟩,?_⟩)
 refine sBody Tryz.func107 ?_;conv=>whnf
 refine tE ([(28,500)],[],[(0,600),(1,601),(2,602),(3,603)]) ko ?_
 refine tC kc ?_
 refine tO ?_
 refine tCE ky ?_
 refine tN2 ?_
 refine zal [(0,600),(1,601),(2,465),(3,464)] rfl ⟨rfl,rfl,rfl,rfl,True.intro⟩ (zat ⟨zao ?_,zas rfl rfl rfl,zae _ rfl,rfl⟩)
 conv=>whnf
 repeat' (first | exact rfl | ((with_reducible refine And.intro ?_ ?_)<;>(first | (with_reducible exact zae _ rfl) | exact zas rfl rfl rfl | (conv=>whnf))))
theorem c_CompN (r:Rft) (hl0:r.hard.log.length < 4294967) (hr:zbu r=true) (s:List Int) (hs:s.length≤4294967296) (he:compE r.hard r.commit s=0):CtrN Tryz.prog 108 [.ag r.enc,.sl 1 (s.map encB)] (.tu [.ag ({ r with hard:=compH r.hard r.commit s }:Rft).enc,iv 0]):=by
 refine znu ?_ ⟨_,_,rfl,rfl,rfl⟩
 have hg:=zd8 hr
 have hf:=hg.fit hl0
 have hb:=hf.base
 have ko:=c_of r hf.snap (by omega) (by have:=hf.reads;omega) hr
 have kc:=zqy r.hard (by omega) (by unfold isI;omega) r.commit (hg.comI hl0) s hs
 rw [(zdt he).1,(zdt he).2.1] at kc
 generalize compH r.hard r.commit s=x at *
 refine sBody Tryz.func108 ?_;conv=>whnf
 refine tE ([(28,500)],[],[(0,600),(1,601),(2,602),(3,603)]) ko ?_
 refine tO ?_
 refine tO ?_
 refine tCE kc ?_
 refine tN2 ?_
 refine zal [(0,480),(1,481),(2,602)] rfl ⟨rfl,rfl,rfl,True.intro⟩ (zat ⟨zao ?_,zae _ rfl,rfl⟩)
 conv=>whnf
 repeat' (first | exact rfl | ((with_reducible refine And.intro ?_ ?_)<;>(first | (with_reducible exact zae _ rfl) | exact zas rfl rfl rfl | (conv=>whnf))))
theorem c_ChgN (r:Rft) (c:Conf) (hl0:r.hard.log.length < 4294967) (hr:zbu r=true) (he:chgE r c=0):CtrN Tryz.prog 105 [.ag r.enc,.ag c.enc] (.tu [.ag (addR (nxR r c 7) (ecf r c)).enc,iv (lastI (logR r (ecf r c))),iv 0]):=by
 refine znu ?_ ⟨_,_,rfl,rfl,_,_,rfl,rfl,rfl⟩
 have hg:=zd8 hr
 have hf:=hg.fit hl0
 have hb:=hf.base
 have ko:=c_of r hf.snap (by omega) (by have:=hf.reads;omega) hr
 have kl:=zix r (zad (by omega))
 have kv:=zdp r (zad (by omega))
 have km:=c_May r.hard (zad (by omega)) (by unfold isI;omega) r.commit (hg.comI hl0)
 have kn:=c_Near (zab r) c
 have kla:=zc1 r.hard (zad (by omega))
 have kal:=fun d:Conf=>c_All d
 obtain ⟨h1,h2,h3,h4,h5⟩:=z1k he
 rw [h1] at kl
 rw [show (fits r.hard r.commit r.hard.term && decide ((force r.hard (lastI r.hard)).2≤r.commit))=true from h2] at km
 rw [h3] at kn
 have ka:=c_add (nxR r c 7) hf.id (by show r.hard.log.length≤_;omega) hf.base.1 hf.base.2 [] (ecf r c)
 generalize hx:addR (nxR r c 7) (ecf r c)=x at *
 have hla:lastI r.hard=r.hard.base+r.hard.log.length:=zax (h:=r.hard) hb.1 (by omega)
 have ewl:IntKind.i64.wrap (lastI r.hard+1)=lastI r.hard+1:=zaf (by omega) (by omega)
 refine sBody Tryz.func105 ?_;conv=>whnf
 refine tE ([(28,500)],[],[(0,600),(1,601),(2,602),(3,603)]) ko ?_
 refine tC kl ?_
 refine tC kv ?_
 refine tC km ?_
 refine tC kn ?_
 refine ⟨zig,_,zh5 _ c,?_⟩
 refine tS ?_ ?_<;>intro h
 ·exact absurd (by first | exact h | (simpa using h)) h4
 clear h
 refine tS ?_ ?_<;>intro h
 ·simp only [List.length_map] at h
  omega
 clear h
 refine tC kla ?_
 refine tFor (fun k:Nat=>k≤7) (fun k=>[(62,iv k)]) (fun k=>[(2,r.enc),(3,c.enc),(4,rzv),(500,repV (nxR r c k) (snW r 600) (lgW r 601) (rdW r 602) (.ow 603 0 0)),(9,(zab r).enc)]) (fun _=>[(600,snO r),(601,lgO r),(602,rdO r),(603,some (false,16,[]))]) [(600,600),(601,601),(602,602),(603,603)] (fun k=>7 - k) 0 (by decide) ?_ ?_
 ·exact wkE
 intro k hk
 rcases (by omega:k=0∨k=1∨k=2∨k=3∨k=4∨k=5∨k=6∨k=7) with rfl | rfl | rfl | rfl | rfl | rfl | rfl | rfl
 ·have hb':=zfw (zab r) c (k:=0) (by decide)
  refine tC (kal c) ?_
  refine tC (kal (zab r)) ?_
  refine tK2 ?_
  refine tS ?_ ?_<;>intro h
  ·have e:(nxR r c 1).next=(nxR r c 0).next.put 0 (lastI r.hard+1):=zdl (hb'.1 h)
   refine tK2 ?_
   refine ⟨1,[(600,600),(601,601),(602,602),(603,603)],⟨by omega,by omega⟩,?_⟩
   (refine tWK ?_;and_intros<;>try exact ⟨⟩)
   all_goals first | rfl | (rw [e];done) | (rw [e];rfl) | (rw [e];exact ewl) | trace_state
  ·have e:(nxR r c 1).next=(nxR r c 0).next:=zc3 (hb'.2 h)
   refine ⟨1,[(600,600),(601,601),(602,602),(603,603)],⟨by omega,by omega⟩,?_⟩
   (refine tWK ?_;and_intros<;>try exact ⟨⟩)
   all_goals first | rfl | (rw [e];done) | (rw [e];rfl) | trace_state
 ·have hb':=zfw (zab r) c (k:=1) (by decide)
  refine tC (kal c) ?_
  refine tC (kal (zab r)) ?_
  refine tK2 ?_
  refine tS ?_ ?_<;>intro h
  ·have e:(nxR r c 2).next=(nxR r c 1).next.put 1 (lastI r.hard+1):=zdl (hb'.1 h)
   refine tK2 ?_
   refine ⟨2,[(600,600),(601,601),(602,602),(603,603)],⟨by omega,by omega⟩,?_⟩
   (refine tWK ?_;and_intros<;>try exact ⟨⟩)
   all_goals first | rfl | (rw [e];done) | (rw [e];rfl) | (rw [e];exact ewl) | trace_state
  ·have e:(nxR r c 2).next=(nxR r c 1).next:=zc3 (hb'.2 h)
   refine ⟨2,[(600,600),(601,601),(602,602),(603,603)],⟨by omega,by omega⟩,?_⟩
   (refine tWK ?_;and_intros<;>try exact ⟨⟩)
   all_goals first | rfl | (rw [e];done) | (rw [e];rfl) | trace_state
 ·have hb':=zfw (zab r) c (k:=2) (by decide)
  refine tC (kal c) ?_
  refine tC (kal (zab r)) ?_
  refine tK2 ?_
  refine tS ?_ ?_<;>intro h
  ·have e:(nxR r c 3).next=(nxR r c 2).next.put 2 (lastI r.hard+1):=zdl (hb'.1 h)
   refine tK2 ?_
   refine ⟨3,[(600,600),(601,601),(602,602),(603,603)],⟨by omega,by omega⟩,?_⟩
   (refine tWK ?_;and_intros<;>try exact ⟨⟩)
   all_goals first | rfl | (rw [e];done) | (rw [e];rfl) | (rw [e];exact ewl) | trace_state
  ·have e:(nxR r c 3).next=(nxR r c 2).next:=zc3 (hb'.2 h)
   refine ⟨3,[(600,600),(601,601),(602,602),(603,603)],⟨by omega,by omega⟩,?_⟩
   (refine tWK ?_;and_intros<;>try exact ⟨⟩)
   all_goals first | rfl | (rw [e];done) | (rw [e];rfl) | trace_state
 ·have hb':=zfw (zab r) c (k:=3) (by decide)
  refine tC (kal c) ?_
  refine tC (kal (zab r)) ?_
  refine tK2 ?_
  refine tS ?_ ?_<;>intro h
  ·have e:(nxR r c 4).next=(nxR r c 3).next.put 3 (lastI r.hard+1):=zdl (hb'.1 h)
   refine tK2 ?_
   refine ⟨4,[(600,600),(601,601),(602,602),(603,603)],⟨by omega,by omega⟩,?_⟩
   (refine tWK ?_;and_intros<;>try exact ⟨⟩)
   all_goals first | rfl | (rw [e];done) | (rw [e];rfl) | (rw [e];exact ewl) | trace_state
  ·have e:(nxR r c 4).next=(nxR r c 3).next:=zc3 (hb'.2 h)
   refine ⟨4,[(600,600),(601,601),(602,602),(603,603)],⟨by omega,by omega⟩,?_⟩
   (refine tWK ?_;and_intros<;>try exact ⟨⟩)
   all_goals first | rfl | (rw [e];done) | (rw [e];rfl) | trace_state
 ·have hb':=zfw (zab r) c (k:=4) (by decide)
  refine tC (kal c) ?_
  refine tC (kal (zab r)) ?_
  refine tK2 ?_
  refine tS ?_ ?_<;>intro h
  ·have e:(nxR r c 5).next=(nxR r c 4).next.put 4 (lastI r.hard+1):=zdl (hb'.1 h)
   refine tK2 ?_
   refine ⟨5,[(600,600),(601,601),(602,602),(603,603)],⟨by omega,by omega⟩,?_⟩
   (refine tWK ?_;and_intros<;>try exact ⟨⟩)
   all_goals first | rfl | (rw [e];done) | (rw [e];rfl) | (rw [e];exact ewl) | trace_state
  ·have e:(nxR r c 5).next=(nxR r c 4).next:=zc3 (hb'.2 h)
   refine ⟨5,[(600,600),(601,601),(602,602),(603,603)],⟨by omega,by omega⟩,?_⟩
   (refine tWK ?_;and_intros<;>try exact ⟨⟩)
   all_goals first | rfl | (rw [e];done) | (rw [e];rfl) | trace_state
 ·have hb':=zfw (zab r) c (k:=5) (by decide)
  refine tC (kal c) ?_
  refine tC (kal (zab r)) ?_
  refine tK2 ?_
  refine tS ?_ ?_<;>intro h
  ·have e:(nxR r c 6).next=(nxR r c 5).next.put 5 (lastI r.hard+1):=zdl (hb'.1 h)
   refine tK2 ?_
   refine ⟨6,[(600,600),(601,601),(602,602),(603,603)],⟨by omega,by omega⟩,?_⟩
   (refine tWK ?_;and_intros<;>try exact ⟨⟩)
   all_goals first | rfl | (rw [e];done) | (rw [e];rfl) | (rw [e];exact ewl) | trace_state
  ·have e:(nxR r c 6).next=(nxR r c 5).next:=zc3 (hb'.2 h)
   refine ⟨6,[(600,600),(601,601),(602,602),(603,603)],⟨by omega,by omega⟩,?_⟩
   (refine tWK ?_;and_intros<;>try exact ⟨⟩)
   all_goals first | rfl | (rw [e];done) | (rw [e];rfl) | trace_state
 ·have hb':=zfw (zab r) c (k:=6) (by decide)
  refine tC (kal c) ?_
  refine tC (kal (zab r)) ?_
  refine tK2 ?_
  refine tS ?_ ?_<;>intro h
  ·have e:(nxR r c 7).next=(nxR r c 6).next.put 6 (lastI r.hard+1):=zdl (hb'.1 h)
   refine tK2 ?_
   refine ⟨7,[(600,600),(601,601),(602,602),(603,603)],⟨by omega,by omega⟩,?_⟩
   (refine tWK ?_;and_intros<;>try exact ⟨⟩)
   all_goals first | rfl | (rw [e];done) | (rw [e];rfl) | (rw [e];exact ewl) | trace_state
  ·have e:(nxR r c 7).next=(nxR r c 6).next:=zc3 (hb'.2 h)
   refine ⟨7,[(600,600),(601,601),(602,602),(603,603)],⟨by omega,by omega⟩,?_⟩
   (refine tWK ?_;and_intros<;>try exact ⟨⟩)
   all_goals first | rfl | (rw [e];done) | (rw [e];rfl) | trace_state
 ·conv=>whnf
  refine tER ([(9990,500)],[(9990,600),(9991,601),(9992,602),(9993,603)],[(1,4000)]) ka ?_
  refine zal [(0,600),(1,4000),(2,602)] rfl ⟨rfl,rfl,rfl,True.intro⟩ (zat ⟨zao ?_,zae _ rfl,zae _ rfl,rfl⟩)
  conv=>whnf
  repeat' (first | exact rfl | ((with_reducible refine And.intro ?_ ?_)<;>(first | (with_reducible exact zae _ rfl) | exact zas rfl rfl rfl | (conv=>whnf))))
theorem znr {g:Int}{a:Arr} (h:∀ i,i < 7→0≤a.at i∧a.at i≤g):arrR g a=true:=by
 unfold arrR
 have h0:inR g a.a0=true:=zac (h 0 (by decide))
 have h1:inR g a.a1=true:=zac (h 1 (by decide))
 have h2:inR g a.a2=true:=zac (h 2 (by decide))
 have h3:inR g a.a3=true:=zac (h 3 (by decide))
 have h4:inR g a.a4=true:=zac (h 4 (by decide))
 have h5:inR g a.a5=true:=zac (h 5 (by decide))
 have h6:inR g a.a6=true:=zac (h 6 (by decide))
 rw [h0,h1,h2,h3,h4,h5,h6];rfl
theorem zh6 {r:Rft} (h:Rgt r):zbu r=true:=by
 have hl:=h.lead
 unfold zbu
 simp only [Bool.and_eq_true,decide_eq_true_eq]
 refine ⟨h.hard,zac (by have:=h.id;omega),h.com.1,h.com.2,zac h.role,hl.1,hl.2,zac h.wait,⟨zac h.quiet,zac h.round⟩,zac h.votes,znr h.next,znr h.mtch,znr h.silent,h.reads,?_⟩
 split
 ·rename_i e;exact decide_eq_true (h.own e)
 ·rfl
theorem zoy {P:Nat→Prop} (h0:P 0) (h1:P 1) (h2:P 2) (h3:P 3) (h4:P 4) (h5:P 5) (h6:P 6):∀ i,i < 7→P i:=by
 intro i hi
 rcases (by omega:i=0∨i=1∨i=2∨i=3∨i=4∨i=5∨i=6) with rfl | rfl | rfl | rfl | rfl | rfl | rfl
 ·exact h0
 ·exact h1
 ·exact h2
 ·exact h3
 ·exact h4
 ·exact h5
 ·exact h6
theorem zA_at:∀ i,i < 7→zA.at i=0:=zoy rfl rfl rfl rfl rfl rfl rfl
theorem allA_at (n:Int):∀ i,i < 7→(allA n).at i=n:=zoy rfl rfl rfl rfl rfl rfl rfl
theorem zjw {g:Int} (hg:0≤g):∀ i,i < 7→0≤zA.at i∧zA.at i≤g:=fun i hi=>by rw [zA_at i hi];omega
theorem zlj {a:Arr}{g:Int} (h:∀ i,i < 7→0≤a.at i∧a.at i≤g) {k:Nat}{v:Int} (hv:0≤v∧v≤g):∀ i,i < 7→0≤(a.put k v).at i∧(a.put k v).at i≤g:=by
 have key:∀ i,i < 7→(a.put k v).at i=a.at i∨(a.put k v).at i=v:=by
  by_cases hk:k < 7
  ·rcases (by omega : k = 0 ∨ k = 1 ∨ k = 2 ∨ k = 3 ∨ k = 4 ∨ k = 5 ∨ k = 6) with rfl | rfl | rfl | rfl | rfl | rfl | rfl <;>
     exact zoy (by first | exact .inl rfl | exact .inr rfl) (by first | exact .inl rfl | exact .inr rfl) (by first | exact .inl rfl | exact .inr rfl) (by first | exact .inl rfl | exact .inr rfl) (by first | exact .inl rfl | exact .inr rfl) (by first | exact .inl rfl | exact .inr rfl) (by first | exact .inl rfl | exact .inr rfl)
  ·have e : a.put k v = a := by
     unfold Arr.put
     split<;>first | omega | rfl
   intro i hi
   rw [e];exact .inl rfl
 intro i hi
 rcases key i hi with e | e
 ·rw [e];exact h i hi
 ·rw [e];exact hv
theorem zi1 {r:Rft} (h:r.reads=[]):rdsB r=true:=by
 unfold rdsB
 rw [h,if_neg (by show ¬ 4 < 0;omega),if_neg (by show ¬ (0 < 0∧_);omega)];rfl
theorem z0t {c c':Int} (h:c≤c') {x:Rd} (hx:rdB c x=true):rdB c' x=true:=by
 unfold rdB at hx ⊢
 simp only [Bool.and_eq_true] at hx ⊢
 have h1:=zda hx.2.1
 exact ⟨hx.1,zac (by omega),hx.2.2⟩
theorem zm3 {r:Rft} (h:rdsB r=true):r.reads.length≤4∧(0 < r.reads.length→r.role=3)∧∀ x ∈ r.reads,rdB r.commit x=true:=by
 unfold rdsB at h
 split at h
 ·cases h
 ·split at h
  ·cases h
  ·rename_i h1 h2
   rw [List.all_eq_true] at h
   exact ⟨by omega,fun h3=>Classical.byContradiction fun h4=>h2 ⟨h3,h4⟩,h⟩
theorem zn6 {r:Rft} (h1:r.reads.length≤4) (h2:0 < r.reads.length→r.role=3) (h3:∀ x ∈ r.reads,rdB r.commit x=true):rdsB r=true:=by
 unfold rdsB
 rw [if_neg (by omega),if_neg (fun h=>h.2 (h2 h.1)),List.all_eq_true]
 exact h3
theorem zku {h:Hrd} (hh:hardB h=true) {t v:Int} (ht:h.term≤t∧t≤1099511627776) (hv:-1≤v∧v≤6):hardB { h with term:=t,vote:=v }=true:=by
 obtain ⟨hA,h2,h3,h4⟩:=zaq hh
 have hA':HardA { h with term:=t,vote:=v }:=⟨by have:=hA.t;show 0≤t∧t≤_;omega,hv,hA.b,by have:=hA.bt;show 0≤h.baseTerm∧h.baseTerm≤t;omega,hA.z⟩
 unfold hardB
 rw [ze0 hA',show (({ h with term:=t,vote:=v }:Hrd)).baseConf=h.baseConf from rfl,h2,decide_eq_true h3,zpm _ _ _ _ ht.1 h4];rfl
theorem zvj {r:Rft} (h:Rgt r) {t l:Int} (ht:r.hard.term≤t∧t≤1099511627776) (hl:-1≤l∧l < 7):Rgt (fallR r t l):=by
 have hd:=zd6 (zab r) h.id
 have hc:=h.com
 have hb:=(zaq h.hard).1.b
 have hz:∀ i,i < 7→0≤zA.at i∧zA.at i≤1099511627776:=zjw (by decide)
 refine ⟨?_,h.id,⟨by rw [zks];exact hc.1,by rw [zgt];exact hc.2⟩,by show (0:Int)≤0∧(0:Int)≤3;decide,hl,⟨hd.1,Int.le_trans hd.2 (by decide)⟩,h.quiet,h.round,by show (0:Int)≤0∧(0:Int)≤127;decide,hz,by rw [zgt];exact zjw (by omega),hz,zi1 rfl,fun e=>absurd e (by show ¬ (0:Int)=3;decide)⟩
 show hardB (if t > r.hard.term then { r.hard with term:=t,vote:=-1 } else r.hard)=true
 split
 ·exact zku h.hard ht (by decide)
 ·exact h.hard
theorem zmq {h:Hrd} (hh:hardB h=true) (hl:h.log.length≤4294967) {c:Int} (m:Arr) (hc:h.base≤c∧c≤lastI h):c≤zc9 h c m∧zc9 h c m≤lastI h:=by
 have hla:=zd9 hh hl
 refine ⟨zn7 _,?_⟩
 unfold zc9
 rcases zlv (p:=hit h m) (base:=h.base) (commit:=c) (h.log.length+1) with e | e
 ·rw [e];exact hc.2
 ·rw [hla];omega
theorem zyb {h:Hrd} (hh:hardB h=true) {x:Ent} (hx:zd5 x=true) (ht:x.term=h.term) (h1:1≤h.term):hardB { h with log:=h.log++[x] }=true:=by
 obtain ⟨hA,h2,h3,h4⟩:=zaq hh
 refine zqo hh ?_
 rw [zeq,h4,Bool.true_and]
 have hb:behind h.log h.baseTerm h.log.length≤h.term:=by
  cases hn:h.log.length with
  | zero=>rw [zek];exact hA.bt.2
  | succ k=>exact hn ▸ (zmx h4 (q:=h.log.length) (by omega) (Nat.le_refl _)).2
 unfold rowB
 rw [hx,decide_eq_true (show max (behind h.log h.baseTerm h.log.length) 1≤x.term∧x.term≤h.term by omega)]
 rfl
theorem zph {r:Rft} (h:Rgt r) (hl:r.hard.log.length < 4294960) (x:Ent):lastI (logR r x)=lastI r.hard+1∧(logR r x).log.length=r.hard.log.length+1:=by
 have hb:=(zaq h.hard).1.b
 have e:(logR r x).log.length=r.hard.log.length+1:=by rw [List.length_append];rfl
 have eb:(logR r x).base=r.hard.base:=rfl
 refine ⟨?_,e⟩
 rw [zax (h:=logR r x) hb.1 (by rw [e,eb];omega),zax (h:=r.hard) hb.1 (by omega),e,eb]
 omega
theorem zqi {r:Rft} (h:Rgt r) (hl:r.hard.log.length < 4294960) {x:Ent} (hx:zd5 x=true) (ht:x.term=r.hard.term) (h1:1≤r.hard.term):Rgt (addR r x):=by
 have hh:hardB (logR r x)=true:=zyb h.hard hx ht h1
 obtain ⟨e1,e2⟩:=zph h hl x
 have hb:=(zaq h.hard).1.b
 have hc:=h.com
 have hcf:=zmq hh (by omega) (c:=r.commit) (r.mtch.put r.id.toNat (lastI (logR r x))) ⟨hc.1,by rw [e1];omega⟩
 have hm:∀ i,i < 7→0≤r.mtch.at i∧r.mtch.at i≤lastI (logR r x):=fun i hi=>by have:=h.mtch i hi;rw [e1];omega
 obtain ⟨q1,q2,q3⟩:=zm3 h.reads
 refine ⟨hh,h.id,⟨Int.le_trans hc.1 hcf.1,hcf.2⟩,h.role,h.lead,h.wait,h.quiet,h.round,h.votes,h.next,zlj hm (by rw [e1];omega),h.silent,zn6 q1 q2 fun y hy=>z0t hcf.1 (q3 y hy),h.own⟩
theorem et_yes (t:Int):zd5 (et t)=true:=by
 unfold zd5
 rw [if_pos rfl]
 rfl
theorem zj2 {n:Int} (h:0≤n):0≤farM n∧farM n≤1099511627776:=by unfold farM;split<;>omega
theorem zwp {r:Rft} (h:Rgt r) (hl:r.hard.log.length < 4294960) (h1:1≤r.hard.term) (hla:lastI r.hard < 1099511627776):Rgt (leadR r):=by
 have hr:=h.round
 have hz:∀ i,i < 7→0≤zA.at i∧zA.at i≤1099511627776:=zjw (by decide)
 have hb:=(zaq h.hard).1.b
 have hc:=h.com
 have h0:Rgt (led0 r):=⟨h.hard,h.id,h.com,by show (0:Int)≤3∧(3:Int)≤3;decide,by have:=h.id;show -1≤r.id∧r.id < 7;omega,h.wait,by show (0:Int)≤0∧(0:Int)≤1099511627776;decide,zj2 (by omega),by show (0:Int)≤0∧(0:Int)≤127;decide,h.next,zjw (by show 0≤lastI r.hard;omega),hz,zi1 rfl,fun _=>rfl⟩
 have h2:=zqi h0 hl (et_yes r.hard.term) rfl h1
 obtain ⟨e1,e2⟩:=zph h hl (et r.hard.term)
 refine ⟨h2.hard,h2.id,h2.com,h2.role,h2.lead,h2.wait,h2.quiet,h2.round,h2.votes,?_,h2.mtch,h2.silent,h2.reads,h2.own⟩
 intro i hi
 show 0≤(allA (lastI (logR r (et r.hard.term)))).at i∧(allA (lastI (logR r (et r.hard.term)))).at i≤_
 rw [allA_at _ i hi,e1];omega
theorem zih {i:Int} (h:0≤i∧i < 7):0≤shl 1 i∧shl 1 i≤127:=by
 obtain ⟨n,rfl⟩:∃ n:Nat,i=n:=⟨i.toNat,by omega⟩
 exact shl_fit (by omega)
theorem z04 {r:Rft} (h:Rgt r) (ht:r.hard.term < 1099511627776) (hn:r.reads=[]):Rgt (stdR r):=by
 have hd:=zd6 (zab (std0 r)) h.id
 have hid:=h.id
 have hT:=(zaq h.hard).1.t
 refine ⟨zku h.hard (by omega) (by omega),h.id,h.com,by show (0:Int)≤2∧(2:Int)≤3;decide,by show (-1:Int)≤-1∧(-1:Int) < 7;decide,⟨hd.1,Int.le_trans hd.2 (by decide)⟩,h.quiet,h.round,zih h.id,h.next,h.mtch,h.silent,zi1 hn,fun e=>absurd e (by show ¬ (2:Int)=3;decide)⟩
theorem zfj {r:Rft} (h:Rgt r) (hn:r.role ≠ 3):r.reads=[]:=by
 obtain ⟨_,q2,_⟩:=zm3 h.reads
 apply Classical.byContradiction
 intro hne
 exact hn (q2 (List.length_pos_iff.2 hne))
theorem zoi {r:Rft} (h:Rgt r):Rgt (tq r):=⟨h.hard,h.id,h.com,h.role,h.lead,h.wait,zj2 (by have:=h.quiet;omega),h.round,h.votes,h.next,h.mtch,h.silent,h.reads,h.own⟩
theorem z22 {r:Rft} (h:Rgt r):Rgt (tw r):=⟨h.hard,h.id,h.com,h.role,h.lead,by
 have:=h.wait
 show 0≤zeroM (r.wait - 1)∧zeroM (r.wait - 1)≤100
 unfold zeroM
 split<;>omega,(zoi h).quiet,h.round,h.votes,h.next,h.mtch,h.silent,h.reads,h.own⟩
theorem zta {r:Rft} (h:Rgt r) (hn:r.role ≠ 3):Rgt (taR r):=by
 have hd:=zd6 (zab (ta r)) h.id
 exact ⟨h.hard,h.id,h.com,by show (0:Int)≤1∧(1:Int)≤3;decide,by show (-1:Int)≤-1∧(-1:Int) < 7;decide,⟨hd.1,Int.le_trans hd.2 (by decide)⟩,(zoi h).quiet,h.round,zih h.id,h.next,h.mtch,h.silent,zi1 (show r.reads=[] from zfj h hn),fun e=>absurd e (by show ¬ (1:Int)=3;decide)⟩
theorem zxl {a b:Int} (ha:0≤a∧a≤127) (hb:0≤b∧b≤127):0≤bor a b∧bor a b≤127:=zow ha hb
theorem z3j {r:Rft} (h:Rgt r) {m:Mg} (hf:0≤m.frm∧m.frm < 7):Rgt (vtR r m):=⟨h.hard,h.id,h.com,h.role,h.lead,h.wait,h.quiet,h.round,zxl h.votes (zih hf),h.next,h.mtch,h.silent,h.reads,h.own⟩
theorem zl4 {r:Rft} (h:Rgt r) {m:Mg} (hf:0≤m.frm∧m.frm < 7) {H:Hrd}{c:Int} (hh:hardB H=true) (ht:H.term=r.hard.term) (hc:H.base≤c∧c≤lastI H):Rgt (folR (setH r H c) m):=by
 have hT:=(zaq hh).1.t
 have hd:=zd6 (zab (setH r H c)) h.id
 have hz:∀ i,i < 7→0≤zA.at i∧zA.at i≤1099511627776:=zjw (by decide)
 have hb:=(zaq hh).1.b
 have e:=zii (setH r H c) m
 refine ⟨by rw [e];exact hh,h.id,by rw [e];exact hc,by show (0:Int)≤0∧(0:Int)≤3;decide,by show -1≤m.frm∧m.frm < 7;omega,⟨hd.1,Int.le_trans hd.2 (by decide)⟩,by show (0:Int)≤0∧(0:Int)≤1099511627776;decide,h.round,by show (0:Int)≤0∧(0:Int)≤127;decide,hz,by rw [e];exact zjw (by show 0≤lastI H;omega),hz,zi1 rfl,fun e=>absurd e (by show ¬ (0:Int)=3;decide)⟩
theorem znc {h:Hrd}{c:Int}{m:Mg} (hl:h.log.length≤4294000) (e:growE h c m=0):hardB (growO h c m).h=true∧(growO h c m).h.term=h.term:=by
 obtain ⟨h1,h2⟩:=zg3 e
 cases hf:fits h (gP h m) (gT h m) with
 | false=>rw [(zh8 h1 h2 hf).2];exact ⟨h1,rfl⟩
 | true =>
  obtain ⟨n,k⟩:=zre (by omega) e hf
  have hr:=k.ko.right
  rw [k.ko.log] at hr
  rw [k.out]
  exact ⟨hr,rfl⟩
theorem z1b {r:Rft} (h:Rgt r) {m:Mg} (hf:0≤m.frm∧m.frm < 7) (hl:r.hard.log.length≤4294000) (he:appE r m=0):Rgt (appR r m):=by
 unfold appE at he
 unfold appR
 split
 ·exact h
 ·rename_i hr
  rw [if_neg hr] at he
  rw [if_pos he]
  obtain ⟨g1,g2⟩:=znc hl he
  obtain ⟨q1,q2,_⟩:=zjk hl he
  have hc:=h.com
  exact zl4 h hf g1 g2 ⟨by rw [zpq he];omega,q2⟩
theorem zvq {h:Hrd}{i t:Int}{c:Conf}{s:List Int} (hl:h.log.length≤4294967) (e:instE h i t c s=0):hardB (instH h i t c s)=true∧(instH h i t c s).term=h.term:=by
 obtain ⟨hh,h1,hc,hs⟩:=z1i e
 have hb:=(zaq hh).1.b
 refine ⟨?_,rfl⟩
 cases hf:fits h i t with
 | true =>
  obtain ⟨q,hq⟩:∃ q:Nat,i=h.base+q:=⟨(i - h.base).toNat,by omega⟩
  have hin:=ziw (a:=h) (i:=i) (t:=t) (by omega) hf h1.1.1
  rw [zpe hq (by omega) hf]
  exact zs4 hh (by omega) (by omega) (by omega) hc (by omega)
 | false =>
  have:=z14 hh h1 hc (s:=s) (by omega)
  unfold instH
  rw [hf,if_neg (by decide)]
  exact this
theorem z0l {r:Rft} (h:Rgt r) {m:Mg} (hf:0≤m.frm∧m.frm < 7) (hl:r.hard.log.length≤4294000) (hi:0≤m.index∧m.index≤1099511627776) (he:insE r m=0):Rgt (insR r m):=by
 unfold insE at he
 unfold insR
 split
 ·exact h
 ·rename_i hr
  rw [if_neg hr] at he
  split
  ·rename_i hlt
   rw [if_pos hlt] at he
   rw [if_pos he]
   obtain ⟨g1,g2⟩:=zvq (by omega) he
   refine zl4 h hf g1 g2 ⟨Int.le_refl _,?_⟩
   have hl2:(insHH r m).log.length≤r.hard.log.length:=zga r.hard m.index m.logTerm m.conf m.snap
   rw [zax (h:=insHH r m) (by show 0≤m.index;omega) (by show m.index+(((insHH r m).log.length:Nat):Int) < _;omega)]
   show m.index≤m.index+_
   omega
  ·exact zl4 (H:=r.hard) (c:=r.commit) h hf h.hard rfl h.com
theorem zxu {r:Rft} (h:Rgt r) {m:Mg} (hf:0≤m.frm∧m.frm < 7) (hl:r.hard.log.length≤4294000) (hi:0≤m.index∧m.index≤1099511627776) (hla:lastI r.hard < 1099511627776):Rgt (zb8 r m):=by
 unfold zb8
 split
 ·rename_i hro
  have hmx:=h.mtch m.frm.toNat (by omega)
  have hnx:=h.next m.frm.toNat (by omega)
  have hc:=h.com
  have hb:=(zaq h.hard).1.b
  have hI:0≤lrnI r m∧lrnI r m≤lastI r.hard:=by unfold lrnI;split<;>omega
  have hmm:∀ i,i < 7→0≤(lrnMt r m).at i∧(lrnMt r m).at i≤lastI r.hard:=zlj h.mtch (by
   unfold nxM
   split<;>omega)
  have hnn:∀ i,i < 7→0≤(lrnNx r m).at i∧(lrnNx r m).at i≤1099511627776:=zlj h.next (by
   unfold nxN
   split<;>omega)
  have hcf:=zmq h.hard (by omega) (c:=r.commit) (lrnMt r m) hc
  obtain ⟨q1,q2,q3⟩:=zm3 h.reads
  refine ⟨h.hard,h.id,⟨Int.le_trans hc.1 hcf.1,hcf.2⟩,h.role,h.lead,h.wait,h.quiet,h.round,h.votes,hnn,hmm,zlj h.silent (by omega),zn6 (by show (r.reads.map _).length≤4;rw [List.length_map];exact q1) (fun _=>hro) fun y hy=>?_,h.own⟩
  obtain ⟨x,hx,rfl⟩:=List.mem_map.1 hy
  have hx:=z0t hcf.1 (q3 x hx)
  unfold ack1
  split
  ·unfold rdB at hx ⊢
   simp only [Bool.and_eq_true] at hx ⊢
   exact ⟨hx.1,hx.2.1,hx.2.2.1,zac (zxl (zda hx.2.2.2) (zih hf))⟩
  ·exact hx
 ·exact h
end Go.Proofs
