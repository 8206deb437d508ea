import Derived.Test.YtbhfokahocgndabGreatU5
import Derived.Test.YtbhfokahocgndabGreatR3
import Derived.Test.YtbhfokahocgndabGreatU7
/- Plain law: an act of a play keeps its replicas right. -/
set_option linter.unusedSimpArgs false
set_option linter.unusedVariables false
namespace Go.Proofs
open Go.Pv
set_option maxRecDepth 100000
theorem zgo {r:Rft} (h:zdx r=0):r.role=3:=by
 unfold zdx at h
 split at h
 ·assumption
 ·exact absurd h (by decide)
theorem cz_zero:(decide ((cz:Conf)=cz))=true:=by decide
theorem add_rp {n:Nat}{i:Int}{r:Rft} (h:Rp n i r) (hn:n≤199) {x:Ent} (hx:zds x=true) (ht:x.term=r.hard.term) (h1:1≤r.hard.term):Rp (n+1) i (addR r x) :=
 ⟨znt h.rgt (by have:=h.log;omega) hx ht h1,h.id,h.led,by show (r.hard.log++[x]).length≤_;rw [List.length_append];have:=h.log;show r.hard.log.length+1≤_;omega,by have:=h.base;show r.hard.base≤_;omega,h.snap⟩
theorem zoe {f:Nat→Bool}{v:Int}{a:Arr}{g:Int} (h:∀ i,i < 7→0≤a.at i∧a.at i≤g) (hv:0≤v∧v≤g):∀ k,∀ i,i < 7→0≤(nxt f v a k).at i∧(nxt f v a k).at i≤g
 | 0=>h
 | k+1=>by
  unfold nxt
  split
  ·exact ziz (zoe h hv k) hv
  ·exact zoe h hv k
theorem Rp.last0 {n:Nat}{i:Int}{r:Rft} (h:Rp n i r) (hn:n≤200):0≤lastI r.hard:=by
 rw [h.last hn]
 have:=(za9 h.rgt.hard).1.b
 omega
theorem nx_rp {n:Nat}{i:Int}{r:Rft} (h:Rp n i r) (hn:n≤199) (c:Conf) (k:Nat):Rp n i (nxR r c k):=by
 have h0:=h.last0 (by omega)
 have h1:=h.lastB (by omega)
 exact ⟨⟨h.rgt.hard,h.rgt.id,h.rgt.com,h.rgt.role,h.rgt.lead,h.rgt.wait,h.rgt.quiet,h.rgt.round,h.rgt.votes,zoe h.rgt.next (by omega) k,h.rgt.mtch,h.rgt.silent,h.rgt.reads,h.rgt.own⟩,h.id,h.led,h.log,h.base,h.snap⟩
theorem prop_rp {n:Nat}{i:Int}{r:Rft} (h:Rp n i r) (hn:n≤199) {c:VCall} (he:propE r c=0):Rp (n+1) i (addR r (ec r c)):=by
 unfold propE at he
 split at he
 ·rename_i hl
  split at he
  ·rename_i hc
   refine add_rp h hn ?_ rfl (h.led (by have:=zgo hl;omega))
   unfold zds
   rw [if_neg (show ¬ (1:Int)=0 by decide),if_pos rfl]
   rw [show (ec r c).call=c from rfl,decide_eq_true hc]
   exact cz_zero
  ·rename_i hc;exact absurd he hc
 ·exact absurd he (by decide)
theorem chg_rp {n:Nat}{i:Int}{r:Rft} (h:Rp n i r) (hn:n≤199) {c:Conf} (he:chgE r c=0):Rp (n+1) i (addR (nxR r c 7) (ecf r c)):=by
 unfold chgE at he
 split at he
 ·rename_i hl
  split at he
  ·split at he
   ·rename_i hnr
    have hc:confB c=true:=by
     have:=hnr.1
     unfold nearR at this
     rw [Bool.and_eq_true,Bool.and_eq_true] at this
     exact this.2.1
    refine add_rp (nx_rp h hn c 7) hn ?_ rfl (h.led (by have:=zgo hl;omega))
    unfold zds
    rw [if_neg (show ¬ (2:Int)=0 by decide),if_neg (show ¬ (2:Int)=1 by decide),if_pos rfl]
    rw [show (ecf r c).conf=c from rfl,hc]
    rfl
   ·exact absurd he (by decide)
  ·exact absurd he (by decide)
 ·exact absurd he (by decide)
theorem ask_rp {n:Nat}{i:Int}{r:Rft} (h:Rp n i r) {c:VCall} (he:askE r c=0):Rp (n+1) i (askR r c):=by
 have hR:=h.rgt.round
 have hc:=h.rgt.com
 have hb:=(za9 h.rgt.hard).1.b
 obtain ⟨q1,q2,q3⟩:=zh0 h.rgt.reads
 unfold askE at he
 split at he
 ·rename_i hl
  have hro:=zgo hl
  split at he
  ·split at he
   ·rename_i hcr
    split at he
    ·rename_i h4
     refine Rp.mono (n:=n) ⟨⟨h.rgt.hard,h.rgt.id,h.rgt.com,h.rgt.role,h.rgt.lead,h.rgt.wait,h.rgt.quiet,h.rgt.round,h.rgt.votes,h.rgt.next,h.rgt.mtch,h.rgt.silent,zmf ?_ (fun _=>hro) fun y hy=>?_,h.rgt.own⟩,h.id,h.led,h.log,h.base,h.snap⟩ (Nat.le_succ n)
     ·show (r.reads++[qR r c]).length≤4
      rw [List.length_append]
      show r.reads.length+1≤4
      omega
     ·rcases List.mem_append.1 hy with hy | hy
      ·exact q3 y hy
      ·rw [List.mem_singleton.1 hy]
       unfold rdB
       rw [show (qR r c).call=c from rfl,decide_eq_true hcr]
       simp only [Bool.true_and,Bool.and_eq_true]
       exact ⟨zaf (by show 0≤r.commit∧r.commit≤r.commit;omega),zaf (zii (by omega)),zaf (zgt h.rgt.id)⟩
    ·exact absurd he (by decide)
   ·rename_i hcr;exact absurd he hcr
  ·exact absurd he (by decide)
 ·exact absurd he (by decide)
theorem zxi {n:Nat}{i:Int}{r:Rft} (h:Rp n i r):Rp (n+1) i (readyR r):=by
 obtain ⟨q1,q2,q3⟩:=zh0 h.rgt.reads
 have hfl:(r.reads.filter fun x=>!rdy (zac r) r.commit x).length≤r.reads.length:=List.length_filter_le ..
 exact Rp.mono (n:=n) ⟨⟨h.rgt.hard,h.rgt.id,h.rgt.com,h.rgt.role,h.rgt.lead,h.rgt.wait,h.rgt.quiet,h.rgt.round,h.rgt.votes,h.rgt.next,h.rgt.mtch,h.rgt.silent,zmf (by show (r.reads.filter _).length≤4;omega) (fun e=>q2 (by have e:0 < (r.reads.filter fun x=>!rdy (zac r) r.commit x).length:=e;omega)) fun y hy=>q3 y (List.mem_filter.1 hy).1,h.rgt.own⟩,h.id,h.led,h.log,h.base,h.snap⟩ (Nat.le_succ n)
theorem zy4 {h:Hrd}{i:Int}{s:List Int} (hl:h.log.length≤4294967) (e:compE h i s=0):∃ q:Nat,1≤q∧q≤h.log.length∧i=h.base+q∧compH h i s=cutH h q (fwd h (lastI h) q).1 s:=by
 obtain ⟨hB,h1,h2⟩:=znf e
 have hla:=zdr hB (by omega)
 obtain ⟨q,hq⟩:∃ q:Nat,i=h.base+q:=⟨(i - h.base).toNat,by omega⟩
 refine ⟨q,by omega,by omega,hq,?_⟩
 have hA:=za9 hB
 have hb:=hA.1.b
 have hf:force h i=fwd h (lastI h) q:=by rw [hq];exact zzc ⟨hb.1,by omega⟩ (by omega) (by omega) (by omega)
 unfold compH cutH
 rw [hf,zd1 hq (by omega),show (i - h.base).toNat=q by omega,hq]
theorem comp_rp {n:Nat}{i:Int}{r:Rft} (h:Rp n i r) (hn:n≤199) {k:Int} (he:compE r.hard r.commit (byteL k)=0):Rp (n+1) i (compR r k):=by
 have hlg:=h.log
 obtain ⟨q,h1,hq,hi,e⟩:=zy4 (by omega) he
 obtain ⟨hB,hc,hs⟩:=znf he
 obtain ⟨hA,hC,_,hR⟩:=za9 hB
 have hb:=hA.b
 have hla:=h.last (by omega)
 have hbn:=h.base
 have hg:=h.rgt
 have hh:hardB (compH r.hard r.commit (byteL k))=true:=by
  rw [e]
  exact zp5 hB h1 hq (by omega) (zmj hC hR _ _ hq) (by show 1≤16384;decide)
 have hlast:lastI (compH r.hard r.commit (byteL k))=lastI r.hard:=by
  rw [e];exact zvi hb.1 (by omega) hq _ _
 have hbase:(compH r.hard r.commit (byteL k)).base=r.commit:=rfl
 have hlen:(compH r.hard r.commit (byteL k)).log.length≤r.hard.log.length:=by
  show (r.hard.log.drop _).length≤_
  rw [List.length_drop];omega
 exact ⟨⟨hh,hg.id,⟨Int.le_refl _,by show r.commit≤lastI (compH r.hard r.commit (byteL k));rw [hlast];exact hg.com.2⟩,hg.role,hg.lead,hg.wait,hg.quiet,hg.round,hg.votes,hg.next,fun j hj=>by
  have:=hg.mtch j hj
  show 0≤r.mtch.at j∧r.mtch.at j≤lastI (compH r.hard r.commit (byteL k))
  rw [hlast];exact this,hg.silent,hg.reads,hg.own⟩,h.id,h.led,by show (compH r.hard r.commit (byteL k)).log.length≤_;omega,by show r.commit≤_;omega,by show 1≤1;decide⟩
theorem act_rp {n:Nat}{i:Int}{r:Rft} (h:Rp n i r) (hn:n≤199) {a:Act}{c:Conf}{kd:Int}{R:Rft} (hE:ActE r a c kd R):Rp (n+1) i R:=by
 rcases hE with hE | ⟨_,rfl⟩
 ·cases hE with
  | prop he=>exact prop_rp h hn he
  | chg he=>exact chg_rp h hn he
  | ask he=>exact ask_rp h he
  | ready=>exact zxi h
  | comp he=>exact comp_rp h hn he
 ·exact h.mono (Nat.le_succ n)
theorem new_rp {n:Nat}{i:Int}{h:Hrd} (hh:hardB h=true) (hi:0≤i∧i < 7) (hl:h.log.length≤8 * n) (hn:n≤199) (hb:h.base≤2000 * (n:Int)) (hs:h.snap.length≤1):Rp n i (newR i h):=by
 have hA:=(za9 hh).1
 have hB:=hA.b
 have hla:=zdr hh (by omega)
 have hd:=zdo (zac (rNew0 i h)) hi
 have hz:∀ j,j < 7→0≤zA.at j∧zA.at j≤1099511627776:=zib (by decide)
 exact ⟨⟨hh,hi,⟨Int.le_refl _,by show h.base≤lastI h;omega⟩,by show (0:Int)≤0∧(0:Int)≤3;decide,by show (-1:Int)≤-1∧(-1:Int) < 7;decide,⟨hd.1,Int.le_trans hd.2 (by decide)⟩,by show (0:Int)≤0∧(0:Int)≤1099511627776;decide,by show (0:Int)≤0∧(0:Int)≤1099511627776;decide,by show (0:Int)≤0∧(0:Int)≤127;decide,hz,zib (by show 0≤lastI h;omega),hz,zhu rfl,fun e=>absurd e (by show ¬ (0:Int)=3;decide)⟩,rfl,fun e=>absurd e (by show ¬ (2:Int)≤0;decide),hl,hb,hs⟩
structure Ply (n:Nat) (s:Svn) (ms:List My):Prop where
 rp:∀ k:Nat,k < 7→Rp n k (s.at k)
 my:∀ y ∈ ms,MyOk n y
 len:ms.length≤100
theorem Ply.mono {n k:Nat}{s:Svn}{ms:List My} (h:Ply n s ms) (hk:n≤k):Ply k s ms:=⟨fun i hi=>(h.rp i hi).mono hk,fun y hy=>(h.my y hy).mono hk,h.len⟩
theorem Ply.put {n:Nat}{s:Svn}{ms:List My} (h:Ply n s ms) {k:Nat} (hk:k < 7) {R:Rft} (hR:Rp n k R):Ply n (s.put k R) ms:=by
 refine ⟨fun i hi=>?_,h.my,h.len⟩
 rw [Svn.put_at s R hk hi]
 split
 ·rename_i e;rw [e];exact hR
 ·exact h.rp i hi
def capY (ms ys:List My):List My:=ms++ys.take (100 - ms.length)
theorem zln (ms ys:List My):capM (ms.map My.enc) (ys.map My.enc)=(capY ms ys).map My.enc:=by
 unfold capM capY
 rw [List.map_append,List.map_take,List.length_map]
theorem Ply.cap {n:Nat}{s:Svn}{ms ys:List My} (h:Ply n s ms) (hy:∀ y ∈ ys,MyOk n y):Ply n s (capY ms ys):=by
 refine ⟨h.rp,fun y hm=>?_,?_⟩
 ·rcases List.mem_append.1 hm with hm | hm
  ·exact h.my y hm
  ·exact hy y (List.mem_of_mem_take hm)
 ·have:=h.len
  unfold capY
  rw [List.length_append,List.length_take];omega
theorem Ply.drop {n:Nat}{s:Svn}{ms:List My} (h:Ply n s ms) (j:Nat):Ply n s (ms.eraseIdx j):=by
 refine ⟨h.rp,fun y hm=>h.my y (List.mem_of_mem_eraseIdx hm),?_⟩
 have:=h.len
 rw [List.length_eraseIdx]
 split<;>omega
theorem Rp.small {n:Nat}{i:Int}{r:Rft} (h:Rp n i r) (hn:n≤200):r.small :=
 (h.rgt.fit (by have:=h.log;omega)).small
inductive DoC (s:Svn) (ms:List My) (a:Act) (s':Svn) (ms':List My):Prop where
 | same (e:ms'=ms) (h:CtrE Tryz.prog 11 [.pt 1000000 0,.ag a.enc,bv true] [(1000000,someI s (ms.map My.enc))] (someO (ms.map My.enc)) (bv true) [(1000000,someI s' (ms'.map My.enc))] (someO (ms'.map My.enc)))
 | lost (h:CtrE Tryz.prog 11 [.pt 1000000 0,.ag a.enc,bv true] [(1000000,someI s (ms.map My.enc))] (someO (ms.map My.enc)) (bv true) [(1000000,someV s' (.ow 1 0 (ms'.map My.enc).length))] [(1000000,none),(1,some (false,16,ms'.map My.enc))])
 | kept (h:CtrE Tryz.prog 11 [.pt 1000000 0,.ag a.enc,bv true] [(1000000,someI s (ms.map My.enc))] (someO (ms.map My.enc)) (bv true) [(1000000,someV s' (.ow 1 0 (ms'.map My.enc).length))] [(1000000,some (false,16,ms.map My.enc)),(1,some (false,16,ms'.map My.enc))])
inductive Step (n:Nat) (s:Svn) (ms:List My) (a:Act):Svn→List My→Prop where
 | none:Step n s ms a s ms
 | tick (k:Nat) (hk:k < 7) (ys:List My) (e:tkO (s.at k)=ys.map My.enc):Step n s ms a (s.put k (tkR (s.at k))) (capY ms ys)
 | take (j:Nat) (hj:j < ms.length) (t:Nat) (ht:t < 7) (hto:(ms[j]'hj).to=(t:Int)) (hM:RightM (s.at t) (ms[j]'hj).mg) (R:Rft) (ys:List My) (hk:TK (s.at t) (ms[j]'hj).mg R (ys.map My.enc) 0):Step n s ms a (s.put t R) (capY (ms.eraseIdx j) ys)
 | lose (j:Nat):Step n s ms a s (ms.eraseIdx j)
 | double (j:Nat) (hj:j < ms.length):Step n s ms a s (capY ms [ms[j]'hj])
 | act (k:Nat) (hk:k < 7) (c:Conf) (kd:Int) (R:Rft) (h:ActE (s.at k) a c kd R) (hd:(IntKind.u64.wrap a.doo).tmod 18=kd):Step n s ms a (s.put k R) ms
 | crash (k:Nat) (hk:k < 7):Step n s ms a (s.put k (newR k (s.at k).hard)) ms
theorem Rp.id' {n:Nat}{i:Int}{r:Rft} (h:Rp n i r):Rp n r.id r:=by rw [h.id];exact h
theorem stp_of {n:Nat}{i:Int}{r R:Rft}{O:List (List PV)} (h:Rp n i r) (g:Stp n r R O):Rp (n+1) i R:=by have:=g.rp;rwa [h.id] at this
def evl:PV→Nat
 | .sl _ rows=>rows.length
 | _=>0
theorem zmr {n:Nat}{z y:My} (e:z.enc=y.enc) (h:MyOk n z):MyOk n y:=by
 have e0:some (iv z.kind)=some (iv y.kind):=congrArg (fun l=>l[0]?) e
 have e2:some (iv z.to)=some (iv y.to):=congrArg (fun l=>l[2]?) e
 have e4:some (iv z.index)=some (iv y.index):=congrArg (fun l=>l[4]?) e
 have e9:some z.bd.ev=some y.bd.ev:=congrArg (fun l=>l[9]?) e
 have e14:some z.bd.sv=some y.bd.sv:=congrArg (fun l=>l[14]?) e
 have kk:z.kind=y.kind:=by injection e0 with e0;injection e0 with e0;injection e0
 have kt:z.to=y.to:=by injection e2 with e0;injection e0 with e0;injection e0
 have ki:z.index=y.index:=by injection e4 with e0;injection e0 with e0;injection e0
 have he:∀ b:Bd,evl b.ev=b.ents.length:=fun b=>by cases b<;>first | rfl | exact List.length_map ..
 have hs:∀ b:Bd,evl b.sv=b.snp.length:=fun b=>by cases b<;>first | rfl | exact List.length_map ..
 have le:z.bd.ents.length=y.bd.ents.length:=by rw [← he,← he,Option.some.inj e9]
 have ls:z.bd.snp.length=y.bd.snp.length:=by rw [← hs,← hs,Option.some.inj e14]
 exact ⟨by rw [← le];exact h.es,by rw [← ls];exact h.sn,by rw [← kk,← ki];exact h.ix,by rw [← kt];exact h.tor⟩
theorem zme {n:Nat}{s:Svn}{ms:List My}{a:Act}{s':Svn}{ms':List My} (h:Ply n s ms) (hn:n≤199) (st:Step n s ms a s' ms'):Ply (n+1) s' ms':=by
 cases st with
 | none=>exact h.mono (Nat.le_succ n)
 | tick k hk ys e =>
  have g:=zxg (h.rp k hk).id' hn
  obtain ⟨L,e2,hL,_⟩:=g.rows
  refine ((h.mono (Nat.le_succ n)).put hk (stp_of (h.rp k hk) g)).cap fun y hy=>?_
  have:y.enc ∈ L.map My.enc:=by rw [← e2,e];exact List.mem_map.2 ⟨y,hy,rfl⟩
  obtain ⟨z,hz,hze⟩:=List.mem_map.1 this
  exact zmr hze (hL z hz).ok
 | take j hj t ht hto hM R ys hk =>
  have hy:=h.my _ (List.getElem_mem hj)
  have g:=zll (h.rp t ht).id' hn hM hy.sn hy.ix hk rfl
  obtain ⟨L,e2,hL,_⟩:=g.rows
  refine (((h.mono (Nat.le_succ n)).drop j).put ht (stp_of (h.rp t ht) g)).cap fun y hy=>?_
  have:y.enc ∈ L.map My.enc:=by rw [← e2];exact List.mem_map.2 ⟨y,hy,rfl⟩
  obtain ⟨z,hz,hze⟩:=List.mem_map.1 this
  exact zmr hze (hL z hz).ok
 | lose j=>exact (h.mono (Nat.le_succ n)).drop j
 | double j hj =>
  refine (h.mono (Nat.le_succ n)).cap fun y hy=>?_
  rw [List.mem_singleton.1 hy]
  exact (h.my _ (List.getElem_mem hj)).mono (Nat.le_succ n)
 | act k hk c kd R hE _=>exact (h.mono (Nat.le_succ n)).put hk (act_rp (h.rp k hk) hn hE)
 | crash k hk =>
  have hr:=h.rp k hk
  exact (h.mono (Nat.le_succ n)).put hk ((new_rp hr.rgt.hard (by omega) hr.log hn hr.base hr.snap).mono (Nat.le_succ n))
end Go.Proofs
