import Derived.Test.YtbhfokahocgndabGreatU5
import Derived.Test.YtbhfokahocgndabGreatR3
import Derived.Test.YtbhfokahocgndabGreatY2
import Derived.Test.YtbhfokahocgndabGreatH8
/- Plain law: an act of a play keeps its replicas right. -/
set_option linter.unusedSimpArgs false
set_option linter.unusedVariables false
namespace Go.Proofs
open Go.Pv
set_option maxRecDepth 100000
theorem zer {r:Rft} (h:zcb r=0):r.role=3:=by
 unfold zcb at h
 split at h
 ·assumption
 ·exact absurd h (by decide)
theorem cz_zero:(decide ((cz:Conf)=cz))=true:=by decide
theorem add_rp {n:Nat}{i:Int}{r:Rft} (h:Rp n i r) (hn:n≤199) {x:Ent} (hx:zd5 x=true) (ht:x.term=r.hard.term) (h1:1≤r.hard.term):Rp (n+1) i (addR r x) :=
 ⟨zqi h.rgt (by have:=h.log;omega) hx ht h1,h.id,h.led,by show (r.hard.log++[x]).length≤_;rw [List.length_append];have:=h.log;show r.hard.log.length+1≤_;omega,by have:=h.base;show r.hard.base≤_;omega,h.snap⟩
theorem zsd {f:Nat→Bool}{v:Int}{a:Arr}{g:Int} (h:∀ i,i < 7→0≤a.at i∧a.at i≤g) (hv:0≤v∧v≤g):∀ k,∀ i,i < 7→0≤(nxt f v a k).at i∧(nxt f v a k).at i≤g
 | 0=>h
 | k+1=>by
  unfold nxt
  split
  ·exact zlj (zsd h hv k) hv
  ·exact zsd h hv k
theorem Rp.last0 {n:Nat}{i:Int}{r:Rft} (h:Rp n i r) (hn:n≤200):0≤lastI r.hard:=by
 rw [h.last hn]
 have:=(zaq h.rgt.hard).1.b
 omega
theorem nx_rp {n:Nat}{i:Int}{r:Rft} (h:Rp n i r) (hn:n≤199) (c:Conf) (k:Nat):Rp n i (nxR r c k):=by
 have h0:=h.last0 (by omega)
 have h1:=h.lastB (by omega)
 exact ⟨⟨h.rgt.hard,h.rgt.id,h.rgt.com,h.rgt.role,h.rgt.lead,h.rgt.wait,h.rgt.quiet,h.rgt.round,h.rgt.votes,zsd h.rgt.next (by omega) k,h.rgt.mtch,h.rgt.silent,h.rgt.reads,h.rgt.own⟩,h.id,h.led,h.log,h.base,h.snap⟩
theorem prop_rp {n:Nat}{i:Int}{r:Rft} (h:Rp n i r) (hn:n≤199) {c:VCall} (he:propE r c=0):Rp (n+1) i (addR r (ec r c)):=by
 unfold propE at he
 split at he
 ·rename_i hl
  split at he
  ·rename_i hc
   refine add_rp h hn ?_ rfl (h.led (by have:=zer hl;omega))
   unfold zd5
   rw [if_neg (show ¬ (1:Int)=0 by decide),if_pos rfl]
   rw [show (ec r c).call=c from rfl,decide_eq_true hc]
   exact cz_zero
  ·rename_i hc;exact absurd he hc
 ·exact absurd he (by decide)
theorem chg_rp {n:Nat}{i:Int}{r:Rft} (h:Rp n i r) (hn:n≤199) {c:Conf} (he:chgE r c=0):Rp (n+1) i (addR (nxR r c 7) (ecf r c)):=by
 unfold chgE at he
 split at he
 ·rename_i hl
  split at he
  ·split at he
   ·rename_i hnr
    have hc:confB c=true:=by
     have:=hnr.1
     unfold nearR at this
     rw [Bool.and_eq_true,Bool.and_eq_true] at this
     exact this.2.1
    refine add_rp (nx_rp h hn c 7) hn ?_ rfl (h.led (by have:=zer hl;omega))
    unfold zd5
    rw [if_neg (show ¬ (2:Int)=0 by decide),if_neg (show ¬ (2:Int)=1 by decide),if_pos rfl]
    rw [show (ecf r c).conf=c from rfl,hc]
    rfl
   ·exact absurd he (by decide)
  ·exact absurd he (by decide)
 ·exact absurd he (by decide)
theorem ask_rp {n:Nat}{i:Int}{r:Rft} (h:Rp n i r) {c:VCall} (he:askE r c=0):Rp (n+1) i (askR r c):=by
 have hR:=h.rgt.round
 have hc:=h.rgt.com
 have hb:=(zaq h.rgt.hard).1.b
 obtain ⟨q1,q2,q3⟩:=zm3 h.rgt.reads
 unfold askE at he
 split at he
 ·rename_i hl
  have hro:=zer hl
  split at he
  ·split at he
   ·rename_i hcr
    split at he
    ·rename_i h4
     refine Rp.mono (n:=n) ⟨⟨h.rgt.hard,h.rgt.id,h.rgt.com,h.rgt.role,h.rgt.lead,h.rgt.wait,h.rgt.quiet,h.rgt.round,h.rgt.votes,h.rgt.next,h.rgt.mtch,h.rgt.silent,zn6 ?_ (fun _=>hro) fun y hy=>?_,h.rgt.own⟩,h.id,h.led,h.log,h.base,h.snap⟩ (Nat.le_succ n)
     ·show (r.reads++[qR r c]).length≤4
      rw [List.length_append]
      show r.reads.length+1≤4
      omega
     ·rcases List.mem_append.1 hy with hy | hy
      ·exact q3 y hy
      ·rw [List.mem_singleton.1 hy]
       unfold rdB
       rw [show (qR r c).call=c from rfl,decide_eq_true hcr]
       simp only [Bool.true_and,Bool.and_eq_true]
       exact ⟨zac (by show 0≤r.commit∧r.commit≤r.commit;omega),zac (zj2 (by omega)),zac (zih h.rgt.id)⟩
    ·exact absurd he (by decide)
   ·rename_i hcr;exact absurd he hcr
  ·exact absurd he (by decide)
 ·exact absurd he (by decide)
theorem z2w {n:Nat}{i:Int}{r:Rft} (h:Rp n i r):Rp (n+1) i (zo9 r):=by
 obtain ⟨q1,q2,q3⟩:=zm3 h.rgt.reads
 have hfl:(r.reads.filter fun x=>!rdy (zab r) r.commit x).length≤r.reads.length:=List.length_filter_le ..
 exact Rp.mono (n:=n) ⟨⟨h.rgt.hard,h.rgt.id,h.rgt.com,h.rgt.role,h.rgt.lead,h.rgt.wait,h.rgt.quiet,h.rgt.round,h.rgt.votes,h.rgt.next,h.rgt.mtch,h.rgt.silent,zn6 (by show (r.reads.filter _).length≤4;omega) (fun e=>q2 (by have e:0 < (r.reads.filter fun x=>!rdy (zab r) r.commit x).length:=e;omega)) fun y hy=>q3 y (List.mem_filter.1 hy).1,h.rgt.own⟩,h.id,h.led,h.log,h.base,h.snap⟩ (Nat.le_succ n)
theorem zu2 {h:Hrd}{i:Int}{s:List Int} (hl:h.log.length≤4294967) (e:compE h i s=0):∃ q:Nat,1≤q∧q≤h.log.length∧i=h.base+q∧compH h i s=cutH h q (fwd h (lastI h) q).1 s:=by
 obtain ⟨hB,h1,h2⟩:=zpp e
 have hla:=zd9 hB (by omega)
 obtain ⟨q,hq⟩:∃ q:Nat,i=h.base+q:=⟨(i - h.base).toNat,by omega⟩
 refine ⟨q,by omega,by omega,hq,?_⟩
 have hA:=zaq hB
 have hb:=hA.1.b
 have hf:force h i=fwd h (lastI h) q:=by rw [hq];exact z17 ⟨hb.1,by omega⟩ (by omega) (by omega) (by omega)
 unfold compH cutH
 rw [hf,zdy hq (by omega),show (i - h.base).toNat=q by omega,hq]
theorem comp_rp {n:Nat}{i:Int}{r:Rft} (h:Rp n i r) (hn:n≤199) {k:Int} (he:compE r.hard r.commit (byteL k)=0):Rp (n+1) i (compR r k):=by
 have hlg:=h.log
 obtain ⟨q,h1,hq,hi,e⟩:=zu2 (by omega) he
 obtain ⟨hB,hc,hs⟩:=zpp he
 obtain ⟨hA,hC,_,hR⟩:=zaq hB
 have hb:=hA.b
 have hla:=h.last (by omega)
 have hbn:=h.base
 have hg:=h.rgt
 have hh:hardB (compH r.hard r.commit (byteL k))=true:=by
  rw [e]
  exact zs4 hB h1 hq (by omega) (zox hC hR _ _ hq) (by show 1≤16384;decide)
 have hlast:lastI (compH r.hard r.commit (byteL k))=lastI r.hard:=by
  rw [e];exact zz1 hb.1 (by omega) hq _ _
 have hbase:(compH r.hard r.commit (byteL k)).base=r.commit:=rfl
 have hlen:(compH r.hard r.commit (byteL k)).log.length≤r.hard.log.length:=by
  show (r.hard.log.drop _).length≤_
  rw [List.length_drop];omega
 exact ⟨⟨hh,hg.id,⟨Int.le_refl _,by show r.commit≤lastI (compH r.hard r.commit (byteL k));rw [hlast];exact hg.com.2⟩,hg.role,hg.lead,hg.wait,hg.quiet,hg.round,hg.votes,hg.next,fun j hj=>by
  have:=hg.mtch j hj
  show 0≤r.mtch.at j∧r.mtch.at j≤lastI (compH r.hard r.commit (byteL k))
  rw [hlast];exact this,hg.silent,hg.reads,hg.own⟩,h.id,h.led,by show (compH r.hard r.commit (byteL k)).log.length≤_;omega,by show r.commit≤_;omega,by show 1≤1;decide⟩
theorem act_rp {n:Nat}{i:Int}{r:Rft} (h:Rp n i r) (hn:n≤199) {a:Act}{c:Conf}{kd:Int}{R:Rft} (hE:ActE r a c kd R):Rp (n+1) i R:=by
 rcases hE with hE | ⟨_,rfl⟩
 ·cases hE with
  | prop he=>exact prop_rp h hn he
  | chg he=>exact chg_rp h hn he
  | ask he=>exact ask_rp h he
  | ready=>exact z2w h
  | comp he=>exact comp_rp h hn he
 ·exact h.mono (Nat.le_succ n)
theorem new_rp {n:Nat}{i:Int}{h:Hrd} (hh:hardB h=true) (hi:0≤i∧i < 7) (hl:h.log.length≤8 * n) (hn:n≤199) (hb:h.base≤2000 * (n:Int)) (hs:h.snap.length≤1):Rp n i (newR i h):=by
 have hA:=(zaq hh).1
 have hB:=hA.b
 have hla:=zd9 hh (by omega)
 have hd:=zd6 (zab (rNew0 i h)) hi
 have hz:∀ j,j < 7→0≤zA.at j∧zA.at j≤1099511627776:=zjw (by decide)
 exact ⟨⟨hh,hi,⟨Int.le_refl _,by show h.base≤lastI h;omega⟩,by show (0:Int)≤0∧(0:Int)≤3;decide,by show (-1:Int)≤-1∧(-1:Int) < 7;decide,⟨hd.1,Int.le_trans hd.2 (by decide)⟩,by show (0:Int)≤0∧(0:Int)≤1099511627776;decide,by show (0:Int)≤0∧(0:Int)≤1099511627776;decide,by show (0:Int)≤0∧(0:Int)≤127;decide,hz,zjw (by show 0≤lastI h;omega),hz,zi1 rfl,fun e=>absurd e (by show ¬ (0:Int)=3;decide)⟩,rfl,fun e=>absurd e (by show ¬ (2:Int)≤0;decide),hl,hb,hs⟩
structure Ply (n:Nat) (s:Svn) (ms:List My):Prop where
 rp:∀ k:Nat,k < 7→Rp n k (s.at k)
 my:∀ y ∈ ms,MyOk n y
 len:ms.length≤100
theorem Ply.mono {n k:Nat}{s:Svn}{ms:List My} (h:Ply n s ms) (hk:n≤k):Ply k s ms:=⟨fun i hi=>(h.rp i hi).mono hk,fun y hy=>(h.my y hy).mono hk,h.len⟩
theorem Ply.put {n:Nat}{s:Svn}{ms:List My} (h:Ply n s ms) {k:Nat} (hk:k < 7) {R:Rft} (hR:Rp n k R):Ply n (s.put k R) ms:=by
 refine ⟨fun i hi=>?_,h.my,h.len⟩
 rw [Svn.put_at s R hk hi]
 split
 ·rename_i e;rw [e];exact hR
 ·exact h.rp i hi
def capY (ms ys:List My):List My:=ms++ys.take (100 - ms.length)
theorem znx (ms ys:List My):capM (ms.map My.enc) (ys.map My.enc)=(capY ms ys).map My.enc:=by
 unfold capM capY
 rw [List.map_append,List.map_take,List.length_map]
theorem Ply.cap {n:Nat}{s:Svn}{ms ys:List My} (h:Ply n s ms) (hy:∀ y ∈ ys,MyOk n y):Ply n s (capY ms ys):=by
 refine ⟨h.rp,fun y hm=>?_,?_⟩
 ·rcases List.mem_append.1 hm with hm | hm
  ·exact h.my y hm
  ·exact hy y (List.mem_of_mem_take hm)
 ·have:=h.len
  unfold capY
  rw [List.length_append,List.length_take];omega
theorem Ply.drop {n:Nat}{s:Svn}{ms:List My} (h:Ply n s ms) (j:Nat):Ply n s (ms.eraseIdx j):=by
 refine ⟨h.rp,fun y hm=>h.my y (List.mem_of_mem_eraseIdx hm),?_⟩
 have:=h.len
 rw [List.length_eraseIdx]
 split<;>omega
theorem Rp.small {n:Nat}{i:Int}{r:Rft} (h:Rp n i r) (hn:n≤200):r.small :=
 (h.rgt.fit (by have:=h.log;omega)).small
inductive DoC (s:Svn) (ms:List My) (a:Act) (s':Svn) (ms':List My):Prop where
 | same (e:ms'=ms) (h:CtrE Tryz.prog 11 [.pt 9990 0,.ag a.enc,bv true] [(9990,someI s (ms.map My.enc))] (someO (ms.map My.enc)) (bv true) [(9990,someI s' (ms'.map My.enc))] (someO (ms'.map My.enc)))
 | lost (h:CtrE Tryz.prog 11 [.pt 9990 0,.ag a.enc,bv true] [(9990,someI s (ms.map My.enc))] (someO (ms.map My.enc)) (bv true) [(9990,someV s' (.ow 1 0 (ms'.map My.enc).length))] [(9990,none),(1,some (false,16,ms'.map My.enc))])
 | kept (h:CtrE Tryz.prog 11 [.pt 9990 0,.ag a.enc,bv true] [(9990,someI s (ms.map My.enc))] (someO (ms.map My.enc)) (bv true) [(9990,someV s' (.ow 1 0 (ms'.map My.enc).length))] [(9990,some (false,16,ms.map My.enc)),(1,some (false,16,ms'.map My.enc))])
inductive Step (n:Nat) (s:Svn) (ms:List My) (a:Act):Svn→List My→Prop where
 | none:Step n s ms a s ms
 | tick (k:Nat) (hk:k < 7) (ys:List My) (e:tkO (s.at k)=ys.map My.enc):Step n s ms a (s.put k (tkR (s.at k))) (capY ms ys)
 | take (j:Nat) (hj:j < ms.length) (t:Nat) (ht:t < 7) (hto:(ms[j]'hj).to=(t:Int)) (hM:RightM (s.at t) (ms[j]'hj).mg) (R:Rft) (ys:List My) (hk:TK (s.at t) (ms[j]'hj).mg R (ys.map My.enc) 0):Step n s ms a (s.put t R) (capY (ms.eraseIdx j) ys)
 | lose (j:Nat):Step n s ms a s (ms.eraseIdx j)
 | double (j:Nat) (hj:j < ms.length):Step n s ms a s (capY ms [ms[j]'hj])
 | act (k:Nat) (hk:k < 7) (c:Conf) (kd:Int) (R:Rft) (h:ActE (s.at k) a c kd R) (hd:(IntKind.u64.wrap a.doo).tmod 18=kd):Step n s ms a (s.put k R) ms
 | crash (k:Nat) (hk:k < 7):Step n s ms a (s.put k (newR k (s.at k).hard)) ms
theorem Rp.id' {n:Nat}{i:Int}{r:Rft} (h:Rp n i r):Rp n r.id r:=by rw [h.id];exact h
theorem stp_of {n:Nat}{i:Int}{r R:Rft}{O:List (List PV)} (h:Rp n i r) (g:Stp n r R O):Rp (n+1) i R:=by have:=g.rp;rwa [h.id] at this
def evl:PV→Nat
 | .sl _ rows=>rows.length
 | _=>0
theorem zqc {n:Nat}{z y:My} (e:z.enc=y.enc) (h:MyOk n z):MyOk n y:=by
 have e0:some (iv z.kind)=some (iv y.kind):=congrArg (fun l=>l[0]?) e
 have e2:some (iv z.to)=some (iv y.to):=congrArg (fun l=>l[2]?) e
 have e4:some (iv z.index)=some (iv y.index):=congrArg (fun l=>l[4]?) e
 have e9:some z.bd.ev=some y.bd.ev:=congrArg (fun l=>l[9]?) e
 have e14:some z.bd.sv=some y.bd.sv:=congrArg (fun l=>l[14]?) e
 have kk:z.kind=y.kind:=by injection e0 with e0;injection e0 with e0;injection e0
 have kt:z.to=y.to:=by injection e2 with e0;injection e0 with e0;injection e0
 have ki:z.index=y.index:=by injection e4 with e0;injection e0 with e0;injection e0
 have he:∀ b:Bd,evl b.ev=b.ents.length:=fun b=>by cases b<;>first | rfl | exact List.length_map ..
 have hs:∀ b:Bd,evl b.sv=b.snp.length:=fun b=>by cases b<;>first | rfl | exact List.length_map ..
 have le:z.bd.ents.length=y.bd.ents.length:=by rw [← he,← he,Option.some.inj e9]
 have ls:z.bd.snp.length=y.bd.snp.length:=by rw [← hs,← hs,Option.some.inj e14]
 exact ⟨by rw [← le];exact h.es,by rw [← ls];exact h.sn,by rw [← kk,← ki];exact h.ix,by rw [← kt];exact h.tor⟩
theorem z11 {n:Nat}{s:Svn}{ms:List My}{a:Act}{s':Svn}{ms':List My} (h:Ply n s ms) (hn:n≤199) (st:Step n s ms a s' ms'):Ply (n+1) s' ms':=by
 cases st with
 | none=>exact h.mono (Nat.le_succ n)
 | tick k hk ys e =>
  have g:=tk_stp (h.rp k hk).id' hn
  obtain ⟨L,e2,hL,_⟩:=g.rows
  refine ((h.mono (Nat.le_succ n)).put hk (stp_of (h.rp k hk) g)).cap fun y hy=>?_
  have:y.enc ∈ L.map My.enc:=by rw [← e2,e];exact List.mem_map.2 ⟨y,hy,rfl⟩
  obtain ⟨z,hz,hze⟩:=List.mem_map.1 this
  exact zqc hze (hL z hz).ok
 | take j hj t ht hto hM R ys hk =>
  have hy:=h.my _ (List.getElem_mem hj)
  have g:=zu3 (h.rp t ht).id' hn hM hy.sn hy.ix hk rfl
  obtain ⟨L,e2,hL,_⟩:=g.rows
  refine (((h.mono (Nat.le_succ n)).drop j).put ht (stp_of (h.rp t ht) g)).cap fun y hy=>?_
  have:y.enc ∈ L.map My.enc:=by rw [← e2];exact List.mem_map.2 ⟨y,hy,rfl⟩
  obtain ⟨z,hz,hze⟩:=List.mem_map.1 this
  exact zqc hze (hL z hz).ok
 | lose j=>exact (h.mono (Nat.le_succ n)).drop j
 | double j hj =>
  refine (h.mono (Nat.le_succ n)).cap fun y hy=>?_
  rw [List.mem_singleton.1 hy]
  exact (h.my _ (List.getElem_mem hj)).mono (Nat.le_succ n)
 | act k hk c kd R hE _=>exact (h.mono (Nat.le_succ n)).put hk (act_rp (h.rp k hk) hn hE)
 | crash k hk =>
  have hr:=h.rp k hk
  exact (h.mono (Nat.le_succ n)).put hk ((new_rp hr.rgt.hard (by omega) hr.log hn hr.base hr.snap).mono (Nat.le_succ n))
structure HG (c0:Conf) (h:Hrd) (b:Nat) (G:List Ent):Prop where
 base:h.base=b
 le:b≤G.length
 log:h.log=G.drop b
 bt:h.baseTerm=za1 (G.take b)
 bc:h.baseConf=cfL c0 (G.take b)
theorem HG.len {c0:Conf}{h:Hrd}{b:Nat}{G:List Ent} (k:HG c0 h b G):h.log.length=G.length - b:=by rw [k.log,List.length_drop]
theorem HG.sum {c0:Conf}{h:Hrd}{b:Nat}{G:List Ent} (k:HG c0 h b G):b+h.log.length=G.length:=by have:=k.len;have:=k.le;omega
theorem HG.last {c0:Conf}{h:Hrd}{b:Nat}{G:List Ent} (k:HG c0 h b G) (hs:G.length < 4294967):lastI h=G.length:=by
 have h1:=k.base
 have h2:=k.sum
 rw [zax (by omega) (by omega)];omega
theorem zc8 {G:List Ent}{n:Nat}{x:Ent} (h:G[n]?=some x):za1 (G.take (n+1))=x.term:=by
 have hl:=zb3 h
 refine zkz ?_
 rw [List.length_take,Nat.min_eq_left hl,show n+1 - 1=n by omega,List.getElem?_take_of_lt (by omega)]
 exact h
theorem zvs:za1 []=0:=rfl
theorem zxg {l:List Ent}{b:Int}{n:Nat}{x:Ent} (h:l[n]?=some x):behind l b (n+1)=x.term:=by
 have hl:=zb3 h
 rw [zbd hl]
 rw [List.getElem?_eq_getElem hl] at h
 rw [Option.some.inj h]
theorem HG.behind {c0:Conf}{h:Hrd}{b:Nat}{G:List Ent} (k:HG c0 h b G) {q:Nat} (hq:b+q≤G.length):behind h.log h.baseTerm q=za1 (G.take (b+q)):=by
 cases q with
 | zero=>rw [zek,k.bt];rfl
 | succ q =>
  obtain ⟨x,hx⟩:=zdj (A:=G) (i:=b+q) (by omega)
  have h1:h.log[q]?=some x:=by rw [k.log,List.getElem?_drop];exact hx
  rw [zxg h1,show b+(q+1)=b+q+1 by omega,zc8 hx]
theorem HG.term {c0:Conf}{h:Hrd}{b:Nat}{G:List Ent} (k:HG c0 h b G) {i:Int}{n:Nat} (hi:i=n) (hb:b≤n) (hn:n≤G.length):zau h i=za1 (G.take n):=by
 have h1:=k.base
 have h2:=k.sum
 rw [zdy (h:=h) (n:=n - b) (by omega) (by omega),k.behind (by omega),show b+(n - b)=n by omega]
theorem ztf (c:Conf) (l:List Ent) (x:Ent):cfL c (l++[x])=if x.kind=2 then x.conf else cfL c l:=by
 rw [zht];rfl
theorem zu7 {h:Hrd} (hb:0≤h.base∧h.base≤1099511627776) (hl:h.log.length≤4294967) {u:Int} (hu:h.base+h.log.length≤u):∀ i,i≤h.log.length→(fwd h u i).1=cfL h.baseConf (h.log.take i)∧h.base≤(fwd h u i).2∧∀ k x,k < i→h.log[k]?=some x→x.kind=2→h.base+k+1≤(fwd h u i).2
 | 0,_=>⟨rfl,Int.le_refl _,fun k _ hk=>absurd hk (Nat.not_lt_zero k)⟩
 | i+1,hi=>by
  obtain ⟨h1,h2,h3⟩:=zu7 hb hl hu i (by omega)
  have hlt:i < h.log.length:=by omega
  have hix:idx h i=h.base+i+1:=by
   show w64 (w64 (h.base+i)+1)=_
   rw [show w64 (h.base+i)=h.base+i from zaf (by omega) (by omega)]
   exact zaf (by omega) (by omega)
  have ht:h.log.take (i+1)=h.log.take i++[h.log[i]'hlt]:=List.take_succ_eq_append_getElem hlt
  by_cases hk:(h.log[i]'hlt).kind=2
  ·rw [zr2 hlt (by rw [hix];omega) hk,ht,ztf,if_pos hk,hix]
   refine ⟨rfl,by show h.base≤h.base+i+1;omega,fun k x hk2 _ _=>by show h.base+k+1≤h.base+i+1;omega⟩
  ·rw [zh0 hlt (fun a=>hk a.2),ht,ztf,if_neg hk]
   refine ⟨h1,h2,fun k x hk2 hx hxk=>?_⟩
   by_cases e:k=i
   ·subst e
    rw [List.getElem?_eq_getElem hlt] at hx
    exact absurd (Option.some.inj hx ▸ hxk) hk
   ·exact h3 k x (by omega) hx hxk
theorem HG.conf {c0:Conf}{h:Hrd}{b:Nat}{G:List Ent} (k:HG c0 h b G) (hs:G.length < 4294967):(force h (lastI h)).1=cfL c0 G:=by
 have h1:=k.base
 have h2:=k.sum
 have:=(zu7 (h:=h) (by omega) (by omega) (u:=lastI h) (by rw [k.last hs];omega) h.log.length (Nat.le_refl _)).1
 show (fwd h (lastI h) h.log.length).1=_
 rw [this,List.take_length,k.bc,k.log,← zht,List.take_append_drop]
theorem HG.cfat {c0:Conf}{h:Hrd}{b:Nat}{G:List Ent} (k:HG c0 h b G) (hs:G.length < 4294967) {c:Nat} (hc:(force h (lastI h)).2≤c) (hbc:b≤c):∀ j x,G[j]?=some x→x.kind=2→j+1≤c:=by
 have h1:=k.base
 have h2:=k.sum
 intro j x hx hk
 by_cases hj:j < b
 ·omega
 ·have hx2:h.log[j - b]?=some x:=by rw [k.log,List.getElem?_drop,show b+(j - b)=j by omega];exact hx
  have:=(zu7 (h:=h) (by omega) (by omega) (u:=lastI h) (by rw [k.last hs];omega) h.log.length (Nat.le_refl _)).2.2 (j - b) x (zb3 hx2) hx2 hk
  have e:(force h (lastI h)).2=(fwd h (lastI h) h.log.length).2:=rfl
  omega
theorem HG.snoc {c0:Conf}{h:Hrd}{b:Nat}{G:List Ent} (k:HG c0 h b G) (x:Ent):HG c0 { h with log:=h.log++[x] } b (G++[x]) :=
 ⟨k.base,by rw [List.length_append];have:=k.le;omega,by show h.log++[x]=_;rw [List.drop_append_of_le_length k.le,k.log],by rw [List.take_append_of_le_length k.le];exact k.bt,by rw [List.take_append_of_le_length k.le];exact k.bc⟩
theorem HG.tv {c0:Conf}{h:Hrd}{b:Nat}{G:List Ent} (k:HG c0 h b G) (t v:Int):HG c0 { h with term:=t,vote:=v } b G:=⟨k.base,k.le,k.log,k.bt,k.bc⟩
theorem HG.cut {c0:Conf}{h:Hrd}{b:Nat}{G:List Ent} (k:HG c0 h b G) (hs:G.length < 4294967) {q:Nat} (hq:q≤h.log.length) (s:List Int):HG c0 (cutH h q (fwd h (lastI h) q).1 s) (b+q) G:=by
 have h1:=k.base
 have h2:=k.sum
 refine ⟨by show h.base+q=_;omega,by omega,by show h.log.drop q=_;rw [k.log,List.drop_drop],k.behind (by omega),?_⟩
 have:=(zu7 (h:=h) (by omega) (by omega) (u:=lastI h) (by rw [k.last hs];omega) q hq).1
 show (fwd h (lastI h) q).1=_
 rw [this,k.bc,k.log,← zht]
 congr 1
 rw [List.take_add]
theorem HG.lastT {c0:Conf}{h:Hrd}{b:Nat}{G:List Ent} (k:HG c0 h b G):Go.Proofs.lastT h=za1 G:=by
 unfold Go.Proofs.lastT
 by_cases hl:h.log=[]
 ·rw [hl]
  have h2:=k.sum
  rw [hl] at h2
  show h.baseTerm=_
  rw [k.bt,List.take_of_length_le (by simp at h2;omega)]
 ·obtain ⟨x,hx⟩:=zdj (A:=h.log) (i:=h.log.length - 1) (by have:=List.length_pos_iff.2 hl;omega)
  rw [List.getLast?_eq_getElem?,hx]
  have h2:=k.sum
  have hn:0 < h.log.length:=List.length_pos_iff.2 hl
  have hG:G[G.length - 1]?=some x:=by
   rw [← hx,k.log,List.getElem?_drop,List.length_drop]
   congr 1
   omega
  exact (zkz hG).symm
theorem ztb {G L : List Ent} (hm : ∀ (i : Nat) (x y : Ent), G[i]? = some x → L[i]? = some y → x.term = y.term → G.take (i + 1) = L.take (i + 1)) : ∀ (k p : Nat), G.take p = L.take p → p ≤ G.length → p + k ≤ L.length →
    (G.take (p+k)=L.take (p+k)∧G.take p++putM (G.drop p) ((L.drop p).take k)=G)∨(¬ G.take (p+k)=L.take (p+k)∧G.take p++putM (G.drop p) ((L.drop p).take k)=L.take (p+k))
 | 0,p,e,_,_=>by
  refine .inl ⟨e,?_⟩
  rw [List.take_zero]
  cases hd:G.drop p with
  | nil=>rw [show putM [] []=[] from rfl,← hd,List.take_append_drop]
  | cons a g=>rw [show putM (a :: g) []=a :: g from rfl,← hd,List.take_append_drop]
 | k+1,p,e,hp,hk=>by
  have hpL:p < L.length:=by omega
  have hL:(L.drop p).take (k+1)=L[p]'hpL :: (L.drop (p+1)).take k:=by
   rw [List.drop_eq_getElem_cons hpL,List.take_succ_cons]
  have hLt:L.take p++(L[p]'hpL :: (L.drop (p+1)).take k)=L.take (p+(k+1)):=by
   rw [← hL,List.take_add (i:=p) (j:=k+1)]
  rw [hL]
  by_cases hG:p < G.length
  ·have hGd:G.drop p=G[p]'hG :: G.drop (p+1):=List.drop_eq_getElem_cons hG
   have hGt:G.take (p+1)=G.take p++[G[p]'hG]:=List.take_succ_eq_append_getElem hG
   rw [hGd]
   by_cases ht:(G[p]'hG).term=(L[p]'hpL).term
   ·have e2:=hm p _ _ (List.getElem?_eq_getElem hG) (List.getElem?_eq_getElem hpL) ht
    rw [show putM (G[p]'hG :: G.drop (p+1)) (L[p]'hpL :: (L.drop (p+1)).take k)=G[p]'hG :: putM (G.drop (p+1)) ((L.drop (p+1)).take k) from if_pos ht]
    rw [show G.take p++(G[p]'hG :: putM (G.drop (p+1)) ((L.drop (p+1)).take k))=G.take (p+1)++putM (G.drop (p+1)) ((L.drop (p+1)).take k) by rw [hGt,List.append_assoc];rfl]
    rw [show p+(k+1)=(p+1)+k by omega]
    exact ztb hm k (p+1) e2 (by omega) (by omega)
   ·rw [show putM (G[p]'hG :: G.drop (p+1)) (L[p]'hpL :: (L.drop (p+1)).take k)=L[p]'hpL :: (L.drop (p+1)).take k from if_neg ht]
    refine .inr ⟨fun e3=>?_,by rw [e,hLt]⟩
    have:=zcf e3 (i:=p) (by omega)
    rw [List.getElem?_eq_getElem hG,List.getElem?_eq_getElem hpL] at this
    exact ht (congrArg Ent.term (Option.some.inj this))
  ·have hd:G.drop p=[]:=List.drop_eq_nil_iff.2 (by omega)
   rw [hd]
   refine .inr ⟨fun e3=>?_,by rw [show putM [] (L[p]'hpL :: (L.drop (p+1)).take k)=L[p]'hpL :: (L.drop (p+1)).take k from rfl,e,hLt]⟩
   have:=congrArg List.length e3
   rw [List.length_take,List.length_take] at this
   omega
theorem LM.match {H:Hist}{G L:List Ent} (hG:LM H G) (hL:LM H L):∀ (i:Nat) (x y:Ent),G[i]?=some x→L[i]?=some y→x.term=y.term→G.take (i+1)=L.take (i+1):=by
 intro i x y hx hy ht
 rw [hG i x hx,hL i y hy,ht]
theorem HG.put {c0:Conf}{h:Hrd}{b:Nat}{G:List Ent} (k:HG c0 h b G) {n:Nat} (hn:n≤h.log.length) (l:List Ent):HG c0 { h with log:=putG h.log n l } b (G.take (b+n)++putM (G.drop (b+n)) l):=by
 have h2:=k.sum
 have h3:=k.le
 have hb:b≤(G.take (b+n)).length:=by rw [List.length_take];omega
 have ht:(G.take (b+n)++putM (G.drop (b+n)) l).take b=G.take b:=by
  rw [List.take_append_of_le_length hb,List.take_take,Nat.min_eq_left (by omega)]
 refine ⟨k.base,by rw [List.length_append];omega,?_,by rw [ht];exact k.bt,by rw [ht];exact k.bc⟩
 show putG h.log n l=_
 unfold putG
 rw [List.drop_append_of_le_length hb,k.log,List.drop_drop,List.take_drop,List.drop_take]
theorem HG.inst {c0 : Conf} {h : Hrd} {b : Nat} {G L : List Ent} (k : HG c0 h b G) (hm : ∀ (i : Nat) (x y : Ent), G[i]? = some x → L[i]? = some y → x.term = y.term → G.take (i + 1) = L.take (i + 1)) {i : Nat} (hi : 1 ≤ i) (hiL : i ≤ L.length) (hbi : b < i) {s : List Int} (ht1 : za1 (L.take i) ≠ -1) (hs : G.length < 4294967) :
    ∃ G',HG c0 (instH h i (za1 (L.take i)) (cfL c0 (L.take i)) s) i G'∧((G.take i=L.take i∧G'=G)∨(¬ G.take i=L.take i∧G'=L.take i)):=by
 have h1:=k.base
 have h2:=k.sum
 obtain ⟨y,hy⟩:=zdj (A:=L) (i:=i - 1) (by omega)
 have hyt:za1 (L.take i)=y.term:=by have:=zc8 hy;rwa [show i - 1+1=i by omega] at this
 cases hf:fits h i (za1 (L.take i)) with
 | true =>
  have hin:=ziw ht1 hf (by omega)
  have hiG:i≤G.length:=by omega
  have ht:=hf
  unfold fits at ht
  simp only [Bool.and_eq_true,beq_iff_eq] at ht
  have ht2:=ht.2
  rw [k.term rfl (by omega) hiG] at ht2
  obtain ⟨x,hx⟩:=zdj (A:=G) (i:=i - 1) (by omega)
  have hxt:za1 (G.take i)=x.term:=by have:=zc8 hx;rwa [show i - 1+1=i by omega] at this
  have e:G.take i=L.take i:=by
   have:=hm (i - 1) x y hx hy (by omega)
   rwa [show i - 1+1=i by omega] at this
  refine ⟨G,?_,.inl ⟨e,rfl⟩⟩
  rw [zpe (q:=i - b) (by omega) (by omega) hf]
  refine ⟨by show h.base+((i - b:Nat):Int)=_;omega,hiG,by show h.log.drop (i - b)=_;rw [k.log,List.drop_drop,show b+(i - b)=i by omega],?_,by show cfL c0 (L.take i)=_;rw [e]⟩
  show Go.Proofs.behind h.log h.baseTerm (i - b)=_
  rw [k.behind (by omega),show b+(i - b)=i by omega]
 | false =>
  have hno:¬ G.take i=L.take i:=fun e=>by
   have hiG:i≤G.length:=zej e hiL
   have:fits h i (za1 (L.take i))=true:=by
    unfold fits
    rw [k.term rfl (by omega) hiG,e]
    simp only [Bool.and_eq_true,beq_self_eq_true,and_true,bne_iff_ne,ne_eq]
    exact ht1
   rw [this] at hf
   cases hf
  refine ⟨L.take i,⟨rfl,by rw [List.length_take];omega,?_,?_,?_⟩,.inr ⟨hno,rfl⟩⟩
  ·show (if fits h i (za1 (L.take i))=true then _ else [])=_
   rw [hf,if_neg (by decide)]
   exact (List.drop_eq_nil_iff.2 (by rw [List.length_take];omega)).symm
  ·show za1 (L.take i)=_
   rw [List.take_take,Nat.min_self]
  ·show cfL c0 (L.take i)=_
   rw [List.take_take,Nat.min_self]
theorem HG.feed {c0 : Conf} {h : Hrd} {b : Nat} {G : List Ent} (k : HG c0 h b G) (hh : hardB h = true) (hl : h.log.length ≤ 4294967) {nx : Int} (hn : h.base < nx) :
    ∃ p j:Nat,feedP h nx=p∧zau h (feedP h nx)=za1 (G.take p)∧feedL h nx=(G.drop p).take j∧p+j≤G.length∧(feedL h nx).length=j:=by
 have h1:=k.base
 have h2:=k.sum
 obtain ⟨n,e1,e2,e3,e4⟩:=zzw hh hl hn
 have e5:feedL h nx=(G.drop (b+n)).take (min 8 (G.length - (b+n))):=by
  rw [e3,k.log,List.drop_drop]
  by_cases hc:8≤G.length - (b+n)
  ·rw [Nat.min_eq_left hc]
  ·rw [Nat.min_eq_right (by omega),List.take_of_length_le (by rw [List.length_drop];omega),List.take_of_length_le (by rw [List.length_drop];omega)]
 refine ⟨b+n,min 8 (G.length - (b+n)),by rw [e1];omega,by rw [e4];exact k.behind (by omega),e5,by omega,?_⟩
 rw [e5,List.length_take,List.length_drop]
 omega
def ndR (r:Rft) (G:List Ent):Nd:=⟨r.hard.term,r.hard.vote,r.role,r.votes,G,r.commit.toNat,fun i=>(r.mtch.at i).toNat⟩
structure LP (H:Hist) (T:Int) (p:Nat) (es:List Ent) (lt:Int):Prop where
 ne:H.LL T ≠ []
 le:p+es.length≤(H.LL T).length
 es:es=((H.LL T).drop p).take es.length
 lt:lt=za1 ((H.LL T).take p)
theorem LP.le0 {H:Hist}{T:Int}{p:Nat}{es:List Ent}{lt:Int} (h:LP H T p es lt):p≤(H.LL T).length:=by
 have:=h.le
 omega
structure MF (H:Hist) (B:Nat) (m:Mg):Prop where
 vote:m.kind=3→∃ D,H.VD m.frm.toNat m.term m.frm.toNat D∧m.index=D.length∧m.logTerm=za1 D
 vtd:m.kind=4→m.yes=true→∃ D,H.VD m.frm.toNat m.term m.to.toNat D
 app:m.kind=5→∃ p:Nat,m.index=p∧LP H m.term p m.entries m.logTerm∧JG H m.term (H.LL m.term) m.commit.toNat∧0≤m.commit
 ans:m.kind=6→m.yes=true→∀ j:Nat,(j:Int)≤m.index→H.AK m.frm.toNat m.term j
 snp:m.kind=7→∃ b:Nat,m.index=b∧b≤B∧LP H m.term b [] m.logTerm∧m.conf=cfL H.c0 ((H.LL m.term).take b)∧JG H m.term (H.LL m.term) b
theorem zro {B:Nat}{H:Hist}{m:Mg} (h:m.kind=1∨m.kind=2∨m.kind=8∨((m.kind=4∨m.kind=6)∧m.yes=false)):MF H B m:=by
 refine ⟨fun e=>?_,fun e y=>?_,fun e=>?_,fun e y=>?_,fun e=>?_⟩
 ·exact absurd h (by omega)
 ·rcases h with h | h | h | ⟨_,h⟩
  ·omega
  ·omega
  ·omega
  ·rw [h] at y;cases y
 ·exact absurd h (by omega)
 ·rcases h with h | h | h | ⟨_,h⟩
  ·omega
  ·omega
  ·omega
  ·rw [h] at y;cases y
 ·exact absurd h (by omega)
theorem LP.mono {H H':Hist} (g:Grows H H') {T:Int}{p:Nat}{es:List Ent}{lt:Int} (h:LP H T p es lt):LP H' T p es lt:=by
 have hl:=g.len T
 have h0:=h.le0
 have e:((H'.LL T).drop p).take es.length=((H.LL T).drop p).take es.length:=by
  rw [List.take_drop,List.take_drop,g.take h.le]
 exact ⟨g.led h.ne,by have:=h.le;omega,h.es.trans e.symm,by rw [h.lt,g.take h0]⟩
theorem jg_ll {H H':Hist} (S:Static H) (g:Grows H H') {T:Int}{c:Nat} (h:JG H T (H.LL T) c):JG H' T (H'.LL T) c:=h.mono S g (Int.le_refl _) (g.take (h.len S))
theorem MF.mono {B:Nat}{H H':Hist} (S:Static H) (g:Grows H H') {m:Mg} (h:MF H B m):MF H' B m:=by
 refine ⟨fun e=>?_,fun e y=>?_,fun e=>?_,fun e y j hj=>?_,fun e=>?_⟩
 ·obtain ⟨D,a,b,c⟩:=h.vote e
  exact ⟨D,g.vd _ _ _ _ a,b,c⟩
 ·obtain ⟨D,a⟩:=h.vtd e y
  exact ⟨D,g.vd _ _ _ _ a⟩
 ·obtain ⟨p,a,b,c,d⟩:=h.app e
  exact ⟨p,a,b.mono g,jg_ll S g c,d⟩
 ·exact g.ak _ _ _ (h.ans e y j hj)
 ·obtain ⟨b,a,a2,l,c,d⟩:=h.snp e
  exact ⟨b,a,a2,l.mono g,by rw [g.c0,g.take l.le0];exact c,jg_ll S g d⟩
def RowsF (H:Hist) (B:Nat) (O:List (List PV)):Prop:=∀ o ∈ O,∃ y:My,o=y.enc∧MF H B y.mg
theorem zaw {B:Nat}{H:Hist}:RowsF H B []:=fun o h=>absurd h List.not_mem_nil
theorem zib {B:Nat}{H:Hist} (y:My) (h:MF H B y.mg):RowsF H B [y.enc]:=fun o ho=>⟨y,List.mem_singleton.1 ho,h⟩
theorem zen {B:Nat}{H:Hist} (y:My) (h:y.kind=1∨y.kind=2∨y.kind=8∨((y.kind=4∨y.kind=6)∧y.yes=false)):RowsF H B [y.enc]:=zib y (zro h)
theorem RowsF.app {B:Nat}{H:Hist}{O P:List (List PV)} (h:RowsF H B O) (g:RowsF H B P):RowsF H B (O++P):=fun o ho=>(List.mem_append.1 ho).elim (h o) (g o)
def NX (H:Hist) (B:Nat) (N:Nat→Nd) (v:Nat) (R:Rft) (O:List (List PV)):Prop :=
 ∃ H' G',Grows H H'∧GI H' (upd N v (ndR R G'))∧(∃ b,b≤B∧HG H.c0 R.hard b G')∧RowsF H' B O
theorem zn9 (N:Nat→Nd) (v:Nat) (d d':Nd):upd (upd N v d) v d'=upd N v d':=by
 funext w
 unfold upd
 split<;>rfl
theorem z0q {N:Nat→Nd}{v:Nat}{d:Nd} (h:N v=d):upd N v d=N:=by
 funext w
 unfold upd
 split
 ·rename_i e;rw [e];exact h.symm
 ·rfl
theorem NX.trans {B:Nat}{H H1:Hist}{N:Nat→Nd}{v:Nat}{d1:Nd}{R:Rft}{O:List (List PV)} (g:Grows H H1) (h:NX H1 B (upd N v d1) v R O):NX H B N v R O:=by
 obtain ⟨H',G',a,b,c,d⟩:=h
 rw [zn9] at b
 rw [g.c0] at c
 exact ⟨H',G',g.trans a,b,c,d⟩
theorem zck {B:Nat}{H:Hist}{N:Nat→Nd} (I:GI H N) {v:Nat}{R:Rft}{G:List Ent}{b:Nat} (hN:N v=ndR R G) (k:HG H.c0 R.hard b G) {O:List (List PV)} (hO:RowsF H B O) (hbB:b≤B:=by assumption):NX H B N v R O :=
 ⟨H,G,Grows.refl H,by rw [z0q hN];exact I,⟨b,hbB,k⟩,hO⟩
theorem gi_wk {H : Hist} {N : Nat → Nd} (I : GI H N) {v : Nat} (hv : v < 7) {r R : Rft} {G : List Ent} (hN : N v = ndR r G) (ht : r.hard.term ≤ R.hard.term) (hc : R.commit ≤ r.commit) (hvo : R.hard.term = r.hard.term → R.hard.vote = r.hard.vote)
    (hr:R.role ≠ 2∧R.role ≠ 3):GI H (upd N v (ndR R G)) :=
 gi_weak I hv (by rw [hN];rfl) (by rw [hN];exact ht) (by rw [hN];show R.commit.toNat≤r.commit.toNat;omega) (by rw [hN];exact hvo) hr
theorem zrv {B : Nat} {H : Hist} {N : Nat → Nd} (I : GI H N) {v : Nat} (hv : v < 7) {r R : Rft} {G : List Ent} {b : Nat} (hN : N v = ndR r G) (k : HG H.c0 R.hard b G) (ht : r.hard.term ≤ R.hard.term) (hc : R.commit ≤ r.commit) (hvo : R.hard.term = r.hard.term → R.hard.vote = r.hard.vote)
    (hr:R.role ≠ 2∧R.role ≠ 3) {O:List (List PV)} (hO:RowsF H B O) (hbB:b≤B:=by assumption):NX H B N v R O :=
 ⟨H,G,Grows.refl H,gi_wk I hv hN ht hc hvo hr,⟨b,hbB,k⟩,hO⟩
theorem HG.fall {c0:Conf}{r:Rft}{b:Nat}{G:List Ent} (k:HG c0 r.hard b G) (t l:Int):HG c0 (fallR r t l).hard b G:=by
 show HG c0 (if t > r.hard.term then { r.hard with term:=t,vote:=-1 } else r.hard) b G
 split
 ·exact k.tv t (-1)
 ·exact k
theorem zql (r:Rft) (t l:Int):(fallR r t l).hard.term=r.hard.term→(fallR r t l).hard.vote=r.hard.vote:=by
 show (if t > r.hard.term then { r.hard with term:=t,vote:=-1 } else r.hard:Hrd).term=_→(if t > r.hard.term then { r.hard with term:=t,vote:=-1 } else r.hard:Hrd).vote=_
 split
 ·intro e
  have e:t=r.hard.term:=e
  omega
 ·intro _;rfl
theorem zy1 {B:Nat}{H:Hist}{N:Nat→Nd} (I:GI H N) {v:Nat} (hv:v < 7) {r:Rft}{G:List Ent}{b:Nat} (hN:N v=ndR r G) (k:HG H.c0 r.hard b G) {t:Int} (l:Int) (ht:r.hard.term≤t) {O:List (List PV)} (hO:RowsF H B O) (hbB:b≤B:=by assumption):NX H B N v (fallR r t l) O :=
 zrv I hv hN (k.fall t l) (zi3 ht l).term (Int.le_refl _) (zql r t l) ⟨by rw [zgd];decide,by rw [zgd];decide⟩ hO
theorem zlc {n:Nat}{i:Int}{r:Rft} (h:Rp n i r) (hn:n≤200) {c0:Conf}{b:Nat}{G:List Ent} (k:HG c0 r.hard b G):G.length≤401600∧b≤400000:=by
 have h1:=h.log
 have h2:=h.base
 have h3:=k.base
 have h4:=k.sum
 omega
theorem z00 {B : Nat} {H : Hist} {N : Nat → Nd} (I : GI H N) {v : Nat} (hv : v < 7) {R : Rft} {G : List Ent} {b : Nat} (hN : N v = ndR R G) (k : HG H.c0 R.hard b G) (hro : R.role = 3) (hh : hardB R.hard = true) (hlg : R.hard.log.length ≤ 4294967) (hbc : R.hard.base ≤ R.commit)
    (l:List Int) (hbB:b≤B:=by assumption):RowsF H B (l.map (zar R)):=by
 have n:=I.nd v hv
 rw [hN] at n
 obtain ⟨e1,e2,_,_⟩:=n.ld hro
 have e1:H.LL R.hard.term=G:=e1
 have e2:G ≠ []:=e2
 have jc:JG H R.hard.term G R.commit.toNat:=n.com
 have hb:=k.base
 intro o ho
 obtain ⟨i,_,rfl⟩:=List.mem_map.1 ho
 unfold zar
 split
 ·refine ⟨⟨7,R.id,i,R.hard.term,R.hard.base,R.hard.baseTerm,R.commit,R.round,false,R.hard.baseConf,.sn R.hard.snap⟩,rfl,⟨fun e=>absurd e (by show ¬ (7:Int)=3;decide),fun e=>absurd e (by show ¬ (7:Int)=4;decide),fun e=>absurd e (by show ¬ (7:Int)=5;decide),fun e=>absurd e (by show ¬ (7:Int)=6;decide),fun _=>⟨b,hb,hbB,⟨?_,?_,?_,?_⟩,?_,?_⟩⟩⟩
  ·show H.LL R.hard.term ≠ []
   rw [e1];exact e2
  ·show b+0≤(H.LL R.hard.term).length
   rw [e1];exact k.le
  ·exact List.take_zero.symm
  ·show R.hard.baseTerm=za1 ((H.LL R.hard.term).take b)
   rw [e1];exact k.bt
  ·show R.hard.baseConf=cfL H.c0 ((H.LL R.hard.term).take b)
   rw [e1];exact k.bc
  ·show JG H R.hard.term (H.LL R.hard.term) b
   rw [e1];exact jc.le (by omega)
 ·rename_i hlt
  obtain ⟨p,j,a1,a2,a3,a4,a5⟩:=k.feed hh hlg (Int.not_le.1 hlt)
  refine ⟨⟨5,R.id,i,R.hard.term,feedP R.hard (R.next.at i.toNat),zau R.hard (feedP R.hard (R.next.at i.toNat)),R.commit,R.round,false,cz,.es (feedL R.hard (R.next.at i.toNat))⟩,rfl,⟨fun e=>absurd e (by show ¬ (5:Int)=3;decide),fun e=>absurd e (by show ¬ (5:Int)=4;decide),fun _=>⟨p,a1,⟨?_,?_,?_,?_⟩,?_,?_⟩,fun e=>absurd e (by show ¬ (5:Int)=6;decide),fun e=>absurd e (by show ¬ (5:Int)=7;decide)⟩⟩
  ·show H.LL R.hard.term ≠ []
   rw [e1];exact e2
  ·show p+(feedL R.hard (R.next.at i.toNat)).length≤(H.LL R.hard.term).length
   rw [e1,a5];exact a4
  ·show feedL R.hard (R.next.at i.toNat)=((H.LL R.hard.term).drop p).take (feedL R.hard (R.next.at i.toNat)).length
   rw [e1,a5];exact a3
  ·show zau R.hard (feedP R.hard (R.next.at i.toNat))=za1 ((H.LL R.hard.term).take p)
   rw [e1];exact a2
  ·show JG H R.hard.term (H.LL R.hard.term) R.commit.toNat
   rw [e1];exact jc
  ·show 0≤R.commit
   omega
theorem zo8 {h:Hrd}{i t:Int} (hf:fits h i t=true):t ≠ -1∧zau h i=t:=by
 unfold fits at hf
 simpa [Bool.and_eq_true,bne_iff_ne,beq_iff_eq] using hf
theorem HG.at_term {c0:Conf}{h:Hrd}{b:Nat}{G:List Ent} (k:HG c0 h b G) {i t:Int} (hi:h.base≤i) (h1:1≤t) (hf:fits h i t=true):1≤i.toNat∧i.toNat≤G.length∧∃ x,G[i.toNat - 1]?=some x∧x.term=t:=by
 obtain ⟨ht,he⟩:=zo8 hf
 have hb:=k.base
 have hle:=k.le
 have hs:=k.sum
 have hiG:i.toNat≤G.length:=by
  by_cases e:i=h.base
  ·omega
  ·have:=ziw ht hf (by omega)
   omega
 have e2:=k.term (i:=i) (n:=i.toNat) (by omega) (by omega) hiG
 have hpos:1≤i.toNat:=by
  apply Classical.byContradiction
  intro hc
  rw [show i.toNat=0 by omega,List.take_zero,zvs] at e2
  omega
 obtain ⟨x,hx⟩:=zdj (A:=G) (i:=i.toNat - 1) (by omega)
 have e3:=zc8 hx
 rw [show i.toNat - 1+1=i.toNat by omega] at e3
 exact ⟨hpos,hiG,x,hx,by omega⟩
theorem ziu {H : Hist} {N : Nat → Nd} (I : GI H N) {v : Nat} (hv : v < 7) {R : Rft} {G : List Ent} {b : Nat} {c : Int} (hN : N v = ndR { R with commit := c } G) (hro : R.role = 3) (k : HG H.c0 R.hard b G) (hs : G.length < 4294967) (hbc : R.hard.base ≤ c) (h1 : 1 ≤ R.hard.term)
    (hR:R.commit=zc9 R.hard c R.mtch):∃ H',Grows H H'∧GI H' (upd N v (ndR R G)):=by
 rcases zlv (p:=hit R.hard R.mtch) (base:=R.hard.base) (commit:=c) (R.hard.log.length+1) with e | ⟨q1,q2,q3,q4⟩
 ·have e:R.commit=c:=hR.trans e
  refine ⟨H,Grows.refl H,?_⟩
  rw [z0q (by rw [hN];unfold ndR;rw [e])]
  exact I
 ·have e:down (hit R.hard R.mtch) R.hard.base c (R.hard.log.length+1)=R.commit:=hR.symm
  rw [e] at q1 q2 q3 q4
  unfold hit at q4
  rw [Bool.and_eq_true] at q4
  obtain ⟨a1,a2,x,hx,hxt⟩:=k.at_term q2 h1 q4.1
  have hq:=q4.2
  rw [k.conf hs] at hq
  refine zy5 I hv (n:=R.commit.toNat) (W:=haveB R.mtch R.commit 7) (d:=ndR R G) (x:=x) (by rw [hN];exact hro) a1 (by rw [hN];exact hx) (by rw [hN];exact hxt) (by rw [hN];exact hq) (fun i hi ht=>?_) (by rw [hN];rfl) (by rw [hN];rfl) (by rw [hN];rfl) hro rfl (by rw [hN];rfl)
  rw [hN]
  show R.commit.toNat≤(R.mtch.at i).toNat
  have:=zr8 R.mtch R.commit i 7 (Nat.le_refl _) ht
  omega
theorem zxm {B : Nat} {n : Nat} {H : Hist} {N : Nat → Nd} (I : GI H N) {v : Nat} (hv : v < 7) {r : Rft} (hp : Rp n v r) (hn : n ≤ 199) {G : List Ent} {b : Nat} (hN : N v = ndR r G) (k : HG H.c0 r.hard b G) (hro : r.role = 2) (hq : zak (zab r) r.votes = true) (hbB : b ≤ B := by assumption) :
    NX H B N v (leadR r) ((allL (leadR r)).map (zar (leadR r))):=by
 obtain ⟨hs,hb⟩:=zlc hp (by omega) k
 have h1:=hp.led (by omega)
 have hid:=hp.id
 have hl:=zrn hp (by omega) h1
 have kx:=k.snoc (et r.hard.term)
 have hla:lastI (logR r (et r.hard.term))=(G++[et r.hard.term]).length:=kx.last (by rw [List.length_append];show G.length+1 < _;omega)
 have hm:∀ i,i < 7→(leadR r).mtch.at i=if i=v then lastI (logR r (et r.hard.term)) else 0:=fun i hi=>by
  show (zA.put r.id.toNat (lastI (logR r (et r.hard.term)))).at i=_
  rw [hid,Int.toNat_natCast,zrp _ _ hv hi,zA_at i hi]
 obtain ⟨H1,g1,I1⟩:=gi_lead I hv (d':=ndR { leadR r with commit:=r.commit } (G++[et r.hard.term])) (x:=et r.hard.term) (by rw [hN];exact hro) (by rw [hN];show zak (cfL H.c0 G) r.votes=true;rw [← k.conf (by omega)];exact hq) (by rw [hN];rfl) (by show ¬ (0:Int)=2;decide)
  (by rw [hN];rfl) (by rw [hN];rfl) (by rw [hN];rfl) rfl (by rw [hN];exact Nat.le_refl _) (fun i hi j hj hle=>by
   have hle:j≤((leadR r).mtch.at i).toNat:=hle
   rw [hm i hi] at hle
   split at hle
   ·rename_i e
    refine ⟨e,?_⟩
    show j≤(G++[et r.hard.term]).length
    rw [hla] at hle
    omega
   ·simp at hle;omega)
 have kl:HG H1.c0 (leadR r).hard b (G++[et r.hard.term]):=by rw [g1.c0];exact kx
 obtain ⟨H2,g2,I2⟩:=ziu I1 hv (R:=leadR r) (G:=G++[et r.hard.term]) (b:=b) (c:=r.commit) (zbf ..) rfl kl (by rw [List.length_append];show G.length+1 < _;omega) hp.rgt.com.1 h1 rfl
 rw [zn9] at I2
 have kl2:HG H2.c0 (leadR r).hard b (G++[et r.hard.term]):=by rw [g2.c0];exact kl
 refine ⟨H2,G++[et r.hard.term],g1.trans g2,I2,⟨b,hbB,by rw [← (g1.trans g2).c0];exact kl2⟩,z00 I2 hv (zbf ..) kl2 rfl hl.rgt.hard (by have:=hl.log;omega) hl.rgt.com.1 _⟩
theorem ask_mf {B:Nat}{H:Hist}{v:Nat}{R:Rft} (hid:R.id=v) {G:List Ent}{b:Nat}{c0:Conf} (k:HG c0 R.hard b G) (hs:G.length < 4294967) (hvd:H.VD v R.hard.term v G) (l:List Int):RowsF H B (l.map (askM R 3 R.hard.term)):=by
 intro o ho
 obtain ⟨i,_,rfl⟩:=List.mem_map.1 ho
 refine ⟨⟨3,R.id,i,R.hard.term,lastI R.hard,lastT R.hard,0,0,false,cz,.no⟩,rfl,⟨fun _=>⟨G,?_,k.last hs,k.lastT⟩,fun e=>absurd e (by show ¬ (3:Int)=4;decide),fun e=>absurd e (by show ¬ (3:Int)=5;decide),fun e=>absurd e (by show ¬ (3:Int)=6;decide),fun e=>absurd e (by show ¬ (3:Int)=7;decide)⟩⟩
 show H.VD R.id.toNat _ R.id.toNat G
 rw [hid]
 exact hvd
theorem ask1_mf {B:Nat}{H:Hist} (R:Rft) (t:Int) (l:List Int):RowsF H B (l.map (askM R 1 t)):=by
 intro o ho
 obtain ⟨i,_,rfl⟩:=List.mem_map.1 ho
 exact ⟨⟨1,R.id,i,t,lastI R.hard,lastT R.hard,0,0,false,cz,.no⟩,rfl,zro (.inl rfl)⟩
theorem zoj {B:Nat}{n:Nat}{H:Hist}{N:Nat→Nd} (I:GI H N) {v:Nat} (hv:v < 7) {r:Rft} (hp:Rp n v r) (hn:n≤199) (hrd:r.reads=[]) {G:List Ent}{b:Nat} (hN:N v=ndR r G) (k:HG H.c0 r.hard b G) (hbB:b≤B:=by assumption):NX H B N v (ze2 r) (zf6 r):=by
 obtain ⟨hs,hb⟩:=zlc hp (by omega) k
 have hT:=hp.termB
 have hid:=hp.id
 unfold ze2 zf6
 by_cases ht:r.hard.term=1099511627776
 ·rw [if_pos ht,if_pos ht]
  exact zy1 I hv hN k (-1) (Int.le_refl _) zaw
 ·rw [if_neg ht,if_neg ht]
  have hsd:=std_rp hp (by omega) hrd
  obtain ⟨H1,g1,I1,hvd⟩:=z34 I hv (d:=ndR (stdR r) G) (by rw [hN];exact hT.1) (by rw [hN];rfl) (by rw [hN];rfl) (show r.id=v from hid) rfl (fun i hi e=>by
   have e:tb (shl 1 r.id) i=true:=e
   rw [hid,ze1 v i (by omega),decide_eq_true_eq] at e
   exact e.symm) (by rw [hN];exact Nat.le_refl _)
  have k1:HG H1.c0 (stdR r).hard b G:=by rw [g1.c0];exact k.tv _ _
  by_cases hq:zak (zab (stdR r)) (shl 1 r.id)=true
  ·rw [if_pos hq,if_pos hq]
   exact NX.trans g1 (zxm I1 hv hsd hn (zbf ..) k1 rfl hq)
  ·rw [if_neg hq,if_neg hq]
   exact ⟨H1,G,g1,I1,⟨b,hbB,k.tv _ _⟩,ask_mf (R:=stdR r) hid k1 (by omega) hvd _⟩
theorem nx_tick {B:Nat}{n:Nat}{H:Hist}{N:Nat→Nd} (I:GI H N) {v:Nat} (hv:v < 7) {r:Rft} (hp:Rp n v r) (hn:n≤199) (hro:r.role ≠ 3) {G:List Ent}{b:Nat} (hN:N v=ndR r G) (k:HG H.c0 r.hard b G) (hbB:b≤B:=by assumption):NX H B N v (tickR r) (tickO r):=by
 have hnr:=zfj hp.rgt hro
 have hid:=hp.id
 have hta:Rp n v (taR r):=⟨zta hp.rgt hro,hid,fun e=>absurd e (by show ¬ (2:Int)≤1;decide),hp.log,hp.base,hp.snap⟩
 have I1:GI H (upd N v (ndR (taR r) G)):=gi_wk I hv hN (Int.le_refl _) (Int.le_refl _) (fun _=>rfl) ⟨by show ¬ (1:Int)=2;decide,by show ¬ (1:Int)=3;decide⟩
 unfold tickR tickO
 by_cases h1:zbx r=false
 ·rw [if_pos h1,if_pos h1]
  exact zck I hN k zaw
 rw [if_neg h1,if_neg h1]
 by_cases h2:0 < zeroM (r.wait - 1)
 ·rw [if_pos h2,if_pos h2]
  exact zck I hN k zaw
 rw [if_neg h2,if_neg h2]
 by_cases h3:zak (zab (taR r)) (shl 1 r.id)=true
 ·rw [if_pos h3,if_pos h3]
  exact NX.trans (Grows.refl H) (zoj I1 hv hta hn hnr (zbf ..) k)
 ·rw [if_neg h3,if_neg h3]
  refine ⟨H,G,Grows.refl H,I1,⟨b,hbB,k⟩,?_⟩
  split
  ·exact ask1_mf _ _ _
  ·exact zaw
theorem now_mf {B:Nat}{H:Hist} (x:Rft):RowsF H B (nowO x):=by
 intro o ho
 unfold nowO at ho
 split at ho
 ·unfold nowL at ho
  split at ho
  ·rw [List.mem_singleton.1 ho]
   rename_i i _
   exact ⟨⟨8,x.id,i,x.hard.term,0,0,0,0,false,cz,.no⟩,rfl,zro (.inr (.inr (.inl rfl)))⟩
  ·exact absurd ho List.not_mem_nil
 ·exact absurd ho List.not_mem_nil
theorem nx_beat {B:Nat}{n:Nat}{H:Hist}{N:Nat→Nd} (I:GI H N) {v:Nat} (hv:v < 7) {r:Rft} (hp:Rp n v r) (hn:n≤199) (hro:r.role=3) {G:List Ent}{b:Nat} (hN:N v=ndR r G) (k:HG H.c0 r.hard b G) (hbB:b≤B:=by assumption):NX H B N v (beatF r) (beatO r):=by
 unfold beatF beatO
 by_cases hg:goB r=true
 ·rw [if_pos hg,if_pos hg]
  exact zck (R:=beatR r) I hN k ((z00 (R:=beatR r) I hv hN k hro hp.rgt.hard (by have:=hp.log;show r.hard.log.length≤_;omega) hp.rgt.com.1 _).app (now_mf _))
 ·rw [if_neg hg,if_neg hg]
  exact zy1 (r:=beatR r) I hv hN k (-1) (Int.le_refl _) zaw
end Go.Proofs
