import Derived.Test.YtbhfokahocgndabGreatQ5
import Derived.Test.YtbhfokahocgndabGreatQ6
import Derived.Test.YtbhfokahocgndabGreatQ7
import Derived.Test.YtbhfokahocgndabGreatS12
import Derived.Test.YtbhfokahocgndabGreatS20
import Derived.Test.YtbhfokahocgndabGreatC1
import Derived.Test.YtbhfokahocgndabGreatC54
import Derived.Test.YtbhfokahocgndabGreatPvV4
/- Plain law: what the replicas of a play keep, what they send. -/
set_option linter.unusedSimpArgs false
set_option linter.unusedVariables false
namespace Go.Proofs
open Go.Pv
set_option maxRecDepth 100000
inductive Bd where
 | no:Bd
 | es:List Ent→Bd
 | sn:List Int→Bd
abbrev Bd.ents:Bd→List Ent
 | .no=>[]
 | .es l=>l
 | .sn _=>[]
abbrev Bd.snp:Bd→List Int
 | .no=>[]
 | .es _=>[]
 | .sn l=>l
abbrev Bd.ev:Bd→PV
 | .no=>.nl
 | .es l=>.sl 16 (l.map Ent.enc)
 | .sn _=>.nl
abbrev Bd.sv:Bd→PV
 | .no=>.nl
 | .es _=>.nl
 | .sn l=>.sl 1 (l.map encB)
structure My where
 kind:Int
 frm:Int
 to:Int
 term:Int
 index:Int
 logT:Int
 commit:Int
 round:Int
 yes:Bool
 cf:Conf
 bd:Bd
abbrev My.enc (x:My):List PV:=msgV x.kind x.frm x.to x.term x.index x.logT x.commit x.round x.yes x.bd.ev x.cf x.bd.sv
abbrev My.mg (x:My):Mg:=⟨x.kind,x.frm,x.to,x.term,x.index,x.logT,x.commit,x.round,x.yes,x.bd.ents,x.cf,x.bd.snp,[]⟩
structure MyOk (n:Nat) (x:My):Prop where
 es:x.bd.ents.length≤8
 sn:x.bd.snp.length≤1
 ix:x.kind=7→x.index≤2000 * (n:Int)
 tor:0≤x.to∧x.to < 7
theorem MyOk.mono {n k:Nat}{x:My} (h:MyOk n x) (hk:n≤k):MyOk k x:=⟨h.es,h.sn,fun e=>by have:=h.ix e;omega,h.tor⟩
structure Sent (n:Nat) (R:Rft) (x:My):Prop where
 ok:MyOk n x
 frm:x.frm=R.id
 to:x.to ≠ R.id
 term:x.kind ≠ 1→x.kind ≠ 2→x.term=R.hard.term
def RowsY (k n:Nat) (R:Rft) (O:List (List PV)):Prop:=∃ L:List My,O=L.map My.enc∧(∀ x ∈ L,Sent n R x)∧L.length≤k
theorem zbo {k n:Nat}{R:Rft}:RowsY k n R []:=⟨[],rfl,fun x h=>absurd h (List.not_mem_nil),Nat.zero_le _⟩
theorem zdt {k n:Nat}{R:Rft} (x:My) (h:Sent n R x):RowsY (k+1) n R [x.enc]:=⟨[x],rfl,fun y hy=>by rw [List.mem_singleton.1 hy];exact h,Nat.succ_le_succ (Nat.zero_le _)⟩
theorem RowsY.le {k j n:Nat}{R:Rft}{O:List (List PV)} (h:RowsY k n R O) (hj:k≤j):RowsY j n R O:=by
 obtain ⟨L,e,h,hl⟩:=h
 exact ⟨L,e,h,by omega⟩
theorem RowsY.app {k j n:Nat}{R:Rft}{O P:List (List PV)} (h:RowsY k n R O) (g:RowsY j n R P):RowsY (k+j) n R (O++P):=by
 obtain ⟨L,e,h,hl⟩:=h
 obtain ⟨K,f,g,gl⟩:=g
 refine ⟨L++K,by rw [List.map_append,e,f],fun x hx=>?_,by rw [List.length_append];omega⟩
 rcases List.mem_append.1 hx with hx | hx
 ·exact h x hx
 ·exact g x hx
theorem zqh {n:Nat}{R:Rft}{f:Int→List PV} (l:List Int) (hl:l.length≤7) (h:∀ a ∈ l,∃ x:My,f a=x.enc∧Sent n R x):RowsY 7 n R (l.map f):=by
 have key:∃ L:List My,l.map f=L.map My.enc∧(∀ x ∈ L,Sent n R x)∧L.length=l.length:=by
  clear hl
  induction l with
  | nil=>exact ⟨[],rfl,fun x h=>absurd h (List.not_mem_nil),rfl⟩
  | cons a l ih =>
   obtain ⟨x,e,hx⟩:=h a (List.mem_cons_self ..)
   obtain ⟨L,eL,hL,hn⟩:=ih fun b hb=>h b (List.mem_cons_of_mem _ hb)
   refine ⟨x :: L,by rw [List.map_cons,List.map_cons,e,eL],fun y hy=>?_,by rw [List.length_cons,List.length_cons,hn]⟩
   rcases List.mem_cons.1 hy with rfl | hy
   ·exact hx
   ·exact hL y hy
 obtain ⟨L,e,hL,hn⟩:=key
 exact ⟨L,e,hL,by omega⟩
theorem zoj {id bits:Int}{n:Nat}{v:Int} (h:v ∈ othN id bits n):v ≠ id:=by
 unfold othN at h
 obtain ⟨k,hk,rfl⟩:=List.mem_map.1 h
 have h2:=(List.mem_filter.1 hk).2
 rw [Bool.and_eq_true,decide_eq_true_eq] at h2
 exact h2.1
structure Rp (n:Nat) (i:Int) (r:Rft):Prop where
 rgt:Rgt r
 id:r.id=i
 led:2≤r.role→1≤r.hard.term
 log:r.hard.log.length≤8 * n
 base:r.hard.base≤2000 * (n:Int)
 snap:r.hard.snap.length≤1
theorem Rp.last {n:Nat}{i:Int}{r:Rft} (h:Rp n i r) (hn:n≤200):lastI r.hard=r.hard.base+r.hard.log.length:=zdr h.rgt.hard (by have:=h.log;omega)
theorem Rp.lastB {n:Nat}{i:Int}{r:Rft} (h:Rp n i r) (hn:n≤200):lastI r.hard < 1099511627776:=by
 rw [h.last hn];have:=h.log;have:=h.base;omega
theorem Rp.mono {n k:Nat}{i:Int}{r:Rft} (h:Rp n i r) (hk:n≤k):Rp k i r:=⟨h.rgt,h.id,h.led,by have:=h.log;omega,by have:=h.base;omega,h.snap⟩
structure Up (r R:Rft):Prop where
 id:R.id=r.id
 term:r.hard.term≤R.hard.term
 com:r.commit≤R.commit
 vote:R.hard.term=r.hard.term→r.hard.vote=-1∨R.hard.vote=r.hard.vote
theorem Up.refl (r:Rft):Up r r:=⟨rfl,Int.le_refl _,Int.le_refl _,fun _=>.inr rfl⟩
theorem Up.trans {r x R:Rft} (h:Up r x) (g:Up x R):Up r R:=by
 refine ⟨g.id.trans h.id,Int.le_trans h.term g.term,Int.le_trans h.com g.com,fun e=>?_⟩
 have h1:=h.term
 have h2:=g.term
 rcases h.vote (by omega) with a | a
 ·exact .inl a
 ·rcases g.vote (by omega) with b | b
  ·exact .inl (by rw [← a];exact b)
  ·exact .inr (b.trans a)
theorem zjg {n:Nat}{i:Int}{R:Rft} (h:Rp n i R) (hn:n≤200):RowsY 7 n R ((allL R).map (zba R)):=by
 refine zqh _ (zc4 ..) fun v hv=>?_
 have hr:=zex hv
 have hne:=zoj hv
 unfold zba
 split
 ·exact ⟨⟨7,R.id,v,R.hard.term,R.hard.base,R.hard.baseTerm,R.commit,R.round,false,R.hard.baseConf,.sn R.hard.snap⟩,rfl,⟨Nat.zero_le _,h.snap,fun _=>h.base,hr⟩,rfl,hne,fun _ _=>rfl⟩
 ·rename_i hlt
  refine ⟨⟨5,R.id,v,R.hard.term,feedP R.hard (R.next.at v.toNat),zbh R.hard (feedP R.hard (R.next.at v.toNat)),R.commit,R.round,false,cz,.es (feedL R.hard (R.next.at v.toNat))⟩,rfl,⟨?_,Nat.zero_le _,fun e=>absurd e (by show ¬ (5:Int)=7;decide),hr⟩,rfl,hne,fun _ _=>rfl⟩
  obtain ⟨q,_,_,e,_⟩:=feed_at h.rgt.hard (by have:=h.log;omega) (Int.not_le.1 hlt)
  show (feedL R.hard (R.next.at v.toNat)).length≤8
  rw [e,List.length_take];omega
theorem zp9 {n:Nat} (R:Rft) (k t:Int) (hk:k ≠ 7) (ht:k ≠ 1→t=R.hard.term):RowsY 7 n R ((votL R).map (askM R k t)):=by
 refine zqh _ (zc4 ..) fun v hv=>?_
 have hr:=zex hv
 have hne:=zoj hv
 exact ⟨⟨k,R.id,v,t,lastI R.hard,lastT R.hard,0,0,false,cz,.no⟩,rfl,⟨Nat.zero_le _,Nat.zero_le _,fun e=>absurd e hk,hr⟩,rfl,hne,fun a _=>ht a⟩
structure Stp (n:Nat) (r R:Rft) (O:List (List PV)):Prop where
 rp:Rp (n+1) r.id R
 up:Up r R
 rows:RowsY 8 (n+1) R O
theorem zlz {r:Rft}{t:Int} (ht:r.hard.term≤t) (l:Int):Up r (fallR r t l):=by
 refine ⟨rfl,?_,Int.le_refl _,?_⟩
 ·unfold fallR
  split
  ·exact ht
  ·exact Int.le_refl _
 ·unfold fallR
  split
  ·rename_i h
   intro e
   have e:t=r.hard.term:=e
   omega
  ·exact fun _=>.inr rfl
theorem zl9 {n:Nat}{i:Int}{r:Rft} (h:Rp n i r) {t l:Int} (ht:r.hard.term≤t∧t≤1099511627776) (hl:-1≤l∧l < 7):Rp n i (fallR r t l) :=
 ⟨zsq h.rgt ht hl,by rw [fall_id];exact h.id,fun e=>absurd e (by rw [ztl];decide),by rw [zci];exact h.log,by rw [zjq];exact h.base,by rw [zc8];exact h.snap⟩
theorem Rp.termB {n:Nat}{i:Int}{r:Rft} (h:Rp n i r):0≤r.hard.term∧r.hard.term≤1099511627776:=(za9 h.rgt.hard).1.t
theorem zu0 {n:Nat}{i:Int}{r:Rft} (h:Rp n i r) (hn:n≤200) (h1:1≤r.hard.term):Rp (n+1) i (leadR r) :=
 ⟨zrx h.rgt (by have:=h.log;omega) h1 (h.lastB hn),h.id,fun _=>h1,by rw [zma,List.length_append];have:=h.log;show r.hard.log.length+1≤_;omega,by have:=h.base;show r.hard.base≤_;omega,h.snap⟩
theorem zuk (r:Rft):Up r (leadR r):=⟨rfl,Int.le_refl _,by show r.commit≤zdh _ _ _;exact zl6 _,fun _=>.inr rfl⟩
theorem std_rp {n:Nat}{i:Int}{r:Rft} (h:Rp n i r) (ht:r.hard.term < 1099511627776) (hr:r.reads=[]):Rp n i (stdR r) :=
 ⟨zui h.rgt ht hr,h.id,fun _=>by have:=h.termB;show 1≤r.hard.term+1;omega,h.log,h.base,h.snap⟩
theorem std_up (r:Rft):Up r (stdR r):=⟨rfl,by show r.hard.term≤r.hard.term+1;omega,Int.le_refl _,fun e=>by have e:r.hard.term+1=r.hard.term:=e;omega⟩
theorem zjc {n:Nat}{i:Int}{r:Rft} (h:Rp n i r) (hn:n≤199) (hr:r.reads=[]):Rp (n+1) i (ze3 r)∧Up r (ze3 r)∧RowsY 7 (n+1) (ze3 r) (zgv r):=by
 unfold ze3 zgv
 by_cases ht:r.hard.term=1099511627776
 ·rw [if_pos ht,if_pos ht]
  exact ⟨(zl9 h (by omega) (by decide)).mono (Nat.le_succ n),zlz (Int.le_refl _) _,zbo⟩
 ·rw [if_neg ht,if_neg ht]
  have hs:=std_rp h (by have:=h.termB;omega) hr
  by_cases hq:zbb (zac (stdR r)) (shl 1 r.id)=true
  ·rw [if_pos hq,if_pos hq]
   have hl:=zu0 hs (by omega) (by have:=h.termB;show 1≤r.hard.term+1;omega)
   exact ⟨hl,(std_up r).trans (zuk _),zjg hl (by omega)⟩
  ·rw [if_neg hq,if_neg hq]
   exact ⟨hs.mono (Nat.le_succ n),std_up r,zp9 _ 3 _ (by decide) fun _=>rfl⟩
theorem zyh {n:Nat}{r:Rft} (h:Rp n r.id r) (hn:n≤199) (hro:r.role ≠ 3):Stp n r (tickR r) (tickO r):=by
 have hnr:=zij h.rgt hro
 have hta:Rp n r.id (taR r):=⟨zzv h.rgt hro,rfl,fun e=>absurd e (by show ¬ (2:Int)≤1;decide),h.log,h.base,h.snap⟩
 have hua:Up r (taR r):=⟨rfl,Int.le_refl _,Int.le_refl _,fun _=>.inr rfl⟩
 unfold tickR tickO
 by_cases h1:zcf r=false
 ·rw [if_pos h1,if_pos h1]
  exact ⟨⟨zly h.rgt,rfl,h.led,by have:=h.log;show r.hard.log.length≤_;omega,by have:=h.base;show r.hard.base≤_;omega,h.snap⟩,⟨rfl,Int.le_refl _,Int.le_refl _,fun _=>.inr rfl⟩,zbo⟩
 rw [if_neg h1,if_neg h1]
 by_cases h2:0 < zeroM (r.wait - 1)
 ·rw [if_pos h2,if_pos h2]
  exact ⟨⟨zyu h.rgt,rfl,h.led,by have:=h.log;show r.hard.log.length≤_;omega,by have:=h.base;show r.hard.base≤_;omega,h.snap⟩,⟨rfl,Int.le_refl _,Int.le_refl _,fun _=>.inr rfl⟩,zbo⟩
 rw [if_neg h2,if_neg h2]
 by_cases h3:zbb (zac (taR r)) (shl 1 r.id)=true
 ·rw [if_pos h3,if_pos h3]
  obtain ⟨a,b,c⟩:=zjc hta hn hnr
  exact ⟨a,hua.trans b,c.le (by decide)⟩
 ·rw [if_neg h3,if_neg h3]
  refine ⟨hta.mono (Nat.le_succ n),hua,?_⟩
  split
  ·exact (zp9 (taR r) 1 _ (by decide) fun e=>absurd rfl e).le (by decide)
  ·exact zbo
theorem zsi {r:Rft} (h:Rgt r):Rgt (beatR r):=by
 have hR:=h.round
 exact ⟨h.hard,h.id,h.com,h.role,h.lead,h.wait,h.quiet,zii (by omega),h.votes,h.next,h.mtch,zf2 h.silent fun v hv=>zex hv,h.reads,h.own⟩
theorem zy2 {n:Nat}{r:Rft} (h:Rp n r.id r) (hn:n≤199):Stp n r (beatF r) (beatO r):=by
 have hb:Rp n r.id (beatR r):=⟨zsi h.rgt,rfl,h.led,h.log,h.base,h.snap⟩
 have hu:Up r (beatR r):=⟨rfl,Int.le_refl _,Int.le_refl _,fun _=>.inr rfl⟩
 have hT:=h.termB
 unfold beatF beatO
 by_cases hg:goB r=true
 ·rw [if_pos hg,if_pos hg]
  refine ⟨hb.mono (Nat.le_succ n),hu,RowsY.app (k:=7) (j:=1) (zjg (hb.mono (Nat.le_succ n)) (by omega)) ?_⟩
  unfold nowO
  split
  ·unfold nowL
   split
   ·rename_i v hv
    have hm:=List.mem_of_find?_eq_some hv
    exact zdt (k:=0) ⟨8,(beatR r).id,v,r.hard.term,0,0,0,0,false,cz,.no⟩ ⟨⟨Nat.zero_le _,Nat.zero_le _,fun e=>absurd e (by show ¬ (8:Int)=7;decide),zex hm⟩,rfl,zoj hm,fun _ _=>rfl⟩
   ·exact zbo
  ·exact zbo
 ·rw [if_neg hg,if_neg hg]
  exact ⟨(zl9 hb (by show r.hard.term≤r.hard.term∧_;omega) (by decide)).mono (Nat.le_succ n),hu.trans (zlz (Int.le_refl _) _),zbo⟩
noncomputable def tkX (r:Rft) (m:Mg):Rft:=if r.hard.term < m.term then fallR r m.term (-1) else r
inductive TK (r:Rft) (m:Mg):Rft→List (List PV)→Int→Prop where
 | asked (h:m.kind=1):TK r m r (zj0 r m) 0
 | old (h:¬ m.kind=1) (ht:m.term < r.hard.term):TK r m r (zh8 r m) 0
 | no (h:m.kind=2∨m.kind=4) (hy:m.yes=false) (ht:¬ m.term < r.hard.term):TK r m (tkX r m) [] 0
 | k2 (h:m.kind=2) (hy:m.yes=true) (ht:¬ m.term < r.hard.term):TK r m (k2R r m) (k2O r m) 0
 | k3 (h:m.kind=3) (ht:¬ m.term < r.hard.term):TK r m (k3R (tkX r m) m) (k3O (tkX r m) m) 0
 | k4 (h:m.kind=4) (hy:m.yes=true) (ht:¬ m.term < r.hard.term):TK r m (k4R (tkX r m) m) (k4O (tkX r m) m) 0
 | app (h:m.kind=5) (ht:¬ m.term < r.hard.term):TK r m (appR (tkX r m) m) (appO (tkX r m) m) (appE (tkX r m) m)
 | lrn (h:m.kind=6) (ht:¬ m.term < r.hard.term):TK r m (zcj (tkX r m) m) [] 0
 | ins (h:m.kind=7) (ht:¬ m.term < r.hard.term):TK r m (insR (tkX r m) m) (insO (tkX r m) m) (insE (tkX r m) m)
 | k8 (h:m.kind=8) (ht:¬ m.term < r.hard.term):TK r m (k8R (tkX r m) m) (k8O (tkX r m) m) 0
theorem tk_ex (r:Rft) (m:Mg) (hk:1≤m.kind∧m.kind≤8):∃ R O E,TK r m R O E:=by
 by_cases h1:m.kind=1
 ·exact ⟨_,_,_,.asked h1⟩
 by_cases ht:m.term < r.hard.term
 ·exact ⟨_,_,_,.old h1 ht⟩
 rcases (by omega:m.kind=2∨m.kind=3∨m.kind=4∨m.kind=5∨m.kind=6∨m.kind=7∨m.kind=8) with h | h | h | h | h | h | h
 ·cases hy:m.yes with
  | false=>exact ⟨_,_,_,.no (.inl h) hy ht⟩
  | true=>exact ⟨_,_,_,.k2 h hy ht⟩
 ·exact ⟨_,_,_,.k3 h ht⟩
 ·cases hy:m.yes with
  | false=>exact ⟨_,_,_,.no (.inr h) hy ht⟩
  | true=>exact ⟨_,_,_,.k4 h hy ht⟩
 ·exact ⟨_,_,_,.app h ht⟩
 ·exact ⟨_,_,_,.lrn h ht⟩
 ·exact ⟨_,_,_,.ins h ht⟩
 ·exact ⟨_,_,_,.k8 h ht⟩
theorem tkx_rp {n:Nat}{i:Int}{r:Rft} (h:Rp n i r) {m:Mg} (hM:RightM r m):Rp n i (tkX r m):=by
 unfold tkX
 split
 ·exact zl9 h (by have:=hM.term;omega) (by decide)
 ·exact h
theorem tkx_up (r:Rft) (m:Mg):Up r (tkX r m):=by
 unfold tkX
 split
 ·exact zlz (by omega) _
 ·exact Up.refl r
theorem tkx_id (r:Rft) (m:Mg):(tkX r m).id=r.id:=(tkx_up r m).id
theorem vt_rp {n:Nat}{i:Int}{x:Rft} (h:Rp n i x) {m:Mg} (hf:0≤m.frm∧m.frm < 7):Rp n i (vtR x m):=⟨zyy h.rgt hf,h.id,h.led,h.log,h.base,h.snap⟩
theorem vt_up (x:Rft) (m:Mg):Up x (vtR x m):=⟨rfl,Int.le_refl _,Int.le_refl _,fun _=>.inr rfl⟩
theorem k2_stp {n:Nat}{i:Int}{x:Rft} (h:Rp n i x) (hn:n≤199) {m:Mg} (hf:0≤m.frm∧m.frm < 7):Rp (n+1) i (k2R x m)∧Up x (k2R x m)∧RowsY 7 (n+1) (k2R x m) (k2O x m):=by
 unfold k2R k2O
 by_cases h1:x.role=1
 ·rw [if_pos h1,if_pos h1]
  by_cases h2:m.term=x.hard.term+1
  ·rw [if_pos h2,if_pos h2]
   by_cases h3:zbb (zac (vtR x m)) (vtR x m).votes=true
   ·rw [if_pos h3,if_pos h3]
    obtain ⟨a,b,c⟩:=zjc (vt_rp h hf) hn (show x.reads=[] from zij h.rgt (by omega))
    exact ⟨a,(vt_up x m).trans b,c⟩
   ·rw [if_neg h3,if_neg h3]
    exact ⟨(vt_rp h hf).mono (Nat.le_succ n),vt_up x m,zbo⟩
  ·rw [if_neg h2,if_neg h2]
   exact ⟨h.mono (Nat.le_succ n),Up.refl x,zbo⟩
 ·rw [if_neg h1,if_neg h1]
  exact ⟨h.mono (Nat.le_succ n),Up.refl x,zbo⟩
theorem k3_stp {n:Nat}{i:Int}{x:Rft} (h:Rp n i x) {m:Mg} (hf:0≤m.frm∧m.frm < 7) (hne:m.frm ≠ x.id):Rp (n+1) i (k3R x m)∧Up x (k3R x m)∧RowsY 7 (n+1) (k3R x m) (k3O x m):=by
 unfold k3R k3O
 by_cases hv:voted x m=true
 ·rw [if_pos hv,if_pos hv]
  have hT:=h.termB
  have hd:Rp n i (vdR x m):=⟨⟨zir h.rgt.hard (t:=x.hard.term) (by omega) (by omega),h.rgt.id,h.rgt.com,h.rgt.role,h.rgt.lead,h.rgt.wait,h.rgt.quiet,h.rgt.round,h.rgt.votes,h.rgt.next,h.rgt.mtch,h.rgt.silent,h.rgt.reads,h.rgt.own⟩,h.id,h.led,h.log,h.base,h.snap⟩
  have hx:=zl9 hd (t:=x.hard.term) (l:=-1) (by show x.hard.term≤x.hard.term∧_;omega) (by decide)
  have hvu:Up x (vdR x m):=by
   refine ⟨rfl,Int.le_refl _,Int.le_refl _,fun _=>?_⟩
   unfold voted at hv
   simp only [Bool.and_eq_true,Bool.or_eq_true,beq_iff_eq] at hv
   rcases hv.2.1 with e | e
   ·exact .inl e
   ·exact .inr e.symm
  refine ⟨hx.mono (Nat.le_succ n),hvu.trans (zlz (Int.le_refl _) _),zdt (k:=6) ⟨4,_,m.frm,_,0,0,0,0,true,cz,.no⟩ ⟨⟨Nat.zero_le _,Nat.zero_le _,fun e=>absurd e (by show ¬ (4:Int)=7;decide),hf⟩,rfl,hne,fun _ _=>rfl⟩⟩
 ·rw [if_neg hv,if_neg hv]
  exact ⟨h.mono (Nat.le_succ n),Up.refl x,zdt (k:=6) ⟨4,_,m.frm,_,0,0,0,0,false,cz,.no⟩ ⟨⟨Nat.zero_le _,Nat.zero_le _,fun e=>absurd e (by show ¬ (4:Int)=7;decide),hf⟩,rfl,hne,fun _ _=>rfl⟩⟩
theorem k4_stp {n:Nat}{i:Int}{x:Rft} (h:Rp n i x) (hn:n≤199) {m:Mg} (hf:0≤m.frm∧m.frm < 7):Rp (n+1) i (k4R x m)∧Up x (k4R x m)∧RowsY 7 (n+1) (k4R x m) (k4O x m):=by
 unfold k4R k4O
 by_cases h1:x.role=2
 ·rw [if_pos h1,if_pos h1]
  by_cases h3:zbb (zac (vtR x m)) (vtR x m).votes=true
  ·rw [if_pos h3,if_pos h3]
   have hl:=zu0 (vt_rp h hf) (by omega) (h.led (by omega))
   exact ⟨hl,(vt_up x m).trans (zuk _),zjg hl (by omega)⟩
  ·rw [if_neg h3,if_neg h3]
   exact ⟨(vt_rp h hf).mono (Nat.le_succ n),vt_up x m,zbo⟩
 ·rw [if_neg h1,if_neg h1]
  exact ⟨h.mono (Nat.le_succ n),Up.refl x,zbo⟩
theorem k8_stp {n:Nat}{i:Int}{x:Rft} (h:Rp n i x) (hn:n≤199) {m:Mg} (hne:m.frm ≠ x.id):Rp (n+1) i (k8R x m)∧Up x (k8R x m)∧RowsY 7 (n+1) (k8R x m) (k8O x m):=by
 unfold k8R k8O
 by_cases h1:zcf x=true
 ·rw [if_pos h1,if_pos h1]
  by_cases h2:x.lead=m.frm
  ·rw [if_pos h2,if_pos h2]
   exact zjc h hn (zij h.rgt fun e=>hne (by rw [← h2];exact h.rgt.own e))
  ·rw [if_neg h2,if_neg h2]
   exact ⟨h.mono (Nat.le_succ n),Up.refl x,zbo⟩
 ·rw [if_neg h1,if_neg h1]
  exact ⟨h.mono (Nat.le_succ n),Up.refl x,zbo⟩
theorem zlj {n:Nat} (x:Rft) (m:Mg) (ix:Int) (y:Bool) (hf:0≤m.frm∧m.frm < 7) (hne:m.frm ≠ x.id):RowsY 7 n (folR x m) [folM x m ix y] :=
 zdt (k:=6) ⟨6,_,m.frm,_,ix,0,0,m.round,y,cz,.no⟩ ⟨⟨Nat.zero_le _,Nat.zero_le _,fun e=>absurd e (by show ¬ (6:Int)=7;decide),hf⟩,rfl,hne,fun _ _=>rfl⟩
theorem app_stp {n:Nat}{i:Int}{x:Rft} (h:Rp n i x) (hn:n≤199) {m:Mg} (hf:0≤m.frm∧m.frm < 7) (hne:m.frm ≠ x.id) (he:appE x m=0):Rp (n+1) i (appR x m)∧Up x (appR x m)∧RowsY 7 (n+1) (appR x m) (appO x m):=by
 have hlg:=h.log
 have hR:=zt4 h.rgt hf (m:=m) (by omega) he
 have hgot:=app_got x m (by omega)
 unfold appE at he
 unfold appR appO at *
 by_cases h3:x.role=3
 ·rw [if_pos h3,if_pos h3]
  exact ⟨h.mono (Nat.le_succ n),Up.refl x,zbo⟩
 ·rw [if_neg h3] at he
  rw [if_neg h3,if_pos he] at hR hgot ⊢
  rw [if_neg h3,if_pos he]
  have hg:=zgs (setH x (growO x.hard x.commit m).h (growO x.hard x.commit m).c) m
  have hgt:=(zlc (h:=x.hard) (c:=x.commit) (m:=m) (by omega) he).2
  have hgv:(growO x.hard x.commit m).h.vote=x.hard.vote:=by unfold growO;split<;>rfl
  have hgc:=(zic (h:=x.hard) (c:=x.commit) (m:=m) (by omega) he).1
  have hgs:=ztv he
  refine ⟨⟨hR,h.id,fun e=>absurd e (by show ¬ (2:Int)≤0;decide),by omega,by rw [hgot.1];have:=h.base;omega,?_⟩,⟨rfl,?_,hgc,fun _=>.inr ?_⟩,zlj _ m _ _ hf hne⟩
  ·rw [hg];show (growO x.hard x.commit m).h.snap.length≤1;rw [hgs];exact h.snap
  ·rw [hg];show _≤(growO x.hard x.commit m).h.term;rw [hgt];exact Int.le_refl _
  ·rw [hg];exact hgv
theorem ins_stp {n:Nat}{i:Int}{x:Rft} (h:Rp n i x) (hn:n≤199) {m:Mg} (hf:0≤m.frm∧m.frm < 7) (hne:m.frm ≠ x.id) (hi:0≤m.index∧m.index≤2000 * (n:Int)) (hs:m.snap.length≤1) (he:insE x m=0):Rp (n+1) i (insR x m)∧Up x (insR x m)∧RowsY 7 (n+1) (insR x m) (insO x m):=by
 have hlg:=h.log
 have hb:=h.base
 have hR:=ztn h.rgt hf (m:=m) (by omega) (by omega) he
 unfold insE at he
 unfold insR insO at *
 by_cases h3:x.role=3
 ·rw [if_pos h3,if_pos h3]
  exact ⟨h.mono (Nat.le_succ n),Up.refl x,zbo⟩
 ·rw [if_neg h3] at he
  rw [if_neg h3] at hR ⊢
  rw [if_neg h3]
  by_cases h4:x.commit < m.index
  ·rw [if_pos h4] at he
   rw [if_pos h4,if_pos he] at hR ⊢
   rw [if_pos h4,if_pos he]
   have hg:=zgs (setH x (insHH x m) m.index) m
   have hl:(insHH x m).log.length≤x.hard.log.length:=ze5 x.hard m.index m.logTerm m.conf m.snap
   refine ⟨⟨hR,h.id,fun e=>absurd e (by show ¬ (2:Int)≤0;decide),?_,?_,?_⟩,⟨rfl,?_,by show x.commit≤m.index;omega,fun _=>.inr ?_⟩,zlj _ m _ _ hf hne⟩
   ·rw [hg];show (insHH x m).log.length≤_;omega
   ·rw [hg];show m.index≤_;omega
   ·rw [hg];exact hs
   ·rw [hg];exact Int.le_refl _
   ·rw [hg];rfl
  ·rw [if_neg h4] at he
   rw [if_neg h4] at hR ⊢
   rw [if_neg h4]
   have hg:=zgs x m
   refine ⟨⟨hR,h.id,fun e=>absurd e (by show ¬ (2:Int)≤0;decide),?_,?_,?_⟩,⟨rfl,?_,Int.le_refl _,fun _=>.inr ?_⟩,zlj _ m _ _ hf hne⟩
   ·rw [hg];omega
   ·rw [hg];omega
   ·rw [hg];exact h.snap
   ·rw [hg];exact Int.le_refl _
   ·rw [hg]
theorem lrn_stp {n:Nat}{i:Int}{x:Rft} (h:Rp n i x) (hn:n≤199) {m:Mg} (hf:0≤m.frm∧m.frm < 7) (hi:0≤m.index∧m.index≤1099511627776):Rp (n+1) i (zcj x m)∧Up x (zcj x m):=by
 have hlg:=h.log
 have hR:=zxa h.rgt hf (m:=m) (by omega) hi (h.lastB (by omega))
 obtain ⟨e1,e2⟩:=lrn_got x m
 have hid:(zcj x m).id=x.id:=by unfold zcj;split<;>rfl
 refine ⟨⟨hR,hid.trans h.id,by rw [e1,e2];exact h.led,by rw [e1];omega,by rw [e1];have:=h.base;omega,by rw [e1];exact h.snap⟩,⟨hid,by rw [e1];exact Int.le_refl _,?_,fun _=>.inr (by rw [e1])⟩⟩
 unfold zcj
 split
 ·show x.commit≤zdh _ _ _;exact zl6 _
 ·exact Int.le_refl _
theorem zll {n:Nat}{r:Rft} (h:Rp n r.id r) (hn:n≤199) {m:Mg} (hM:RightM r m) (hs:m.snap.length≤1) (hi:m.kind=7→m.index≤2000 * (n:Int)) {R:Rft}{O:List (List PV)}{E:Int} (hk:TK r m R O E) (he:E=0):Stp n r R O:=by
 have hx:=tkx_rp h hM
 have hu:=tkx_up r m
 have hne:m.frm ≠ (tkX r m).id:=by rw [tkx_id];exact hM.ne
 have mk:∀ {R:Rft}{O:List (List PV)},Rp (n+1) r.id R∧Up (tkX r m) R∧RowsY 7 (n+1) R O→Stp n r R O:=fun a=>⟨a.1,hu.trans a.2.1,a.2.2.le (by decide)⟩
 cases hk with
 | asked _ =>
  refine ⟨h.mono (Nat.le_succ n),Up.refl r,?_⟩
  unfold zj0
  split
  ·exact zdt (k:=7) ⟨2,r.id,m.frm,m.term,0,0,0,0,true,cz,.no⟩ ⟨⟨Nat.zero_le _,Nat.zero_le _,fun e=>absurd e (by show ¬ (2:Int)=7;decide),hM.frm⟩,rfl,hM.ne,fun _ e=>absurd rfl e⟩
  ·exact zdt (k:=7) ⟨2,r.id,m.frm,r.hard.term,0,0,0,0,false,cz,.no⟩ ⟨⟨Nat.zero_le _,Nat.zero_le _,fun e=>absurd e (by show ¬ (2:Int)=7;decide),hM.frm⟩,rfl,hM.ne,fun _ e=>absurd rfl e⟩
 | old _ _ =>
  refine ⟨h.mono (Nat.le_succ n),Up.refl r,?_⟩
  unfold zh8
  split
  ·exact zdt (k:=7) ⟨4,r.id,m.frm,r.hard.term,0,0,0,0,false,cz,.no⟩ ⟨⟨Nat.zero_le _,Nat.zero_le _,fun e=>absurd e (by show ¬ (4:Int)=7;decide),hM.frm⟩,rfl,hM.ne,fun _ _=>rfl⟩
  ·split
   ·exact zdt (k:=7) ⟨6,r.id,m.frm,r.hard.term,0,0,0,0,false,cz,.no⟩ ⟨⟨Nat.zero_le _,Nat.zero_le _,fun e=>absurd e (by show ¬ (6:Int)=7;decide),hM.frm⟩,rfl,hM.ne,fun _ _=>rfl⟩
   ·exact zbo
 | no _ _ _=>exact ⟨hx.mono (Nat.le_succ n),hu,zbo⟩
 | k2 _ _ _ =>
  obtain ⟨a,b,c⟩:=k2_stp h hn (m:=m) hM.frm
  exact ⟨a,b,c.le (by decide)⟩
 | k3 _ _=>exact mk (k3_stp hx hM.frm hne)
 | k4 _ _ _=>exact mk (k4_stp hx hn hM.frm)
 | app _ _=>exact mk (app_stp hx hn hM.frm hne he)
 | lrn _ _ =>
  obtain ⟨a,b⟩:=lrn_stp hx hn hM.frm hM.index
  exact mk ⟨a,b,zbo⟩
 | ins h7 _=>exact mk (ins_stp hx hn hM.frm hne ⟨hM.index.1,hi h7⟩ hs he)
 | k8 _ _=>exact mk (k8_stp hx hn hne)
theorem zeh {r:Rft}{m:Mg} (h:m.term=r.hard.term):tkX r m=r:=if_neg (by omega)
theorem zdb {r:Rft}{m:Mg} (h:r.hard.term < m.term):tkX r m=fallR r m.term (-1):=if_pos h
theorem zv9 (r : Rft) (m : Mg) (hg : Rgt r) (hl : r.hard.log.length ≤ 4000) (hM : RightM r m) (hen : m.entries.length ≤ 1000) (hsn : m.snap.length ≤ 40000) {R : Rft} {O : List (List PV)} {E : Int} (hk : TK r m R O E) :
    CtrE Tryz.prog 52 [.pt 1000000 0,.ag m.enc] [(1000000,repI r [])] (obI r []) (iv E) [(1000000,repX R ([]++O))] obX:=by
 have hf:=hg.fit (by omega)
 have hl2:(fallR r m.term (-1)).hard.log.length=r.hard.log.length:=by rw [zci]
 cases hk with
 | asked h =>
  have k:=zy8 r hf [] (by decide) m
  rw [zbm h] at k
  exact k
 | old h ht=>exact zsm r hf [] (by decide) m h ht
 | no h hy ht =>
  rcases (by omega:m.term=r.hard.term∨r.hard.term < m.term) with e | e
  ·rw [zeh e]
   rcases h with h | h
   ·have k:=zu3 r hf [] (by decide) m hM.frm hM.term.2 e
    rw [zdv h hy] at k
    exact k
   ·have k:=ztr r hf [] (by decide) m hM.frm hM.term.2 e
    rw [zdv h hy] at k
    exact k
  ·rw [zdb e]
   rcases h with h | h
   ·have k:=zs6 r hf [] (by decide) m hM.frm hM.term.2 e
    rw [zdv h hy] at k
    exact k
   ·have k:=zs0 r hf [] (by decide) m hM.frm hM.term.2 e
    rw [zdv h hy] at k
    exact k
 | k2 h hy ht =>
  rcases (by omega:m.term=r.hard.term∨r.hard.term < m.term) with e | e
  ·have k:=zwz r hf [] (by decide) m hM.frm hM.term.2 e
   rw [zdv h hy] at k
   exact k
  ·have k:=zvx r hf [] (by decide) m hM.frm hM.term.2 e
   rw [zdv h hy] at k
   exact k
 | k3 h ht =>
  rcases (by omega:m.term=r.hard.term∨r.hard.term < m.term) with e | e
  ·rw [zeh e]
   have k:=zxt r hf [] (by decide) m hM.frm hM.term.2 e
   rw [zbm h] at k
   exact k
  ·rw [zdb e]
   have k:=zvt r hf [] (by decide) m hM.frm hM.term.2 e
   rw [zbm h] at k
   exact k
 | k4 h hy ht =>
  rcases (by omega:m.term=r.hard.term∨r.hard.term < m.term) with e | e
  ·rw [zeh e]
   have k:=zt6 r hf [] (by decide) m hM.frm hM.term.2 e
   rw [zdv h hy] at k
   exact k
  ·rw [zdb e]
   have k:=zti r hf [] (by decide) m hM.frm hM.term.2 e
   rw [zdv h hy] at k
   exact k
 | app h ht =>
  rcases (by omega:m.term=r.hard.term∨r.hard.term < m.term) with e | e
  ·rw [zeh e]
   have k:=zyf r hf [] (by decide) m hM.frm hM.term.2 e (by omega) (by
    rw [zbm h];intro e;have:=zes (m:=m) (by omega) e;exact zak (by omega))
   rw [zbm h] at k
   exact k
  ·rw [zdb e]
   have k:=zv3 r hf [] (by decide) m hM.frm hM.term.2 e (by omega) (by
    rw [zbm h];intro e;have:=zes (m:=m) (by omega) e;exact zak (by omega))
   rw [zbm h] at k
   exact k
 | lrn h ht =>
  rcases (by omega:m.term=r.hard.term∨r.hard.term < m.term) with e | e
  ·rw [zeh e]
   have k:=zx7 r hf [] (by decide) m hM.frm hM.term.2 e hM.index hg.mtch
   rw [zbm h] at k
   exact k
  ·rw [zdb e]
   have k:=zu7 r hf [] (by decide) m hM.frm hM.term.2 e hM.index (fun i hi=>by
    rw [zfy]
    have h0:(fallR r m.term (-1)).mtch.at i=0:=zA_at i hi
    have:=hg.com
    have:=(za9 hg.hard).1.b
    rw [h0];omega)
   rw [zbm h] at k
   exact k
 | ins h ht =>
  rcases (by omega:m.term=r.hard.term∨r.hard.term < m.term) with e | e
  ·rw [zeh e]
   have k:=zxh r hf [] (by decide) m hM.frm hM.term.2 e (by omega) hM.index (by
    have:=ze5 r.hard (mkM m 7).index (mkM m 7).logTerm (mkM m 7).conf (mkM m 7).snap;exact zak (Nat.le_trans this (by omega)))
   rw [zbm h] at k
   exact k
  ·rw [zdb e]
   have k:=zv8 r hf [] (by decide) m hM.frm hM.term.2 e (by omega) hM.index (by
    have:=ze5 (fallR r m.term (-1)).hard (mkM m 7).index (mkM m 7).logTerm (mkM m 7).conf (mkM m 7).snap;exact zak (Nat.le_trans this (by omega)))
   rw [zbm h] at k
   exact k
 | k8 h ht =>
  rcases (by omega:m.term=r.hard.term∨r.hard.term < m.term) with e | e
  ·rw [zeh e]
   have k:=zzo r hf [] (by decide) m hM.frm hM.term.2 e
   rw [zbm h] at k
   exact k
  ·rw [zdb e]
   have k:=zwj r hf [] (by decide) m hM.frm hM.term.2 e
   rw [zbm h] at k
   exact k
theorem c_TakeY {n : Nat} {i : Int} (r : Rft) (m : Mg) (h : Rp n i r) (hn : n ≤ 200) (hM : zeg r m = true) (hen : m.entries.length ≤ 8) (hsn : m.snap.length ≤ 1) {R : Rft} {O : List (List PV)} {E : Int} (hk : TK r m R O E) :
    Ctr Tryz.prog 14 [.ag r.enc,.ag m.enc] (if E=0 then .tu [.ag R.enc,.sl 16 O,iv 0] else .tu [.ag rzv,.nl,iv E]) []:=by
 have hl:=h.log
 have hs:=h.snap
 have hr:=(zh0 h.rgt.reads).1
 have k:=zv9 r m h.rgt (by omega) (ziw hM) (by omega) (by omega) hk
 split
 ·rename_i e
  subst e
  exact zxb r m (by omega) (by omega) (by omega) (zf3 h.rgt) hM R O k
 ·rename_i e
  exact zrw r m (by omega) (by omega) (by omega) (zf3 h.rgt) hM R O E e k
noncomputable def takA (R:Rft) (O:List (List PV)) (E:Int):PV:=if E=0 then .tu [.ag R.enc,.sl 16 O,iv 0] else .tu [.ag rzv,.nl,iv E]
theorem zb5 (R:Rft) (O:List (List PV)):takA R O 0=.tu [.ag R.enc,.sl 16 O,iv 0]:=if_pos rfl
theorem zeu (R:Rft) (O:List (List PV)) {E:Int} (h:¬ E=0):takA R O E=.tu [.ag rzv,.nl,iv E]:=if_neg h
theorem zry (r : Rft) (m : Mg) (hg : Rgt r) (hl : r.hard.log.length ≤ 4000) (hM : RightM r m) (hL : 0 ≤ m.logTerm ∧ m.logTerm ≤ far) (hR : 0 ≤ m.round ∧ m.round ≤ far) (hen : m.entries.length ≤ 1000) (hsn : m.snap.length ≤ 40000) {R : Rft} {O : List (List PV)} {E : Int} (hk : TK r m R O E) :
    Ctr Tryz.prog 40 [.ag r.enc,.ag m.enc] (takA R O E) []:=by
 have hf:=hg.fit (by omega)
 have hl2:(fallR r m.term (-1)).hard.log.length=r.hard.log.length:=by rw [zci]
 have hM1:∀ k y,k=m.kind→y=m.yes→RightM r (mkY m k y):=fun k y hk hy=>⟨hM.frm,hM.ne,hM.to,by show 1≤k∧k≤8;rw [hk];exact hM.kind,hM.term,hM.index⟩
 cases hk with
 | asked h =>
  have k:=zwm r hf m hM hL hR
  rw [zbm h] at k
  rw [zb5];exact k
 | old h ht =>
  rw [zb5];exact zps r hf m hM hL hR h ht
 | no h hy ht =>
  rcases (by omega:m.term=r.hard.term∨r.hard.term < m.term) with e | e
  ·rw [zeh e,zb5]
   rcases h with h | h
   ·have k:=zth r hf m hM hL hR e
    rw [zdv h hy] at k
    exact k
   ·have k:=zrs r hf m hM hL hR e
    rw [zdv h hy] at k
    exact k
  ·rw [zdb e,zb5]
   rcases h with h | h
   ·have k:=zo4 r hf m hM hL hR e
    rw [zdv h hy] at k
    exact k
   ·have k:=zpi r hf m hM hL hR e
    rw [zdv h hy] at k
    exact k
 | k2 h hy ht =>
  rcases (by omega:m.term=r.hard.term∨r.hard.term < m.term) with e | e
  ·have k:=zsc r hf m hM hL hR e
   rw [zdv h hy] at k
   rw [zb5];exact k
  ·have k:=zta r hf m hM hL hR e
   rw [zdv h hy] at k
   rw [zb5];exact k
 | k3 h ht =>
  rcases (by omega:m.term=r.hard.term∨r.hard.term < m.term) with e | e
  ·rw [zeh e]
   have k:=zwq r hf m hM hL hR e
   rw [zbm h] at k
   rw [zb5];exact k
  ·rw [zdb e]
   have k:=zs1 r hf m hM hL hR e
   rw [zbm h] at k
   rw [zb5];exact k
 | k4 h hy ht =>
  rcases (by omega:m.term=r.hard.term∨r.hard.term < m.term) with e | e
  ·rw [zeh e]
   have k:=ztf r hf m hM hL hR e
   rw [zdv h hy] at k
   rw [zb5];exact k
  ·rw [zdb e]
   have k:=zpo r hf m hM hL hR e
   rw [zdv h hy] at k
   rw [zb5];exact k
 | app h ht =>
  rcases (by omega:m.term=r.hard.term∨r.hard.term < m.term) with e | e
  ·rw [zeh e]
   by_cases he:appE r m=0
   ·have k:=zup r hf m hM hL hR e (by omega) (by
    rw [zbm h];intro e;have:=zes (m:=m) (by omega) e;exact zak (by omega)) (by rw [zbm h];exact he)
    rw [zbm h] at k
    rw [he,zb5];exact k
   ·have k:=ztj r hf m hM hL hR e (by omega) (by
    rw [zbm h];intro e;have:=zes (m:=m) (by omega) e;exact zak (by omega)) (by rw [zbm h];exact he)
    rw [zbm h] at k
    rw [zeu _ _ he];exact k
  ·rw [zdb e]
   by_cases he:appE (fallR r m.term (-1)) m=0
   ·have k:=zs3 r hf m hM hL hR e (by omega) (by
    rw [zbm h];intro e;have:=zes (m:=m) (by omega) e;exact zak (by omega)) (by rw [zbm h];exact he)
    rw [zbm h] at k
    rw [he,zb5];exact k
   ·have k:=zpp r hf m hM hL hR e (by omega) (by
    rw [zbm h];intro e;have:=zes (m:=m) (by omega) e;exact zak (by omega)) (by rw [zbm h];exact he)
    rw [zbm h] at k
    rw [zeu _ _ he];exact k
 | lrn h ht =>
  rcases (by omega:m.term=r.hard.term∨r.hard.term < m.term) with e | e
  ·rw [zeh e]
   have k:=zvy r hf m hM hL hR e hg.mtch
   rw [zbm h] at k
   rw [zb5];exact k
  ·rw [zdb e]
   have k:=zsg r hf m hM hL hR e (fun i hi=>by
    rw [zfy]
    have h0:(fallR r m.term (-1)).mtch.at i=0:=zA_at i hi
    have:=hg.com
    have:=(za9 hg.hard).1.b
    rw [h0];omega)
   rw [zbm h] at k
   rw [zb5];exact k
 | ins h ht =>
  rcases (by omega:m.term=r.hard.term∨r.hard.term < m.term) with e | e
  ·rw [zeh e]
   by_cases he:insE r m=0
   ·have k:=zvf r hf m hM hL hR e (by omega) (by
    have:=ze5 r.hard (mkM m 7).index (mkM m 7).logTerm (mkM m 7).conf (mkM m 7).snap;exact zak (Nat.le_trans this (by omega))) (by rw [zbm h];exact he)
    rw [zbm h] at k
    rw [he,zb5];exact k
   ·have k:=zsk r hf m hM hL hR e (by omega) (by
    have:=ze5 r.hard (mkM m 7).index (mkM m 7).logTerm (mkM m 7).conf (mkM m 7).snap;exact zak (Nat.le_trans this (by omega))) (by rw [zbm h];exact he)
    rw [zbm h] at k
    rw [zeu _ _ he];exact k
  ·rw [zdb e]
   by_cases he:insE (fallR r m.term (-1)) m=0
   ·have k:=zso r hf m hM hL hR e (by omega) (by
    have:=ze5 (fallR r m.term (-1)).hard (mkM m 7).index (mkM m 7).logTerm (mkM m 7).conf (mkM m 7).snap;exact zak (Nat.le_trans this (by omega))) (by rw [zbm h];exact he)
    rw [zbm h] at k
    rw [he,zb5];exact k
   ·have k:=zo3 r hf m hM hL hR e (by omega) (by
    have:=ze5 (fallR r m.term (-1)).hard (mkM m 7).index (mkM m 7).logTerm (mkM m 7).conf (mkM m 7).snap;exact zak (Nat.le_trans this (by omega))) (by rw [zbm h];exact he)
    rw [zbm h] at k
    rw [zeu _ _ he];exact k
 | k8 h ht =>
  rcases (by omega:m.term=r.hard.term∨r.hard.term < m.term) with e | e
  ·rw [zeh e]
   have k:=zuc r hf m hM hL hR e
   rw [zbm h] at k
   rw [zb5];exact k
  ·rw [zdb e]
   have k:=zrt r hf m hM hL hR e
   rw [zbm h] at k
   rw [zb5];exact k
structure Act where
 doo:Int
 i:Int
 n:Int
 call:VCall
 conf:Conf
abbrev Act.enc (x:Act):List PV:=[iv x.doo,iv x.i,iv x.n,iv x.call.client,iv x.call.seq,iv x.call.cmd.kind,sv x.call.cmd.key,iv x.call.cmd.old.kind,.sc (.float .f64 x.call.cmd.old.num),sv x.call.cmd.old.text,iv x.call.cmd.val.kind,.sc (.float .f64 x.call.cmd.val.num),sv x.call.cmd.val.text,iv x.conf.full,iv x.conf.wit,iv x.conf.learn,iv x.conf.lwit]
def Act.ok (x:Act):Prop:=isI x.doo∧isI x.i∧isI x.n∧x.call.ok∧x.conf.ok
theorem ty_Act {ls:List PV} (h:Ty Tryz.prog 33 ls):∃ x:Act,ls=x.enc∧x.ok:=by
 obtain ⟨ps,rfl,h0⟩:=zfi [3,3,3,31,23] (by kernel_rfl) (by kernel_rfl) h
 obtain ⟨p0,ps,rfl,h1,h0⟩:=za3 h0
 obtain ⟨p1,ps,rfl,h2,h0⟩:=za3 h0
 obtain ⟨p2,ps,rfl,h3,h0⟩:=za3 h0
 obtain ⟨p3,ps,rfl,h4,h0⟩:=za3 h0
 obtain ⟨p4,ps,rfl,h5,h0⟩:=za3 h0
 obtain rfl:=zd5 h0
 obtain ⟨x0,rfl,w0⟩:=ty_i h1
 obtain ⟨x1,rfl,w1⟩:=ty_i h2
 obtain ⟨x2,rfl,w2⟩:=ty_i h3
 obtain ⟨x3,rfl,w3⟩:=zzg h4
 obtain ⟨x4,rfl,w4⟩:=zt1 h5
 exact ⟨⟨x0,x1,x2,x3,x4⟩,rfl,w0,w1,w2,w3,w4⟩
theorem arg_Act {p:PV} (h:ArgOf Tryz.prog 33 p):∃ x:Act,p=.ag x.enc∧x.ok:=by
 obtain ⟨ls,rfl,h1⟩:=znd (by kernel_rfl) h
 obtain ⟨x,rfl,w⟩:=ty_Act h1
 exact ⟨x,rfl,w⟩
theorem zy9 {p:PV} (h:ArgOf Tryz.prog 24 p):∃ xs:List Act,p=.sl 17 (xs.map Act.enc)∧xs.length≤maxLen∧∀ x ∈ xs,x.ok:=by
 obtain ⟨rows,e,hl,hr⟩:=zze (e:=33) 17 (by kernel_rfl) (by kernel_rfl) (by decide) (zw2 (by kernel_rfl) h)
 cases e
 obtain ⟨xs,rfl,hx⟩:=zq1 (f:=Act.enc) (ok:=Act.ok) fun r hr'=>ty_Act (hr r hr')
 exact ⟨xs,rfl,by simpa using hl,hx⟩
structure Svn where
 r0:Rft
 r1:Rft
 r2:Rft
 r3:Rft
 r4:Rft
 r5:Rft
 r6:Rft
def Svn.at (s:Svn):Nat→Rft
 | 0=>s.r0
 | 1=>s.r1
 | 2=>s.r2
 | 3=>s.r3
 | 4=>s.r4
 | 5=>s.r5
 | _=>s.r6
def Svn.put (s:Svn) (k:Nat) (r:Rft):Svn:=match k with
 | 0=>{ s with r0:=r }
 | 1=>{ s with r1:=r }
 | 2=>{ s with r2:=r }
 | 3=>{ s with r3:=r }
 | 4=>{ s with r4:=r }
 | 5=>{ s with r5:=r }
 | _=>{ s with r6:=r }
theorem Svn.put_at (s:Svn) (r:Rft) {k j:Nat} (hk:k < 7) (hj:j < 7):(s.put k r).at j=if j=k then r else s.at j:=by
 rcases (by omega:k=0∨k=1∨k=2∨k=3∨k=4∨k=5∨k=6) with rfl | rfl | rfl | rfl | rfl | rfl | rfl <;>
 rcases (by omega:j=0∨j=1∨j=2∨j=3∨j=4∨j=5∨j=6) with rfl | rfl | rfl | rfl | rfl | rfl | rfl<;>rfl
abbrev someV (s:Svn) (m:PV):List PV:=[iv s.r0.id,iv s.r0.hard.term,iv s.r0.hard.vote,iv s.r0.hard.base,iv s.r0.hard.baseTerm,iv s.r0.hard.baseConf.full,iv s.r0.hard.baseConf.wit,iv s.r0.hard.baseConf.learn,iv s.r0.hard.baseConf.lwit,.sl 1 (s.r0.hard.snap.map encB),.sl 16 (s.r0.hard.log.map Ent.enc),iv s.r0.commit,iv s.r0.role,iv s.r0.lead,iv s.r0.wait,iv s.r0.quiet,iv s.r0.votes,iv s.r0.round,iv s.r0.next.a0,iv s.r0.next.a1,iv s.r0.next.a2,iv s.r0.next.a3,iv s.r0.next.a4,iv s.r0.next.a5,iv s.r0.next.a6,iv s.r0.mtch.a0,iv s.r0.mtch.a1,iv s.r0.mtch.a2,iv s.r0.mtch.a3,iv s.r0.mtch.a4,iv s.r0.mtch.a5,iv s.r0.mtch.a6,iv s.r0.silent.a0,iv s.r0.silent.a1,iv s.r0.silent.a2,iv s.r0.silent.a3,iv s.r0.silent.a4,iv s.r0.silent.a5,iv s.r0.silent.a6,.sl 13 (s.r0.reads.map Rd.enc),iv s.r1.id,iv s.r1.hard.term,iv s.r1.hard.vote,iv s.r1.hard.base,iv s.r1.hard.baseTerm,iv s.r1.hard.baseConf.full,iv s.r1.hard.baseConf.wit,iv s.r1.hard.baseConf.learn,iv s.r1.hard.baseConf.lwit,.sl 1 (s.r1.hard.snap.map encB),.sl 16 (s.r1.hard.log.map Ent.enc),iv s.r1.commit,iv s.r1.role,iv s.r1.lead,iv s.r1.wait,iv s.r1.quiet,iv s.r1.votes,iv s.r1.round,iv s.r1.next.a0,iv s.r1.next.a1,iv s.r1.next.a2,iv s.r1.next.a3,iv s.r1.next.a4,iv s.r1.next.a5,iv s.r1.next.a6,iv s.r1.mtch.a0,iv s.r1.mtch.a1,iv s.r1.mtch.a2,iv s.r1.mtch.a3,iv s.r1.mtch.a4,iv s.r1.mtch.a5,iv s.r1.mtch.a6,iv s.r1.silent.a0,iv s.r1.silent.a1,iv s.r1.silent.a2,iv s.r1.silent.a3,iv s.r1.silent.a4,iv s.r1.silent.a5,iv s.r1.silent.a6,.sl 13 (s.r1.reads.map Rd.enc),iv s.r2.id,iv s.r2.hard.term,iv s.r2.hard.vote,iv s.r2.hard.base,iv s.r2.hard.baseTerm,iv s.r2.hard.baseConf.full,iv s.r2.hard.baseConf.wit,iv s.r2.hard.baseConf.learn,iv s.r2.hard.baseConf.lwit,.sl 1 (s.r2.hard.snap.map encB),.sl 16 (s.r2.hard.log.map Ent.enc),iv s.r2.commit,iv s.r2.role,iv s.r2.lead,iv s.r2.wait,iv s.r2.quiet,iv s.r2.votes,iv s.r2.round,iv s.r2.next.a0,iv s.r2.next.a1,iv s.r2.next.a2,iv s.r2.next.a3,iv s.r2.next.a4,iv s.r2.next.a5,iv s.r2.next.a6,iv s.r2.mtch.a0,iv s.r2.mtch.a1,iv s.r2.mtch.a2,iv s.r2.mtch.a3,iv s.r2.mtch.a4,iv s.r2.mtch.a5,iv s.r2.mtch.a6,iv s.r2.silent.a0,iv s.r2.silent.a1,iv s.r2.silent.a2,iv s.r2.silent.a3,iv s.r2.silent.a4,iv s.r2.silent.a5,iv s.r2.silent.a6,.sl 13 (s.r2.reads.map Rd.enc),iv s.r3.id,iv s.r3.hard.term,iv s.r3.hard.vote,iv s.r3.hard.base,iv s.r3.hard.baseTerm,iv s.r3.hard.baseConf.full,iv s.r3.hard.baseConf.wit,iv s.r3.hard.baseConf.learn,iv s.r3.hard.baseConf.lwit,.sl 1 (s.r3.hard.snap.map encB),.sl 16 (s.r3.hard.log.map Ent.enc),iv s.r3.commit,iv s.r3.role,iv s.r3.lead,iv s.r3.wait,iv s.r3.quiet,iv s.r3.votes,iv s.r3.round,iv s.r3.next.a0,iv s.r3.next.a1,iv s.r3.next.a2,iv s.r3.next.a3,iv s.r3.next.a4,iv s.r3.next.a5,iv s.r3.next.a6,iv s.r3.mtch.a0,iv s.r3.mtch.a1,iv s.r3.mtch.a2,iv s.r3.mtch.a3,iv s.r3.mtch.a4,iv s.r3.mtch.a5,iv s.r3.mtch.a6,iv s.r3.silent.a0,iv s.r3.silent.a1,iv s.r3.silent.a2,iv s.r3.silent.a3,iv s.r3.silent.a4,iv s.r3.silent.a5,iv s.r3.silent.a6,.sl 13 (s.r3.reads.map Rd.enc),iv s.r4.id,iv s.r4.hard.term,iv s.r4.hard.vote,iv s.r4.hard.base,iv s.r4.hard.baseTerm,iv s.r4.hard.baseConf.full,iv s.r4.hard.baseConf.wit,iv s.r4.hard.baseConf.learn,iv s.r4.hard.baseConf.lwit,.sl 1 (s.r4.hard.snap.map encB),.sl 16 (s.r4.hard.log.map Ent.enc),iv s.r4.commit,iv s.r4.role,iv s.r4.lead,iv s.r4.wait,iv s.r4.quiet,iv s.r4.votes,iv s.r4.round,iv s.r4.next.a0,iv s.r4.next.a1,iv s.r4.next.a2,iv s.r4.next.a3,iv s.r4.next.a4,iv s.r4.next.a5,iv s.r4.next.a6,iv s.r4.mtch.a0,iv s.r4.mtch.a1,iv s.r4.mtch.a2,iv s.r4.mtch.a3,iv s.r4.mtch.a4,iv s.r4.mtch.a5,iv s.r4.mtch.a6,iv s.r4.silent.a0,iv s.r4.silent.a1,iv s.r4.silent.a2,iv s.r4.silent.a3,iv s.r4.silent.a4,iv s.r4.silent.a5,iv s.r4.silent.a6,.sl 13 (s.r4.reads.map Rd.enc),iv s.r5.id,iv s.r5.hard.term,iv s.r5.hard.vote,iv s.r5.hard.base,iv s.r5.hard.baseTerm,iv s.r5.hard.baseConf.full,iv s.r5.hard.baseConf.wit,iv s.r5.hard.baseConf.learn,iv s.r5.hard.baseConf.lwit,.sl 1 (s.r5.hard.snap.map encB),.sl 16 (s.r5.hard.log.map Ent.enc),iv s.r5.commit,iv s.r5.role,iv s.r5.lead,iv s.r5.wait,iv s.r5.quiet,iv s.r5.votes,iv s.r5.round,iv s.r5.next.a0,iv s.r5.next.a1,iv s.r5.next.a2,iv s.r5.next.a3,iv s.r5.next.a4,iv s.r5.next.a5,iv s.r5.next.a6,iv s.r5.mtch.a0,iv s.r5.mtch.a1,iv s.r5.mtch.a2,iv s.r5.mtch.a3,iv s.r5.mtch.a4,iv s.r5.mtch.a5,iv s.r5.mtch.a6,iv s.r5.silent.a0,iv s.r5.silent.a1,iv s.r5.silent.a2,iv s.r5.silent.a3,iv s.r5.silent.a4,iv s.r5.silent.a5,iv s.r5.silent.a6,.sl 13 (s.r5.reads.map Rd.enc),iv s.r6.id,iv s.r6.hard.term,iv s.r6.hard.vote,iv s.r6.hard.base,iv s.r6.hard.baseTerm,iv s.r6.hard.baseConf.full,iv s.r6.hard.baseConf.wit,iv s.r6.hard.baseConf.learn,iv s.r6.hard.baseConf.lwit,.sl 1 (s.r6.hard.snap.map encB),.sl 16 (s.r6.hard.log.map Ent.enc),iv s.r6.commit,iv s.r6.role,iv s.r6.lead,iv s.r6.wait,iv s.r6.quiet,iv s.r6.votes,iv s.r6.round,iv s.r6.next.a0,iv s.r6.next.a1,iv s.r6.next.a2,iv s.r6.next.a3,iv s.r6.next.a4,iv s.r6.next.a5,iv s.r6.next.a6,iv s.r6.mtch.a0,iv s.r6.mtch.a1,iv s.r6.mtch.a2,iv s.r6.mtch.a3,iv s.r6.mtch.a4,iv s.r6.mtch.a5,iv s.r6.mtch.a6,iv s.r6.silent.a0,iv s.r6.silent.a1,iv s.r6.silent.a2,iv s.r6.silent.a3,iv s.r6.silent.a4,iv s.r6.silent.a5,iv s.r6.silent.a6,.sl 13 (s.r6.reads.map Rd.enc),m]
abbrev someI (s:Svn) (M:List (List PV)):List PV:=someV s (.ow 1000000 0 M.length)
abbrev someO (M:List (List PV)):List (Nat×Option (Bool×Nat×List (List PV))):=[(1000000,some (false,16,M))]
def capM (m l:List (List PV)):List (List PV):=m++l.take (100 - m.length)
theorem zx0 {α:Type} (l:List α) (a b:α):(l++[a]).set l.length b=l++[b]:=by
 induction l with
 | nil=>rfl
 | cons x l ih=>show x :: ((l++[a]).set l.length b)=_;rw [ih];rfl
noncomputable def zif (l:List Act):Bool:=decide (600 < l.length) || (l.take 150).any fun a=>zdl a.call.cmd
theorem zrn {l:List Act} (h:zif l=false):l.length≤600:=by
 unfold zif at h
 rw [Bool.or_eq_false_iff,decide_eq_false_iff_not] at h
 omega
set_option maxHeartbeats 8000000 in
theorem zxe (l:List Act) (hl:l.length≤maxLen):Ctr Tryz.prog 7 [.sl 17 (l.map Act.enc)] (bv (zif l)) []:=by
 have hml:(l.map Act.enc).length=l.length:=List.length_map ..
 have hl2:l.length≤9223372036854775807:=Nat.le_trans hl (by decide)
 by_cases h6:600 < l.length
 ·have e:zif l=true:=by unfold zif;rw [decide_eq_true h6];rfl
  rw [e]
  refine sBody Tryz.func7 ?_;conv=>whnf
  (refine tSp (fun h=>?_) (fun h=>?_)<;>conv=>whnf)
  ·exact zab rfl rfl
  ·exact absurd h (by rw [hml];omega)
 ·have e:zif l=((l.take 150).any fun a=>zdl a.call.cmd):=by unfold zif;rw [decide_eq_false h6];rfl
  rw [e]
  refine sBody Tryz.func7 ?_;conv=>whnf
  (refine tSp (fun h=>?_) (fun h=>?_)<;>conv=>whnf)
  ·exact absurd h (by rw [hml];omega)
  clear h
  refine zlk mixed (by kernel_rfl) (fun i:Nat=>i≤l.length∧i≤150∧((l.take i).any fun a=>zdl a.call.cmd)=false) (fun i=>[(3,iv i)]) (fun _=>[]) [] (fun i=>l.length - i) 0 ⟨Nat.zero_le _,Nat.zero_le _,rfl⟩ ?_ ?_
  ·conv=>whnf
   exact wkD
  rintro i ⟨hi,hi2,hno⟩
  conv=>whnf
  (refine tSp (fun h=>?_) (fun h=>?_)<;>conv=>whnf)
  ·have hlt:i < l.length:=by rw [hml] at h;omega
   clear h
   have kc:=zko (l[i]'hlt).call.cmd
   have hs:((l.take (i+1)).any fun a=>zdl a.call.cmd)=zdl (l[i]'hlt).call.cmd:=by
    rw [List.take_succ_eq_append_getElem hlt,List.any_append,hno]
    simp
   have hrow:=zbn (f:=Act.enc) hlt
   (refine tSp (fun h=>?_) (fun h=>?_)<;>conv=>whnf)
   ·have h150:i < 150:=by omega
    clear h
    refine ⟨by omega,_,hrow,?_⟩
    conv=>whnf
    cases hh:zdl (l[i]'hlt).call.cmd with
    | true =>
     rw [hh] at kc
     have ht:((l.take 150).any fun a=>zdl a.call.cmd)=true:=by
      rw [List.any_eq_true]
      refine ⟨l[i]'hlt,?_,hh⟩
      exact List.mem_take_iff_getElem.2 ⟨i,by omega,rfl⟩
     rw [ht]
     ((try (refine Exists.intro none ?_;conv=>whnf));(with_reducible refine zaa (kc) ?_);conv=>whnf)
     exact zab rfl rfl
    | false =>
     rw [hh] at kc hs
     ((try (refine Exists.intro none ?_;conv=>whnf));(with_reducible refine zaa (kc) ?_);conv=>whnf)
     refine ⟨i+1,⟨⟨by omega,by omega,hs⟩,by omega⟩,?_⟩
     conv=>whnf
     exact wkD
   ·have h150:i=150:=by omega
    subst h150
    rw [hno]
    exact zab rfl rfl
  ·have hge:i=l.length:=by rw [hml] at h;omega
   subst hge
   have ht:l.take 150=l.take l.length:=by rw [List.take_of_length_le (Nat.le_refl _),List.take_of_length_le hi2]
   rw [ht,hno]
   exact zab rfl rfl
theorem at_rft {s:Svn}{m:PV}{k n:Nat} (hk:k < 7) (hn:n=k * 40) {K:PV→Prop} (h:K (.ag (s.at k).enc)):dropK n (someV s m) (fun sfx=>ldK Tryz.prog 47 sfx K):=by
 subst hn
 rcases (by omega:k=0∨k=1∨k=2∨k=3∨k=4∨k=5∨k=6) with rfl | rfl | rfl | rfl | rfl | rfl | rfl<;>(conv=>whnf)<;>exact h
theorem zzy {m l:List (List PV)}{i:Nat} (hi:i < l.length) (h:m.length+i < 100):capM m (l.take (i+1))=capM m (l.take i)++[l[i]'hi]:=by
 unfold capM
 rw [List.take_take,List.take_take,Nat.min_eq_right (by omega),Nat.min_eq_right (by omega),List.append_assoc,List.take_succ_eq_append_getElem hi]
theorem cap_len {m l:List (List PV)}{i:Nat} (hi:i≤l.length) (h:m.length+i≤100):(capM m (l.take i)).length=m.length+i:=by
 unfold capM
 rw [List.length_append,List.length_take,List.length_take]
 omega
theorem zzp {m l:List (List PV)}{i:Nat} (hi:i≤l.length) (h:¬ m.length+i < 100) (h2:m.length+i≤100):capM m (l.take i)=capM m l:=by
 unfold capM
 rw [List.take_take,show min (100 - m.length) i=100 - m.length by omega]
theorem zhp {α:Type} (q:List α) (z:α):(q.take q.length++[z])[0+((q.length:Nat):Int).toNat]?=some z:=by
 rw [List.take_length,Nat.zero_add,Int.toNat_natCast];exact List.getElem?_concat_length
theorem zfq {α:Type} (q:List α) (z r:α):(q.take q.length++[z]).set (0+((q.length:Nat):Int).toNat) r=q++[r]:=by
 rw [List.take_length,Nat.zero_add,Int.toNat_natCast];exact zx0 q z r
theorem zf5 {α:Type} (q:List α) (z r:α):q.length+[z].length=(q++[r]).length:=by rw [List.length_append];rfl
set_option maxHeartbeats 8000000 in
theorem zp1 (s : Svn) (m : List (List PV)) (ys : List My) (hm : m.length ≤ 100) :
    CtrE Tryz.prog 38 [.pt 1000000 0,.sl 16 (ys.map My.enc)] [(1000000,someV s (.ow 1000000 0 m.length))] [(1000000,some (false,16,m))] (.tu [])
     [(1000000,someV s (.ow 1 0 (capM m (ys.map My.enc)).length))] [(1000000,none),(1,some (false,16,capM m (ys.map My.enc)))]:=by
 have hget:∀ (i:Nat) (hi:i < (ys.map My.enc).length),∃ y:My,(ys.map My.enc)[i]'hi=y.enc:=fun i hi=>⟨_,List.getElem_map ..⟩
 generalize hl:ys.map My.enc=l at *
 refine za1 Tryz.func38 ?_;conv=>whnf
 refine zww 1000000 1000 rfl rfl ?_
 conv=>whnf
 refine tFor (fun i:Nat=>i≤l.length∧m.length+i≤100) (fun i=>[(4,iv i)]) (fun i=>[(1000000,someV s (.ow 1000 0 (capM m (l.take i)).length))]) (fun i=>[(1000000,none),(1000,some (false,16,capM m (l.take i)))]) [(1000000,1000000),(1000,1000)] (fun i=>l.length - i) 0 ⟨Nat.zero_le _,by omega⟩ ?_ ?_
 ·have e0:capM m (l.take 0)=m:=by unfold capM;rw [List.take_zero,List.take_nil,List.append_nil]
  rw [e0]
  conv=>whnf
  exact wkD
 rintro i ⟨hi,hc⟩
 have hcl:=cap_len (m:=m) hi hc
 conv=>whnf
 (refine tSp (fun h=>?_) (fun h=>?_)<;>conv=>whnf)
 ·have hlt:i < l.length:=by omega
  clear h
  (refine tSp (fun h=>?_) (fun h=>?_)<;>conv=>whnf)
  ·have h2:m.length+i < 100:=by omega
   clear h
   have hsucc:=zzy (m:=m) hlt h2
   have hrow:l[((i:Nat):Int).toNat]?=some (l[i]'hlt):=by rw [Int.toNat_natCast,List.getElem?_eq_getElem hlt]
   have hb1:((capM m (l.take i)).length+1) * 176≤140737488355328:=by omega
   have hb2:(capM m (l.take i)).length+1≤maxLen:=zak (by omega)
   obtain ⟨y,hy⟩:=hget i hlt
   rw [hy] at hsucc hrow
   generalize capM m (l.take i)=q at *
   obtain ⟨kd,fr,tt,tm,ix,lt,cm,rd,ye,cf,bd⟩:=y
   cases bd with
   | no =>
    refine ⟨by omega,_,hrow,?_⟩
    conv=>whnf
    (refine And.intro rfl ?_;(conv=>whnf);refine And.intro (And.intro (And.intro (by kernel_rfl) (And.intro (Nat.le_refl _) (And.intro (hb1) (And.intro (hb2) (by intro r hr;rw [List.mem_singleton.1 hr];rfl))))) (And.intro (by decide) rfl)) ?_;conv=>whnf)
    refine ⟨⟨by omega,by simp only [List.length_cons,List.length_nil];omega⟩,?_⟩
    conv=>whnf
    refine ⟨_,zhp q _,?_⟩
    conv=>whnf
    refine ⟨i+1,[(1000000,1000000),(1000,464)],⟨⟨by omega,by omega⟩,by omega⟩,?_⟩
    rw [hsucc]
    conv=>whnf
    (refine wkx ?_;refine ⟨?_,?_,?_⟩<;>(conv=>whnf)<;>repeat' first | exact wkc | (with_reducible refine And.intro ?_ ?_)<;>first | exact wks | refine wko ?_ | refine wki ?_ | refine wkb ?_ | (refine zan ?_;conv=>whnf) | (refine zah ?_;conv=>whnf) | (refine zag ?_;conv=>whnf) | conv=>whnf)
    all_goals first | rfl | exact .inl rfl | exact w1 (by omega) | exact zf5 q _ _ | exact zaz (by kernel_rfl) (zfq q _ _) | trace_state
   | es el =>
    refine ⟨by omega,_,hrow,?_⟩
    conv=>whnf
    (refine And.intro rfl ?_;(conv=>whnf);refine And.intro (And.intro (And.intro (by kernel_rfl) (And.intro (Nat.le_refl _) (And.intro (hb1) (And.intro (hb2) (by intro r hr;rw [List.mem_singleton.1 hr];rfl))))) (And.intro (by decide) rfl)) ?_;conv=>whnf)
    refine ⟨⟨by omega,by simp only [List.length_cons,List.length_nil];omega⟩,?_⟩
    conv=>whnf
    refine ⟨_,zhp q _,?_⟩
    conv=>whnf
    refine ⟨i+1,[(1000000,1000000),(1000,464)],⟨⟨by omega,by omega⟩,by omega⟩,?_⟩
    rw [hsucc]
    conv=>whnf
    (refine wkx ?_;refine ⟨?_,?_,?_⟩<;>(conv=>whnf)<;>repeat' first | exact wkc | (with_reducible refine And.intro ?_ ?_)<;>first | exact wks | refine wko ?_ | refine wki ?_ | refine wkb ?_ | (refine zan ?_;conv=>whnf) | (refine zah ?_;conv=>whnf) | (refine zag ?_;conv=>whnf) | conv=>whnf)
    all_goals first | rfl | exact .inl rfl | exact w1 (by omega) | exact zf5 q _ _ | exact zaz (by kernel_rfl) (zfq q _ _) | trace_state
   | sn sl =>
    refine ⟨by omega,_,hrow,?_⟩
    conv=>whnf
    (refine And.intro rfl ?_;(conv=>whnf);refine And.intro (And.intro (And.intro (by kernel_rfl) (And.intro (Nat.le_refl _) (And.intro (hb1) (And.intro (hb2) (by intro r hr;rw [List.mem_singleton.1 hr];rfl))))) (And.intro (by decide) rfl)) ?_;conv=>whnf)
    refine ⟨⟨by omega,by simp only [List.length_cons,List.length_nil];omega⟩,?_⟩
    conv=>whnf
    refine ⟨_,zhp q _,?_⟩
    conv=>whnf
    refine ⟨i+1,[(1000000,1000000),(1000,464)],⟨⟨by omega,by omega⟩,by omega⟩,?_⟩
    rw [hsucc]
    conv=>whnf
    (refine wkx ?_;refine ⟨?_,?_,?_⟩<;>(conv=>whnf)<;>repeat' first | exact wkc | (with_reducible refine And.intro ?_ ?_)<;>first | exact wks | refine wko ?_ | refine wki ?_ | refine wkb ?_ | (refine zan ?_;conv=>whnf) | (refine zah ?_;conv=>whnf) | (refine zag ?_;conv=>whnf) | conv=>whnf)
    all_goals first | rfl | exact .inl rfl | exact w1 (by omega) | exact zf5 q _ _ | exact zaz (by kernel_rfl) (zfq q _ _) | trace_state
  ·have e:=zzp (m:=m) hi (show ¬ m.length+i < 100 by omega) hc
   rw [e]
   (refine zae [(1000000,1000000),(1,1000)] [] ?_;(conv=>whnf);exact wkD)
 ·have e:i=l.length:=by omega
  subst e
  rw [List.take_length]
  (refine zae [(1000000,1000000),(1,1000)] [] ?_;(conv=>whnf);exact wkD)
theorem zi5 (y:My):y.enc.all leaf1=true:=by
 obtain ⟨kd,fr,tt,tm,ix,lt,cm,rd,ye,cf,bd⟩:=y
 cases bd<;>rfl
set_option maxHeartbeats 8000000 in
theorem zpd (s : Svn) (ys : List My) (hm : ys.length ≤ 100) (k : Nat) (hk : k < ys.length) :
    CtrE Tryz.prog 39 [.pt 1000000 0,iv k] [(1000000,someV s (.ow 1000000 0 (ys.map My.enc).length))] [(1000000,some (false,16,ys.map My.enc))] (.ag (ys[k]'hk).enc)
     [(1000000,someV s (.ow 1 0 ((ys.eraseIdx k).map My.enc).length))] [(1000000,some (false,16,ys.map My.enc)),(1,some (false,16,(ys.eraseIdx k).map My.enc))]:=by
 have hrow:(ys.map My.enc)[0+((k:Nat):Int).toNat]?=some (ys[k]'hk).enc:=by
  rw [Nat.zero_add,Int.toNat_natCast,List.getElem?_map,List.getElem?_eq_getElem hk];rfl
 have hera:(ys.eraseIdx k).map My.enc=(ys.map My.enc).take k++(ys.map My.enc).drop (k+1):=by
  rw [List.eraseIdx_eq_take_drop_succ,List.map_append,List.map_take,List.map_drop]
 have hlen:(ys.map My.enc).length=ys.length:=List.length_map ..
 have ew:IntKind.i64.wrap ((k:Int)+1)=(k:Int)+1:=zal (by omega) (by omega)
 have hleaf:∀ r ∈ ys.map My.enc,r.all leaf1=true:=fun r hr=>by
  obtain ⟨y,_,rfl⟩:=List.mem_map.1 hr
  exact zi5 y
 have e1:∀ l:List (List PV),(l.drop (0+Int.toNat 0)).take (((k:Nat):Int).toNat - Int.toNat 0)=l.take k:=fun l=>rfl
 have e2:∀ l:List (List PV),(l.drop (0+((k:Int)+1).toNat)).take (((l.length:Nat):Int).toNat - ((k:Int)+1).toNat)=l.drop (k+1):=fun l=>by
  rw [show 0+((k:Int)+1).toNat=k+1 by omega]
  exact List.take_of_length_le (by rw [List.length_drop];omega)
 rw [hera]
 generalize hl:ys.map My.enc=l at *
 generalize ys[k]'hk=y at *
 obtain ⟨kd,fr,tt,tm,ix,lt,cm,rd,ye,cf,bd⟩:=y
 cases bd with
 | no =>
  refine za1 Tryz.func39 ?_;conv=>whnf
  refine ⟨⟨by omega,by omega⟩,?_⟩
  conv=>whnf
  refine ⟨_,hrow,?_⟩
  conv=>whnf
  refine ⟨⟨by omega,by omega,by omega⟩,?_⟩
  conv=>whnf
  refine ⟨⟨by kernel_rfl,by omega⟩,?_⟩
  conv=>whnf
  refine ⟨⟨⟨small (by rw [List.length_take,List.length_drop];omega) (by kernel_rfl),zak (by rw [List.length_take,List.length_drop];omega)⟩,rfl⟩,?_⟩
  conv=>whnf
  rw [ew]
  refine ⟨⟨by omega,by omega,by omega⟩,?_⟩
  conv=>whnf
  refine ⟨⟨by kernel_rfl,by omega⟩,?_⟩
  conv=>whnf
  refine ⟨⟨⟨by kernel_rfl,Nat.le_refl _,small (by rw [List.length_take,List.length_drop,List.length_take,List.length_drop];omega) (by kernel_rfl),zak (by rw [List.length_take,List.length_drop,List.length_take,List.length_drop];omega),fun r hr=>hleaf r (List.mem_of_mem_drop (List.mem_of_mem_take hr))⟩,by decide,rfl⟩,?_⟩
  conv=>whnf
  (refine zae [(1000000,1000000),(1,480)] [] ?_;(conv=>whnf);(refine wkx ?_;refine ⟨?_,?_,?_⟩<;>(conv=>whnf)<;>repeat' first | exact wkc | (with_reducible refine And.intro ?_ ?_)<;>first | exact wks | refine wko ?_ | refine wki ?_ | refine wkb ?_ | (refine zan ?_;conv=>whnf) | (refine zah ?_;conv=>whnf) | (refine zag ?_;conv=>whnf) | conv=>whnf))
  all_goals first | rfl | exact .inl rfl | (refine zaz (by kernel_rfl) ?_;rw [e1,e2,List.take_length];done) | (rw [e1,e2,List.length_append];done) | trace_state
 | es el =>
  refine za1 Tryz.func39 ?_;conv=>whnf
  refine ⟨⟨by omega,by omega⟩,?_⟩
  conv=>whnf
  refine ⟨_,hrow,?_⟩
  conv=>whnf
  refine ⟨⟨by omega,by omega,by omega⟩,?_⟩
  conv=>whnf
  refine ⟨⟨by kernel_rfl,by omega⟩,?_⟩
  conv=>whnf
  refine ⟨⟨⟨small (by rw [List.length_take,List.length_drop];omega) (by kernel_rfl),zak (by rw [List.length_take,List.length_drop];omega)⟩,rfl⟩,?_⟩
  conv=>whnf
  rw [ew]
  refine ⟨⟨by omega,by omega,by omega⟩,?_⟩
  conv=>whnf
  refine ⟨⟨by kernel_rfl,by omega⟩,?_⟩
  conv=>whnf
  refine ⟨⟨⟨by kernel_rfl,Nat.le_refl _,small (by rw [List.length_take,List.length_drop,List.length_take,List.length_drop];omega) (by kernel_rfl),zak (by rw [List.length_take,List.length_drop,List.length_take,List.length_drop];omega),fun r hr=>hleaf r (List.mem_of_mem_drop (List.mem_of_mem_take hr))⟩,by decide,rfl⟩,?_⟩
  conv=>whnf
  (refine zae [(1000000,1000000),(1,480)] [] ?_;(conv=>whnf);(refine wkx ?_;refine ⟨?_,?_,?_⟩<;>(conv=>whnf)<;>repeat' first | exact wkc | (with_reducible refine And.intro ?_ ?_)<;>first | exact wks | refine wko ?_ | refine wki ?_ | refine wkb ?_ | (refine zan ?_;conv=>whnf) | (refine zah ?_;conv=>whnf) | (refine zag ?_;conv=>whnf) | conv=>whnf))
  all_goals first | rfl | exact .inl rfl | (refine zaz (by kernel_rfl) ?_;rw [e1,e2,List.take_length];done) | (rw [e1,e2,List.length_append];done) | trace_state
 | sn sl =>
  refine za1 Tryz.func39 ?_;conv=>whnf
  refine ⟨⟨by omega,by omega⟩,?_⟩
  conv=>whnf
  refine ⟨_,hrow,?_⟩
  conv=>whnf
  refine ⟨⟨by omega,by omega,by omega⟩,?_⟩
  conv=>whnf
  refine ⟨⟨by kernel_rfl,by omega⟩,?_⟩
  conv=>whnf
  refine ⟨⟨⟨small (by rw [List.length_take,List.length_drop];omega) (by kernel_rfl),zak (by rw [List.length_take,List.length_drop];omega)⟩,rfl⟩,?_⟩
  conv=>whnf
  rw [ew]
  refine ⟨⟨by omega,by omega,by omega⟩,?_⟩
  conv=>whnf
  refine ⟨⟨by kernel_rfl,by omega⟩,?_⟩
  conv=>whnf
  refine ⟨⟨⟨by kernel_rfl,Nat.le_refl _,small (by rw [List.length_take,List.length_drop,List.length_take,List.length_drop];omega) (by kernel_rfl),zak (by rw [List.length_take,List.length_drop,List.length_take,List.length_drop];omega),fun r hr=>hleaf r (List.mem_of_mem_drop (List.mem_of_mem_take hr))⟩,by decide,rfl⟩,?_⟩
  conv=>whnf
  (refine zae [(1000000,1000000),(1,480)] [] ?_;(conv=>whnf);(refine wkx ?_;refine ⟨?_,?_,?_⟩<;>(conv=>whnf)<;>repeat' first | exact wkc | (with_reducible refine And.intro ?_ ?_)<;>first | exact wks | refine wko ?_ | refine wki ?_ | refine wkb ?_ | (refine zan ?_;conv=>whnf) | (refine zah ?_;conv=>whnf) | (refine zag ?_;conv=>whnf) | conv=>whnf))
  all_goals first | rfl | exact .inl rfl | (refine zaz (by kernel_rfl) ?_;rw [e1,e2,List.take_length];done) | (rw [e1,e2,List.length_append];done) | trace_state
theorem zht (n:Int) {m:Nat} (hm:0 < m) (hm2:m≤4294967296):∃ k:Nat,k < m∧IntKind.i64.wrap ((IntKind.u64.wrap n).tmod (IntKind.u64.wrap (m:Int)))=(k:Int):=by
 have g0:=zeq n
 rw [zb4 (n:=(m:Int)) (by omega) (by omega),Int.tmod_eq_emod_of_nonneg g0]
 have g1:=Int.emod_nonneg (IntKind.u64.wrap n) (show (m:Int) ≠ 0 by omega)
 have g2:=Int.emod_lt_of_pos (IntKind.u64.wrap n) (show (0:Int) < m by omega)
 refine ⟨(IntKind.u64.wrap n % (m:Int)).toNat,by omega,?_⟩
 rw [zal (by omega) (by omega)];omega
set_option maxHeartbeats 4000000 in
theorem zzf (r:Rft) (a:Act) (hm:r.hard.log.length≤maxLen) (hk:Cok (zac r)):∃ c:Conf,Ctr Tryz.prog 101 [.ag r.enc,.ag a.enc] (.ag c.enc) []:=by
 have kc:=zb7 r hm
 have ks:=zq4 (zac r) hk
 have hsl:=zf0 (zac r) 7
 have hml:((zb2 (zac r) 7).map Conf.enc).length=(zb2 (zac r) 7).length:=List.length_map ..
 generalize hl:zb2 (zac r) 7=l at *
 by_cases h5:a.n.tmod 5=0
 ·refine ⟨a.conf,?_⟩
  refine sBody Tryz.func101 ?_;conv=>whnf
  ((try (refine Exists.intro none ?_;conv=>whnf));(with_reducible refine zaa (kc) ?_);conv=>whnf)
  ((try (refine Exists.intro none ?_;conv=>whnf));(with_reducible refine zaa (ks) ?_);conv=>whnf)
  (refine Exists.intro _ (And.intro rfl (And.intro (by intro q hq;first | (cases hq;done) | (simp only [List.mem_cons,List.not_mem_nil,or_false] at hq;rcases hq with rfl | rfl<;>(simp only [List.length_cons,List.length_nil];omega)) | (simp only [List.mem_cons,List.not_mem_nil,or_false] at hq;subst hq;simp only [List.length_cons,List.length_nil];omega)) (And.intro (by intro i hi;simp only [List.length_cons,List.length_nil,Nat.lt_one_iff,Nat.zero_add] at hi;subst hi;rfl) ?_)));conv=>whnf)
  refine ⟨⟨by decide,by decide⟩,?_⟩
  conv=>whnf
  (first | refine tYes ?_ | refine tNo ?_)
  conv=>whnf
  exact zab rfl rfl
 ·by_cases h0:l.length=0
  ·refine ⟨a.conf,?_⟩
   refine sBody Tryz.func101 ?_;conv=>whnf
   ((try (refine Exists.intro none ?_;conv=>whnf));(with_reducible refine zaa (kc) ?_);conv=>whnf)
   ((try (refine Exists.intro none ?_;conv=>whnf));(with_reducible refine zaa (ks) ?_);conv=>whnf)
   (refine Exists.intro _ (And.intro rfl (And.intro (by intro q hq;first | (cases hq;done) | (simp only [List.mem_cons,List.not_mem_nil,or_false] at hq;rcases hq with rfl | rfl<;>(simp only [List.length_cons,List.length_nil];omega)) | (simp only [List.mem_cons,List.not_mem_nil,or_false] at hq;subst hq;simp only [List.length_cons,List.length_nil];omega)) (And.intro (by intro i hi;simp only [List.length_cons,List.length_nil,Nat.lt_one_iff,Nat.zero_add] at hi;subst hi;rfl) ?_)));conv=>whnf)
   refine ⟨⟨by decide,by decide⟩,?_⟩
   conv=>whnf
   (first | refine tYes ?_ | refine tNo ?_)
   conv=>whnf
   rw [hml]
   (refine tSp (fun h=>?_) (fun h=>?_)<;>conv=>whnf)
   ·exact zab rfl rfl
   ·exact absurd (show ((l.length:Nat):Int)=0 by omega) (by first | exact h | (rw [hml] at h;exact h))
  ·obtain ⟨k,hkl,ek⟩:=zht a.n (m:=l.length) (by omega) (by omega)
   refine ⟨l[k]'hkl,?_⟩
   have hn0:¬ IntKind.u64.wrap ((l.map Conf.enc).length:Int)=0:=by
    rw [hml,zb4 (by omega) (by omega)];omega
   rw [← hml] at ek
   have hrow:(l.map Conf.enc)[0+((k:Nat):Int).toNat]?=some (l[k]'hkl).enc:=by
    rw [Nat.zero_add,Int.toNat_natCast,List.getElem?_map,List.getElem?_eq_getElem hkl];rfl
   generalize l[k]'hkl=c at *
   refine sBody Tryz.func101 ?_;conv=>whnf
   ((try (refine Exists.intro none ?_;conv=>whnf));(with_reducible refine zaa (kc) ?_);conv=>whnf)
   ((try (refine Exists.intro none ?_;conv=>whnf));(with_reducible refine zaa (ks) ?_);conv=>whnf)
   (refine Exists.intro _ (And.intro rfl (And.intro (by intro q hq;first | (cases hq;done) | (simp only [List.mem_cons,List.not_mem_nil,or_false] at hq;rcases hq with rfl | rfl<;>(simp only [List.length_cons,List.length_nil];omega)) | (simp only [List.mem_cons,List.not_mem_nil,or_false] at hq;subst hq;simp only [List.length_cons,List.length_nil];omega)) (And.intro (by intro i hi;simp only [List.length_cons,List.length_nil,Nat.lt_one_iff,Nat.zero_add] at hi;subst hi;rfl) ?_)));conv=>whnf)
   refine ⟨⟨by decide,by decide⟩,?_⟩
   conv=>whnf
   (first | refine tYes ?_ | refine tNo ?_)
   conv=>whnf
   (refine tSp (fun h=>?_) (fun h=>?_)<;>conv=>whnf)
   ·exact absurd h (by first | (rw [hml];omega) | omega)
   ·refine ⟨⟨hn0,by decide⟩,?_⟩
    conv=>whnf
    rw [ek]
    refine ⟨⟨by omega,by omega⟩,?_⟩
    conv=>whnf
    refine ⟨_,hrow,?_⟩
    conv=>whnf
    exact zab rfl rfl
end Go.Proofs
