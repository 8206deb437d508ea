import Derived.Test.YtbhfokahocgndabGreatQ3
import Derived.Test.YtbhfokahocgndabGreatQ6
import Derived.Test.YtbhfokahocgndabGreatQ7
import Derived.Test.YtbhfokahocgndabGreatS1
import Derived.Test.YtbhfokahocgndabGreatS19
import Derived.Test.YtbhfokahocgndabGreatPvQ3
import Derived.Test.YtbhfokahocgndabGreatC57
import Derived.Test.YtbhfokahocgndabGreatC12
import Derived.Test.YtbhfokahocgndabGreatH8
import Derived.Test.YtbhfokahocgndabGreatI8
/- Plain law: what the replicas of a play keep, what they send. -/
set_option linter.unusedSimpArgs false
set_option linter.unusedVariables false
set_option maxHeartbeats 8000000
namespace Go.Proofs
open Go.Pv
set_option maxRecDepth 100000
inductive Bd where
 | no:Bd
 | es:List Ent→Bd
 | sn:List Int→Bd
abbrev Bd.ents:Bd→List Ent
 | .no=>[]
 | .es l=>l
 | .sn _=>[]
abbrev Bd.snp:Bd→List Int
 | .no=>[]
 | .es _=>[]
 | .sn l=>l
abbrev Bd.ev:Bd→PV
 | .no=>.nl
 | .es l=>.sl 16 (l.map Ent.enc)
 | .sn _=>.nl
abbrev Bd.sv:Bd→PV
 | .no=>.nl
 | .es _=>.nl
 | .sn l=>.sl 1 (l.map encB)
structure My where
 kind:Int
 frm:Int
 to:Int
 term:Int
 index:Int
 logT:Int
 commit:Int
 round:Int
 yes:Bool
 cf:Conf
 bd:Bd
abbrev My.enc (x:My):List PV:=msgV x.kind x.frm x.to x.term x.index x.logT x.commit x.round x.yes x.bd.ev x.cf x.bd.sv
abbrev My.mg (x:My):Mg:=⟨x.kind,x.frm,x.to,x.term,x.index,x.logT,x.commit,x.round,x.yes,x.bd.ents,x.cf,x.bd.snp,[]⟩
structure MyOk (n:Nat) (x:My):Prop where
 es:x.bd.ents.length≤8
 sn:x.bd.snp.length≤1
 ix:x.kind=7→x.index≤2000 * (n:Int)
 tor:0≤x.to∧x.to < 7
theorem MyOk.mono {n k:Nat}{x:My} (h:MyOk n x) (hk:n≤k):MyOk k x:=⟨h.es,h.sn,fun e=>by have:=h.ix e;omega,h.tor⟩
structure Sent (n:Nat) (R:Rft) (x:My):Prop where
 ok:MyOk n x
 frm:x.frm=R.id
 to:x.to ≠ R.id
 term:x.kind ≠ 1→x.kind ≠ 2→x.term=R.hard.term
def RowsY (k n:Nat) (R:Rft) (O:List (List PV)):Prop:=∃ L:List My,O=L.map My.enc∧(∀ x ∈ L,Sent n R x)∧L.length≤k
theorem zbc {k n:Nat}{R:Rft}:RowsY k n R []:=⟨[],rfl,fun x h=>absurd h (List.not_mem_nil),Nat.zero_le _⟩
theorem zd7 {k n:Nat}{R:Rft} (x:My) (h:Sent n R x):RowsY (k+1) n R [x.enc]:=⟨[x],rfl,fun y hy=>by rw [List.mem_singleton.1 hy];exact h,Nat.succ_le_succ (Nat.zero_le _)⟩
theorem RowsY.le {k j n:Nat}{R:Rft}{O:List (List PV)} (h:RowsY k n R O) (hj:k≤j):RowsY j n R O:=by
 obtain ⟨L,e,h,hl⟩:=h
 exact ⟨L,e,h,by omega⟩
theorem RowsY.app {k j n:Nat}{R:Rft}{O P:List (List PV)} (h:RowsY k n R O) (g:RowsY j n R P):RowsY (k+j) n R (O++P):=by
 obtain ⟨L,e,h,hl⟩:=h
 obtain ⟨K,f,g,gl⟩:=g
 refine ⟨L++K,by rw [List.map_append,e,f],fun x hx=>?_,by rw [List.length_append];omega⟩
 rcases List.mem_append.1 hx with hx | hx
 ·exact h x hx
 ·exact g x hx
theorem zu5 {n:Nat}{R:Rft}{f:Int→List PV} (l:List Int) (hl:l.length≤7) (h:∀ a ∈ l,∃ x:My,f a=x.enc∧Sent n R x):RowsY 7 n R (l.map f):=by
 have key:∃ L:List My,l.map f=L.map My.enc∧(∀ x ∈ L,Sent n R x)∧L.length=l.length:=by
  clear hl
  induction l with
  | nil=>exact ⟨[],rfl,fun x h=>absurd h (List.not_mem_nil),rfl⟩
  | cons a l ih =>
   obtain ⟨x,e,hx⟩:=h a (List.mem_cons_self ..)
   obtain ⟨L,eL,hL,hn⟩:=ih fun b hb=>h b (List.mem_cons_of_mem _ hb)
   refine ⟨x :: L,by rw [List.map_cons,List.map_cons,e,eL],fun y hy=>?_,by rw [List.length_cons,List.length_cons,hn]⟩
   rcases List.mem_cons.1 hy with rfl | hy
   ·exact hx
   ·exact hL y hy
 obtain ⟨L,e,hL,hn⟩:=key
 exact ⟨L,e,hL,by omega⟩
theorem zr3 {id bits:Int}{n:Nat}{v:Int} (h:v ∈ othN id bits n):v ≠ id:=by
 unfold othN at h
 obtain ⟨k,hk,rfl⟩:=List.mem_map.1 h
 have h2:=(List.mem_filter.1 hk).2
 rw [Bool.and_eq_true,decide_eq_true_eq] at h2
 exact h2.1
structure Rp (n:Nat) (i:Int) (r:Rft):Prop where
 rgt:Rgt r
 id:r.id=i
 led:2≤r.role→1≤r.hard.term
 log:r.hard.log.length≤8 * n
 base:r.hard.base≤2000 * (n:Int)
 snap:r.hard.snap.length≤1
theorem Rp.last {n:Nat}{i:Int}{r:Rft} (h:Rp n i r) (hn:n≤200):lastI r.hard=r.hard.base+r.hard.log.length:=zd9 h.rgt.hard (by have:=h.log;omega)
theorem Rp.lastB {n:Nat}{i:Int}{r:Rft} (h:Rp n i r) (hn:n≤200):lastI r.hard < 1099511627776:=by
 rw [h.last hn];have:=h.log;have:=h.base;omega
theorem Rp.mono {n k:Nat}{i:Int}{r:Rft} (h:Rp n i r) (hk:n≤k):Rp k i r:=⟨h.rgt,h.id,h.led,by have:=h.log;omega,by have:=h.base;omega,h.snap⟩
structure Up (r R:Rft):Prop where
 id:R.id=r.id
 term:r.hard.term≤R.hard.term
 com:r.commit≤R.commit
 vote:R.hard.term=r.hard.term→r.hard.vote=-1∨R.hard.vote=r.hard.vote
theorem Up.refl (r:Rft):Up r r:=⟨rfl,Int.le_refl _,Int.le_refl _,fun _=>.inr rfl⟩
theorem Up.trans {r x R:Rft} (h:Up r x) (g:Up x R):Up r R:=by
 refine ⟨g.id.trans h.id,Int.le_trans h.term g.term,Int.le_trans h.com g.com,fun e=>?_⟩
 have h1:=h.term
 have h2:=g.term
 rcases h.vote (by omega) with a | a
 ·exact .inl a
 ·rcases g.vote (by omega) with b | b
  ·exact .inl (by rw [← a];exact b)
  ·exact .inr (b.trans a)
theorem zkv {n:Nat}{i:Int}{R:Rft} (h:Rp n i R) (hn:n≤200):RowsY 7 n R ((allL R).map (zar R)):=by
 refine zu5 _ (zc5 ..) fun v hv=>?_
 have hr:=zfl hv
 have hne:=zr3 hv
 unfold zar
 split
 ·exact ⟨⟨7,R.id,v,R.hard.term,R.hard.base,R.hard.baseTerm,R.commit,R.round,false,R.hard.baseConf,.sn R.hard.snap⟩,rfl,⟨Nat.zero_le _,h.snap,fun _=>h.base,hr⟩,rfl,hne,fun _ _=>rfl⟩
 ·rename_i hlt
  refine ⟨⟨5,R.id,v,R.hard.term,feedP R.hard (R.next.at v.toNat),zau R.hard (feedP R.hard (R.next.at v.toNat)),R.commit,R.round,false,cz,.es (feedL R.hard (R.next.at v.toNat))⟩,rfl,⟨?_,Nat.zero_le _,fun e=>absurd e (by show ¬ (5:Int)=7;decide),hr⟩,rfl,hne,fun _ _=>rfl⟩
  obtain ⟨q,_,_,e,_⟩:=zzw h.rgt.hard (by have:=h.log;omega) (Int.not_le.1 hlt)
  show (feedL R.hard (R.next.at v.toNat)).length≤8
  rw [e,List.length_take];omega
theorem ztk {n:Nat} (R:Rft) (k t:Int) (hk:k ≠ 7) (ht:k ≠ 1→t=R.hard.term):RowsY 7 n R ((votL R).map (askM R k t)):=by
 refine zu5 _ (zc5 ..) fun v hv=>?_
 have hr:=zfl hv
 have hne:=zr3 hv
 exact ⟨⟨k,R.id,v,t,lastI R.hard,lastT R.hard,0,0,false,cz,.no⟩,rfl,⟨Nat.zero_le _,Nat.zero_le _,fun e=>absurd e hk,hr⟩,rfl,hne,fun a _=>ht a⟩
structure Stp (n:Nat) (r R:Rft) (O:List (List PV)):Prop where
 rp:Rp (n+1) r.id R
 up:Up r R
 rows:RowsY 8 (n+1) R O
theorem zi3 {r:Rft}{t:Int} (ht:r.hard.term≤t) (l:Int):Up r (fallR r t l):=by
 refine ⟨rfl,?_,Int.le_refl _,?_⟩
 ·unfold fallR
  split
  ·exact ht
  ·exact Int.le_refl _
 ·unfold fallR
  split
  ·rename_i h
   intro e
   have e:t=r.hard.term:=e
   omega
  ·exact fun _=>.inr rfl
theorem zog {n:Nat}{i:Int}{r:Rft} (h:Rp n i r) {t l:Int} (ht:r.hard.term≤t∧t≤1099511627776) (hl:-1≤l∧l < 7):Rp n i (fallR r t l) :=
 ⟨zvj h.rgt ht hl,by rw [fall_id];exact h.id,fun e=>absurd e (by rw [zgd];decide),by rw [zce];exact h.log,by rw [zks];exact h.base,by rw [zdh];exact h.snap⟩
theorem Rp.termB {n:Nat}{i:Int}{r:Rft} (h:Rp n i r):0≤r.hard.term∧r.hard.term≤1099511627776:=(zaq h.rgt.hard).1.t
theorem zrn {n:Nat}{i:Int}{r:Rft} (h:Rp n i r) (hn:n≤200) (h1:1≤r.hard.term):Rp (n+1) i (leadR r) :=
 ⟨zwp h.rgt (by have:=h.log;omega) h1 (h.lastB hn),h.id,fun _=>h1,by rw [zoz,List.length_append];have:=h.log;show r.hard.log.length+1≤_;omega,by have:=h.base;show r.hard.base≤_;omega,h.snap⟩
theorem z0v (r:Rft):Up r (leadR r):=⟨rfl,Int.le_refl _,by show r.commit≤zc9 _ _ _;exact zn7 _,fun _=>.inr rfl⟩
theorem std_rp {n:Nat}{i:Int}{r:Rft} (h:Rp n i r) (ht:r.hard.term < 1099511627776) (hr:r.reads=[]):Rp n i (stdR r) :=
 ⟨z04 h.rgt ht hr,h.id,fun _=>by have:=h.termB;show 1≤r.hard.term+1;omega,h.log,h.base,h.snap⟩
theorem std_up (r:Rft):Up r (stdR r):=⟨rfl,by show r.hard.term≤r.hard.term+1;omega,Int.le_refl _,fun e=>by have e:r.hard.term+1=r.hard.term:=e;omega⟩
theorem zli {n:Nat}{i:Int}{r:Rft} (h:Rp n i r) (hn:n≤199) (hr:r.reads=[]):Rp (n+1) i (ze2 r)∧Up r (ze2 r)∧RowsY 7 (n+1) (ze2 r) (zf6 r):=by
 unfold ze2 zf6
 by_cases ht:r.hard.term=1099511627776
 ·rw [if_pos ht,if_pos ht]
  exact ⟨(zog h (by omega) (by decide)).mono (Nat.le_succ n),zi3 (Int.le_refl _) _,zbc⟩
 ·rw [if_neg ht,if_neg ht]
  have hs:=std_rp h (by have:=h.termB;omega) hr
  by_cases hq:zak (zab (stdR r)) (shl 1 r.id)=true
  ·rw [if_pos hq,if_pos hq]
   have hl:=zrn hs (by omega) (by have:=h.termB;show 1≤r.hard.term+1;omega)
   exact ⟨hl,(std_up r).trans (z0v _),zkv hl (by omega)⟩
  ·rw [if_neg hq,if_neg hq]
   exact ⟨hs.mono (Nat.le_succ n),std_up r,ztk _ 3 _ (by decide) fun _=>rfl⟩
theorem z4u {n:Nat}{r:Rft} (h:Rp n r.id r) (hn:n≤199) (hro:r.role ≠ 3):Stp n r (tickR r) (tickO r):=by
 have hnr:=zfj h.rgt hro
 have hta:Rp n r.id (taR r):=⟨zta h.rgt hro,rfl,fun e=>absurd e (by show ¬ (2:Int)≤1;decide),h.log,h.base,h.snap⟩
 have hua:Up r (taR r):=⟨rfl,Int.le_refl _,Int.le_refl _,fun _=>.inr rfl⟩
 unfold tickR tickO
 by_cases h1:zbx r=false
 ·rw [if_pos h1,if_pos h1]
  exact ⟨⟨zoi h.rgt,rfl,h.led,by have:=h.log;show r.hard.log.length≤_;omega,by have:=h.base;show r.hard.base≤_;omega,h.snap⟩,⟨rfl,Int.le_refl _,Int.le_refl _,fun _=>.inr rfl⟩,zbc⟩
 rw [if_neg h1,if_neg h1]
 by_cases h2:0 < zeroM (r.wait - 1)
 ·rw [if_pos h2,if_pos h2]
  exact ⟨⟨z22 h.rgt,rfl,h.led,by have:=h.log;show r.hard.log.length≤_;omega,by have:=h.base;show r.hard.base≤_;omega,h.snap⟩,⟨rfl,Int.le_refl _,Int.le_refl _,fun _=>.inr rfl⟩,zbc⟩
 rw [if_neg h2,if_neg h2]
 by_cases h3:zak (zab (taR r)) (shl 1 r.id)=true
 ·rw [if_pos h3,if_pos h3]
  obtain ⟨a,b,c⟩:=zli hta hn hnr
  exact ⟨a,hua.trans b,c.le (by decide)⟩
 ·rw [if_neg h3,if_neg h3]
  refine ⟨hta.mono (Nat.le_succ n),hua,?_⟩
  split
  ·exact (ztk (taR r) 1 _ (by decide) fun e=>absurd rfl e).le (by decide)
  ·exact zbc
theorem zw5 {r:Rft} (h:Rgt r):Rgt (beatR r):=by
 have hR:=h.round
 exact ⟨h.hard,h.id,h.com,h.role,h.lead,h.wait,h.quiet,zj2 (by omega),h.votes,h.next,h.mtch,zg1 h.silent fun v hv=>zfl hv,h.reads,h.own⟩
theorem z28 {n:Nat}{r:Rft} (h:Rp n r.id r) (hn:n≤199):Stp n r (beatF r) (beatO r):=by
 have hb:Rp n r.id (beatR r):=⟨zw5 h.rgt,rfl,h.led,h.log,h.base,h.snap⟩
 have hu:Up r (beatR r):=⟨rfl,Int.le_refl _,Int.le_refl _,fun _=>.inr rfl⟩
 have hT:=h.termB
 unfold beatF beatO
 by_cases hg:goB r=true
 ·rw [if_pos hg,if_pos hg]
  refine ⟨hb.mono (Nat.le_succ n),hu,RowsY.app (k:=7) (j:=1) (zkv (hb.mono (Nat.le_succ n)) (by omega)) ?_⟩
  unfold nowO
  split
  ·unfold nowL
   split
   ·rename_i v hv
    have hm:=List.mem_of_find?_eq_some hv
    exact zd7 (k:=0) ⟨8,(beatR r).id,v,r.hard.term,0,0,0,0,false,cz,.no⟩ ⟨⟨Nat.zero_le _,Nat.zero_le _,fun e=>absurd e (by show ¬ (8:Int)=7;decide),zfl hm⟩,rfl,zr3 hm,fun _ _=>rfl⟩
   ·exact zbc
  ·exact zbc
 ·rw [if_neg hg,if_neg hg]
  exact ⟨(zog hb (by show r.hard.term≤r.hard.term∧_;omega) (by decide)).mono (Nat.le_succ n),hu.trans (zi3 (Int.le_refl _) _),zbc⟩
noncomputable def tkX (r:Rft) (m:Mg):Rft:=if r.hard.term < m.term then fallR r m.term (-1) else r
inductive TK (r:Rft) (m:Mg):Rft→List (List PV)→Int→Prop where
 | asked (h:m.kind=1):TK r m r (zij r m) 0
 | old (h:¬ m.kind=1) (ht:m.term < r.hard.term):TK r m r (zhb r m) 0
 | no (h:m.kind=2∨m.kind=4) (hy:m.yes=false) (ht:¬ m.term < r.hard.term):TK r m (tkX r m) [] 0
 | k2 (h:m.kind=2) (hy:m.yes=true) (ht:¬ m.term < r.hard.term):TK r m (k2R r m) (k2O r m) 0
 | k3 (h:m.kind=3) (ht:¬ m.term < r.hard.term):TK r m (k3R (tkX r m) m) (k3O (tkX r m) m) 0
 | k4 (h:m.kind=4) (hy:m.yes=true) (ht:¬ m.term < r.hard.term):TK r m (k4R (tkX r m) m) (k4O (tkX r m) m) 0
 | app (h:m.kind=5) (ht:¬ m.term < r.hard.term):TK r m (appR (tkX r m) m) (appO (tkX r m) m) (appE (tkX r m) m)
 | lrn (h:m.kind=6) (ht:¬ m.term < r.hard.term):TK r m (zb8 (tkX r m) m) [] 0
 | ins (h:m.kind=7) (ht:¬ m.term < r.hard.term):TK r m (insR (tkX r m) m) (insO (tkX r m) m) (insE (tkX r m) m)
 | k8 (h:m.kind=8) (ht:¬ m.term < r.hard.term):TK r m (k8R (tkX r m) m) (k8O (tkX r m) m) 0
theorem tk_ex (r:Rft) (m:Mg) (hk:1≤m.kind∧m.kind≤8):∃ R O E,TK r m R O E:=by
 by_cases h1:m.kind=1
 ·exact ⟨_,_,_,.asked h1⟩
 by_cases ht:m.term < r.hard.term
 ·exact ⟨_,_,_,.old h1 ht⟩
 rcases (by omega:m.kind=2∨m.kind=3∨m.kind=4∨m.kind=5∨m.kind=6∨m.kind=7∨m.kind=8) with h | h | h | h | h | h | h
 ·cases hy:m.yes with
  | false=>exact ⟨_,_,_,.no (.inl h) hy ht⟩
  | true=>exact ⟨_,_,_,.k2 h hy ht⟩
 ·exact ⟨_,_,_,.k3 h ht⟩
 ·cases hy:m.yes with
  | false=>exact ⟨_,_,_,.no (.inr h) hy ht⟩
  | true=>exact ⟨_,_,_,.k4 h hy ht⟩
 ·exact ⟨_,_,_,.app h ht⟩
 ·exact ⟨_,_,_,.lrn h ht⟩
 ·exact ⟨_,_,_,.ins h ht⟩
 ·exact ⟨_,_,_,.k8 h ht⟩
theorem tkx_rp {n:Nat}{i:Int}{r:Rft} (h:Rp n i r) {m:Mg} (hM:RightM r m):Rp n i (tkX r m):=by
 unfold tkX
 split
 ·exact zog h (by have:=hM.term;omega) (by decide)
 ·exact h
theorem zye (r:Rft) (m:Mg):Up r (tkX r m):=by
 unfold tkX
 split
 ·exact zi3 (by omega) _
 ·exact Up.refl r
theorem zzn (r:Rft) (m:Mg):(tkX r m).id=r.id:=(zye r m).id
theorem zj5 {r:Rft}{m:Mg} (ht:¬ m.term < r.hard.term):(tkX r m).hard.term=m.term:=by
 unfold tkX
 split
 ·rename_i h;exact zbb h _
 ·omega
theorem vt_rp {n:Nat}{i:Int}{x:Rft} (h:Rp n i x) {m:Mg} (hf:0≤m.frm∧m.frm < 7):Rp n i (vtR x m):=⟨z3j h.rgt hf,h.id,h.led,h.log,h.base,h.snap⟩
theorem vt_up (x:Rft) (m:Mg):Up x (vtR x m):=⟨rfl,Int.le_refl _,Int.le_refl _,fun _=>.inr rfl⟩
theorem k2_stp {n:Nat}{i:Int}{x:Rft} (h:Rp n i x) (hn:n≤199) {m:Mg} (hf:0≤m.frm∧m.frm < 7):Rp (n+1) i (k2R x m)∧Up x (k2R x m)∧RowsY 7 (n+1) (k2R x m) (k2O x m):=by
 unfold k2R k2O
 by_cases h1:x.role=1
 ·rw [if_pos h1,if_pos h1]
  by_cases h2:m.term=x.hard.term+1
  ·rw [if_pos h2,if_pos h2]
   by_cases h3:zak (zab (vtR x m)) (vtR x m).votes=true
   ·rw [if_pos h3,if_pos h3]
    obtain ⟨a,b,c⟩:=zli (vt_rp h hf) hn (show x.reads=[] from zfj h.rgt (by omega))
    exact ⟨a,(vt_up x m).trans b,c⟩
   ·rw [if_neg h3,if_neg h3]
    exact ⟨(vt_rp h hf).mono (Nat.le_succ n),vt_up x m,zbc⟩
  ·rw [if_neg h2,if_neg h2]
   exact ⟨h.mono (Nat.le_succ n),Up.refl x,zbc⟩
 ·rw [if_neg h1,if_neg h1]
  exact ⟨h.mono (Nat.le_succ n),Up.refl x,zbc⟩
theorem k3_stp {n:Nat}{i:Int}{x:Rft} (h:Rp n i x) {m:Mg} (hf:0≤m.frm∧m.frm < 7) (hne:m.frm ≠ x.id):Rp (n+1) i (k3R x m)∧Up x (k3R x m)∧RowsY 7 (n+1) (k3R x m) (k3O x m):=by
 unfold k3R k3O
 by_cases hv:voted x m=true
 ·rw [if_pos hv,if_pos hv]
  have hT:=h.termB
  have hd:Rp n i (vdR x m):=⟨⟨zku h.rgt.hard (t:=x.hard.term) (by omega) (by omega),h.rgt.id,h.rgt.com,h.rgt.role,h.rgt.lead,h.rgt.wait,h.rgt.quiet,h.rgt.round,h.rgt.votes,h.rgt.next,h.rgt.mtch,h.rgt.silent,h.rgt.reads,h.rgt.own⟩,h.id,h.led,h.log,h.base,h.snap⟩
  have hx:=zog hd (t:=x.hard.term) (l:=-1) (by show x.hard.term≤x.hard.term∧_;omega) (by decide)
  have hvu:Up x (vdR x m):=by
   refine ⟨rfl,Int.le_refl _,Int.le_refl _,fun _=>?_⟩
   unfold voted at hv
   simp only [Bool.and_eq_true,Bool.or_eq_true,beq_iff_eq] at hv
   rcases hv.2.1 with e | e
   ·exact .inl e
   ·exact .inr e.symm
  refine ⟨hx.mono (Nat.le_succ n),hvu.trans (zi3 (Int.le_refl _) _),zd7 (k:=6) ⟨4,_,m.frm,_,0,0,0,0,true,cz,.no⟩ ⟨⟨Nat.zero_le _,Nat.zero_le _,fun e=>absurd e (by show ¬ (4:Int)=7;decide),hf⟩,rfl,hne,fun _ _=>rfl⟩⟩
 ·rw [if_neg hv,if_neg hv]
  exact ⟨h.mono (Nat.le_succ n),Up.refl x,zd7 (k:=6) ⟨4,_,m.frm,_,0,0,0,0,false,cz,.no⟩ ⟨⟨Nat.zero_le _,Nat.zero_le _,fun e=>absurd e (by show ¬ (4:Int)=7;decide),hf⟩,rfl,hne,fun _ _=>rfl⟩⟩
theorem k4_stp {n:Nat}{i:Int}{x:Rft} (h:Rp n i x) (hn:n≤199) {m:Mg} (hf:0≤m.frm∧m.frm < 7):Rp (n+1) i (k4R x m)∧Up x (k4R x m)∧RowsY 7 (n+1) (k4R x m) (k4O x m):=by
 unfold k4R k4O
 by_cases h1:x.role=2
 ·rw [if_pos h1,if_pos h1]
  by_cases h3:zak (zab (vtR x m)) (vtR x m).votes=true
  ·rw [if_pos h3,if_pos h3]
   have hl:=zrn (vt_rp h hf) (by omega) (h.led (by omega))
   exact ⟨hl,(vt_up x m).trans (z0v _),zkv hl (by omega)⟩
  ·rw [if_neg h3,if_neg h3]
   exact ⟨(vt_rp h hf).mono (Nat.le_succ n),vt_up x m,zbc⟩
 ·rw [if_neg h1,if_neg h1]
  exact ⟨h.mono (Nat.le_succ n),Up.refl x,zbc⟩
theorem k8_stp {n:Nat}{i:Int}{x:Rft} (h:Rp n i x) (hn:n≤199) {m:Mg} (hne:m.frm ≠ x.id):Rp (n+1) i (k8R x m)∧Up x (k8R x m)∧RowsY 7 (n+1) (k8R x m) (k8O x m):=by
 unfold k8R k8O
 by_cases h1:zbx x=true
 ·rw [if_pos h1,if_pos h1]
  by_cases h2:x.lead=m.frm
  ·rw [if_pos h2,if_pos h2]
   exact zli h hn (zfj h.rgt fun e=>hne (by rw [← h2];exact h.rgt.own e))
  ·rw [if_neg h2,if_neg h2]
   exact ⟨h.mono (Nat.le_succ n),Up.refl x,zbc⟩
 ·rw [if_neg h1,if_neg h1]
  exact ⟨h.mono (Nat.le_succ n),Up.refl x,zbc⟩
theorem zou {n:Nat} (x:Rft) (m:Mg) (ix:Int) (y:Bool) (hf:0≤m.frm∧m.frm < 7) (hne:m.frm ≠ x.id):RowsY 7 n (folR x m) [folM x m ix y] :=
 zd7 (k:=6) ⟨6,_,m.frm,_,ix,0,0,m.round,y,cz,.no⟩ ⟨⟨Nat.zero_le _,Nat.zero_le _,fun e=>absurd e (by show ¬ (6:Int)=7;decide),hf⟩,rfl,hne,fun _ _=>rfl⟩
theorem app_stp {n:Nat}{i:Int}{x:Rft} (h:Rp n i x) (hn:n≤199) {m:Mg} (hf:0≤m.frm∧m.frm < 7) (hne:m.frm ≠ x.id) (he:appE x m=0):Rp (n+1) i (appR x m)∧Up x (appR x m)∧RowsY 7 (n+1) (appR x m) (appO x m):=by
 have hlg:=h.log
 have hR:=z1b h.rgt hf (m:=m) (by omega) he
 have hgot:=app_got x m (by omega)
 unfold appE at he
 unfold appR appO at *
 by_cases h3:x.role=3
 ·rw [if_pos h3,if_pos h3]
  exact ⟨h.mono (Nat.le_succ n),Up.refl x,zbc⟩
 ·rw [if_neg h3] at he
  rw [if_neg h3,if_pos he] at hR hgot ⊢
  rw [if_neg h3,if_pos he]
  have hg:=zii (setH x (growO x.hard x.commit m).h (growO x.hard x.commit m).c) m
  have hgt:=(znc (h:=x.hard) (c:=x.commit) (m:=m) (by omega) he).2
  have hgv:(growO x.hard x.commit m).h.vote=x.hard.vote:=by unfold growO;split<;>rfl
  have hgc:=(zjk (h:=x.hard) (c:=x.commit) (m:=m) (by omega) he).1
  have hgs:=zyj he
  refine ⟨⟨hR,h.id,fun e=>absurd e (by show ¬ (2:Int)≤0;decide),by omega,by rw [hgot.1];have:=h.base;omega,?_⟩,⟨rfl,?_,hgc,fun _=>.inr ?_⟩,zou _ m _ _ hf hne⟩
  ·rw [hg];show (growO x.hard x.commit m).h.snap.length≤1;rw [hgs];exact h.snap
  ·rw [hg];show _≤(growO x.hard x.commit m).h.term;rw [hgt];exact Int.le_refl _
  ·rw [hg];exact hgv
theorem ins_stp {n:Nat}{i:Int}{x:Rft} (h:Rp n i x) (hn:n≤199) {m:Mg} (hf:0≤m.frm∧m.frm < 7) (hne:m.frm ≠ x.id) (hi:0≤m.index∧m.index≤2000 * (n:Int)) (hs:m.snap.length≤1) (he:insE x m=0):Rp (n+1) i (insR x m)∧Up x (insR x m)∧RowsY 7 (n+1) (insR x m) (insO x m):=by
 have hlg:=h.log
 have hb:=h.base
 have hR:=z0l h.rgt hf (m:=m) (by omega) (by omega) he
 unfold insE at he
 unfold insR insO at *
 by_cases h3:x.role=3
 ·rw [if_pos h3,if_pos h3]
  exact ⟨h.mono (Nat.le_succ n),Up.refl x,zbc⟩
 ·rw [if_neg h3] at he
  rw [if_neg h3] at hR ⊢
  rw [if_neg h3]
  by_cases h4:x.commit < m.index
  ·rw [if_pos h4] at he
   rw [if_pos h4,if_pos he] at hR ⊢
   rw [if_pos h4,if_pos he]
   have hg:=zii (setH x (insHH x m) m.index) m
   have hl:(insHH x m).log.length≤x.hard.log.length:=zga x.hard m.index m.logTerm m.conf m.snap
   refine ⟨⟨hR,h.id,fun e=>absurd e (by show ¬ (2:Int)≤0;decide),?_,?_,?_⟩,⟨rfl,?_,by show x.commit≤m.index;omega,fun _=>.inr ?_⟩,zou _ m _ _ hf hne⟩
   ·rw [hg];show (insHH x m).log.length≤_;omega
   ·rw [hg];show m.index≤_;omega
   ·rw [hg];exact hs
   ·rw [hg];exact Int.le_refl _
   ·rw [hg];rfl
  ·rw [if_neg h4] at he
   rw [if_neg h4] at hR ⊢
   rw [if_neg h4]
   have hg:=zii x m
   refine ⟨⟨hR,h.id,fun e=>absurd e (by show ¬ (2:Int)≤0;decide),?_,?_,?_⟩,⟨rfl,?_,Int.le_refl _,fun _=>.inr ?_⟩,zou _ m _ _ hf hne⟩
   ·rw [hg];omega
   ·rw [hg];omega
   ·rw [hg];exact h.snap
   ·rw [hg];exact Int.le_refl _
   ·rw [hg]
theorem lrn_stp {n:Nat}{i:Int}{x:Rft} (h:Rp n i x) (hn:n≤199) {m:Mg} (hf:0≤m.frm∧m.frm < 7) (hi:0≤m.index∧m.index≤1099511627776):Rp (n+1) i (zb8 x m)∧Up x (zb8 x m):=by
 have hlg:=h.log
 have hR:=zxu h.rgt hf (m:=m) (by omega) hi (h.lastB (by omega))
 obtain ⟨e1,e2⟩:=lrn_got x m
 have hid:(zb8 x m).id=x.id:=by unfold zb8;split<;>rfl
 refine ⟨⟨hR,hid.trans h.id,by rw [e1,e2];exact h.led,by rw [e1];omega,by rw [e1];have:=h.base;omega,by rw [e1];exact h.snap⟩,⟨hid,by rw [e1];exact Int.le_refl _,?_,fun _=>.inr (by rw [e1])⟩⟩
 unfold zb8
 split
 ·show x.commit≤zc9 _ _ _;exact zn7 _
 ·exact Int.le_refl _
theorem zu3 {n:Nat}{r:Rft} (h:Rp n r.id r) (hn:n≤199) {m:Mg} (hM:RightM r m) (hs:m.snap.length≤1) (hi:m.kind=7→m.index≤2000 * (n:Int)) {R:Rft}{O:List (List PV)}{E:Int} (hk:TK r m R O E) (he:E=0):Stp n r R O:=by
 have hx:=tkx_rp h hM
 have hu:=zye r m
 have hne:m.frm ≠ (tkX r m).id:=by rw [zzn];exact hM.ne
 have mk:∀ {R:Rft}{O:List (List PV)},Rp (n+1) r.id R∧Up (tkX r m) R∧RowsY 7 (n+1) R O→Stp n r R O:=fun a=>⟨a.1,hu.trans a.2.1,a.2.2.le (by decide)⟩
 cases hk with
 | asked _ =>
  refine ⟨h.mono (Nat.le_succ n),Up.refl r,?_⟩
  unfold zij
  split
  ·exact zd7 (k:=7) ⟨2,r.id,m.frm,m.term,0,0,0,0,true,cz,.no⟩ ⟨⟨Nat.zero_le _,Nat.zero_le _,fun e=>absurd e (by show ¬ (2:Int)=7;decide),hM.frm⟩,rfl,hM.ne,fun _ e=>absurd rfl e⟩
  ·exact zd7 (k:=7) ⟨2,r.id,m.frm,r.hard.term,0,0,0,0,false,cz,.no⟩ ⟨⟨Nat.zero_le _,Nat.zero_le _,fun e=>absurd e (by show ¬ (2:Int)=7;decide),hM.frm⟩,rfl,hM.ne,fun _ e=>absurd rfl e⟩
 | old _ _ =>
  refine ⟨h.mono (Nat.le_succ n),Up.refl r,?_⟩
  unfold zhb
  split
  ·exact zd7 (k:=7) ⟨4,r.id,m.frm,r.hard.term,0,0,0,0,false,cz,.no⟩ ⟨⟨Nat.zero_le _,Nat.zero_le _,fun e=>absurd e (by show ¬ (4:Int)=7;decide),hM.frm⟩,rfl,hM.ne,fun _ _=>rfl⟩
  ·split
   ·exact zd7 (k:=7) ⟨6,r.id,m.frm,r.hard.term,0,0,0,0,false,cz,.no⟩ ⟨⟨Nat.zero_le _,Nat.zero_le _,fun e=>absurd e (by show ¬ (6:Int)=7;decide),hM.frm⟩,rfl,hM.ne,fun _ _=>rfl⟩
   ·exact zbc
 | no _ _ _=>exact ⟨hx.mono (Nat.le_succ n),hu,zbc⟩
 | k2 _ _ _ =>
  obtain ⟨a,b,c⟩:=k2_stp h hn (m:=m) hM.frm
  exact ⟨a,b,c.le (by decide)⟩
 | k3 _ _=>exact mk (k3_stp hx hM.frm hne)
 | k4 _ _ _=>exact mk (k4_stp hx hn hM.frm)
 | app _ _=>exact mk (app_stp hx hn hM.frm hne he)
 | lrn _ _ =>
  obtain ⟨a,b⟩:=lrn_stp hx hn hM.frm hM.index
  exact mk ⟨a,b,zbc⟩
 | ins h7 _=>exact mk (ins_stp hx hn hM.frm hne ⟨hM.index.1,hi h7⟩ hs he)
 | k8 _ _=>exact mk (k8_stp hx hn hne)
theorem zey {r:Rft}{m:Mg} (h:m.term=r.hard.term):tkX r m=r:=if_neg (by omega)
theorem zc7 {r:Rft}{m:Mg} (h:r.hard.term < m.term):tkX r m=fallR r m.term (-1):=if_pos h
theorem zx8 (r : Rft) (m : Mg) (hg : Rgt r) (hl : r.hard.log.length ≤ 4000) (hM : RightM r m) (hen : m.entries.length ≤ 1000) (hsn : m.snap.length ≤ 40000) {R : Rft} {O : List (List PV)} {E : Int} (hk : TK r m R O E) :
    CtrE Tryz.prog 52 [.pt 9990 0,.ag m.enc] [(9990,repI r [])] (obI r []) (iv E) [(9990,repX R ([]++O))] obX:=by
 have hf:=hg.fit (by omega)
 have hl2:(fallR r m.term (-1)).hard.log.length=r.hard.log.length:=by rw [zce]
 cases hk with
 | asked h =>
  have k:=z30 r hf [] (by decide) m
  rw [za9 h] at k
  exact k
 | old h ht=>exact zw7 r hf [] (by decide) m h ht
 | no h hy ht =>
  rcases (by omega:m.term=r.hard.term∨r.hard.term < m.term) with e | e
  ·rw [zey e]
   rcases h with h | h
   ·have k:=z05 r hf [] (by decide) m hM.frm hM.term.2 e
    rw [zef h hy] at k
    exact k
   ·have k:=zyy r hf [] (by decide) m hM.frm hM.term.2 e
    rw [zef h hy] at k
    exact k
  ·rw [zc7 e]
   rcases h with h | h
   ·have k:=zw3 r hf [] (by decide) m hM.frm hM.term.2 e
    rw [zef h hy] at k
    exact k
   ·have k:=zvh r hf [] (by decide) m hM.frm hM.term.2 e
    rw [zef h hy] at k
    exact k
 | k2 h hy ht =>
  rcases (by omega:m.term=r.hard.term∨r.hard.term < m.term) with e | e
  ·have k:=zxo r hf [] (by decide) m hM.frm hM.term.2 e
   rw [zef h hy] at k
   exact k
  ·have k:=zz6 r hf [] (by decide) m hM.frm hM.term.2 e
   rw [zef h hy] at k
   exact k
 | k3 h ht =>
  rcases (by omega:m.term=r.hard.term∨r.hard.term < m.term) with e | e
  ·rw [zey e]
   have k:=z2s r hf [] (by decide) m hM.frm hM.term.2 e
   rw [za9 h] at k
   exact k
  ·rw [zc7 e]
   have k:=z0k r hf [] (by decide) m hM.frm hM.term.2 e
   rw [za9 h] at k
   exact k
 | k4 h hy ht =>
  rcases (by omega:m.term=r.hard.term∨r.hard.term < m.term) with e | e
  ·rw [zey e]
   have k:=zxn r hf [] (by decide) m hM.frm hM.term.2 e
   rw [zef h hy] at k
   exact k
  ·rw [zc7 e]
   have k:=zw4 r hf [] (by decide) m hM.frm hM.term.2 e
   rw [zef h hy] at k
   exact k
 | app h ht =>
  rcases (by omega:m.term=r.hard.term∨r.hard.term < m.term) with e | e
  ·rw [zey e]
   have k:=z2l r hf [] (by decide) m hM.frm hM.term.2 e (by omega) (by
    rw [za9 h];intro e;have:=zfu (m:=m) (by omega) e;exact zad (by omega))
   rw [za9 h] at k
   exact k
  ·rw [zc7 e]
   have k:=zx5 r hf [] (by decide) m hM.frm hM.term.2 e (by omega) (by
    rw [za9 h];intro e;have:=zfu (m:=m) (by omega) e;exact zad (by omega))
   rw [za9 h] at k
   exact k
 | lrn h ht =>
  rcases (by omega:m.term=r.hard.term∨r.hard.term < m.term) with e | e
  ·rw [zey e]
   have k:=z3d r hf [] (by decide) m hM.frm hM.term.2 e hM.index hg.mtch
   rw [za9 h] at k
   exact k
  ·rw [zc7 e]
   have k:=zxy r hf [] (by decide) m hM.frm hM.term.2 e hM.index (fun i hi=>by
    rw [zgt]
    have h0:(fallR r m.term (-1)).mtch.at i=0:=zA_at i hi
    have:=hg.com
    have:=(zaq hg.hard).1.b
    rw [h0];omega)
   rw [za9 h] at k
   exact k
 | ins h ht =>
  rcases (by omega:m.term=r.hard.term∨r.hard.term < m.term) with e | e
  ·rw [zey e]
   have k:=z4b r hf [] (by decide) m hM.frm hM.term.2 e (by omega) hM.index (by
    have:=zga r.hard (mkM m 7).index (mkM m 7).logTerm (mkM m 7).conf (mkM m 7).snap;exact zad (Nat.le_trans this (by omega)))
   rw [za9 h] at k
   exact k
  ·rw [zc7 e]
   have k:=z1s r hf [] (by decide) m hM.frm hM.term.2 e (by omega) hM.index (by
    have:=zga (fallR r m.term (-1)).hard (mkM m 7).index (mkM m 7).logTerm (mkM m 7).conf (mkM m 7).snap;exact zad (Nat.le_trans this (by omega)))
   rw [za9 h] at k
   exact k
 | k8 h ht =>
  rcases (by omega:m.term=r.hard.term∨r.hard.term < m.term) with e | e
  ·rw [zey e]
   have k:=z3f r hf [] (by decide) m hM.frm hM.term.2 e
   rw [za9 h] at k
   exact k
  ·rw [zc7 e]
   have k:=zxh r hf [] (by decide) m hM.frm hM.term.2 e
   rw [za9 h] at k
   exact k
noncomputable def takA (R:Rft) (O:List (List PV)) (E:Int):PV:=if E=0 then .tu [.ag R.enc,.sl 16 O,iv 0] else .tu [.ag rzv,.nl,iv E]
theorem zcg (R:Rft) (O:List (List PV)):takA R O 0=.tu [.ag R.enc,.sl 16 O,iv 0]:=if_pos rfl
theorem zkr (R:Rft) (O:List (List PV)) {E:Int} (h:¬ E=0):takA R O E=.tu [.ag rzv,.nl,iv E]:=if_neg h
theorem zvo (r : Rft) (m : Mg) (hg : Rgt r) (hl : r.hard.log.length ≤ 4000) (hM : RightM r m) (hL : 0 ≤ m.logTerm ∧ m.logTerm ≤ far) (hR : 0 ≤ m.round ∧ m.round ≤ far) (hen : m.entries.length ≤ 1000) (hsn : m.snap.length ≤ 40000) {R : Rft} {O : List (List PV)} {E : Int} (hk : TK r m R O E) :
    Ctr Tryz.prog 40 [.ag r.enc,.ag m.enc] (takA R O E) []:=by
 have hf:=hg.fit (by omega)
 have hl2:(fallR r m.term (-1)).hard.log.length=r.hard.log.length:=by rw [zce]
 have hM1:∀ k y,k=m.kind→y=m.yes→RightM r (mkY m k y):=fun k y hk hy=>⟨hM.frm,hM.ne,hM.to,by show 1≤k∧k≤8;rw [hk];exact hM.kind,hM.term,hM.index⟩
 cases hk with
 | asked h =>
  have k:=zyz r hf m hM hL hR
  rw [za9 h] at k
  rw [zcg];exact k
 | old h ht =>
  rw [zcg];exact zrz r hf m hM hL hR h ht
 | no h hy ht =>
  rcases (by omega:m.term=r.hard.term∨r.hard.term < m.term) with e | e
  ·rw [zey e,zcg]
   rcases h with h | h
   ·have k:=zxf r hf m hM hL hR e
    rw [zef h hy] at k
    exact k
   ·have k:=zvf r hf m hM hL hR e
    rw [zef h hy] at k
    exact k
  ·rw [zc7 e,zcg]
   rcases h with h | h
   ·have k:=zsl r hf m hM hL hR e
    rw [zef h hy] at k
    exact k
   ·have k:=zsk r hf m hM hL hR e
    rw [zef h hy] at k
    exact k
 | k2 h hy ht =>
  rcases (by omega:m.term=r.hard.term∨r.hard.term < m.term) with e | e
  ·have k:=zve r hf m hM hL hR e
   rw [zef h hy] at k
   rw [zcg];exact k
  ·have k:=zwz r hf m hM hL hR e
   rw [zef h hy] at k
   rw [zcg];exact k
 | k3 h ht =>
  rcases (by omega:m.term=r.hard.term∨r.hard.term < m.term) with e | e
  ·rw [zey e]
   have k:=zzf r hf m hM hL hR e
   rw [za9 h] at k
   rw [zcg];exact k
  ·rw [zc7 e]
   have k:=zxd r hf m hM hL hR e
   rw [za9 h] at k
   rw [zcg];exact k
 | k4 h hy ht =>
  rcases (by omega:m.term=r.hard.term∨r.hard.term < m.term) with e | e
  ·rw [zey e]
   have k:=zwi r hf m hM hL hR e
   rw [zef h hy] at k
   rw [zcg];exact k
  ·rw [zc7 e]
   have k:=zr1 r hf m hM hL hR e
   rw [zef h hy] at k
   rw [zcg];exact k
 | app h ht =>
  rcases (by omega:m.term=r.hard.term∨r.hard.term < m.term) with e | e
  ·rw [zey e]
   by_cases he:appE r m=0
   ·have k:=zzd r hf m hM hL hR e (by omega) (by
    rw [za9 h];intro e;have:=zfu (m:=m) (by omega) e;exact zad (by omega)) (by rw [za9 h];exact he)
    rw [za9 h] at k
    rw [he,zcg];exact k
   ·have k:=zww r hf m hM hL hR e (by omega) (by
    rw [za9 h];intro e;have:=zfu (m:=m) (by omega) e;exact zad (by omega)) (by rw [za9 h];exact he)
    rw [za9 h] at k
    rw [zkr _ _ he];exact k
  ·rw [zc7 e]
   by_cases he:appE (fallR r m.term (-1)) m=0
   ·have k:=zvy r hf m hM hL hR e (by omega) (by
    rw [za9 h];intro e;have:=zfu (m:=m) (by omega) e;exact zad (by omega)) (by rw [za9 h];exact he)
    rw [za9 h] at k
    rw [he,zcg];exact k
   ·have k:=zrg r hf m hM hL hR e (by omega) (by
    rw [za9 h];intro e;have:=zfu (m:=m) (by omega) e;exact zad (by omega)) (by rw [za9 h];exact he)
    rw [za9 h] at k
    rw [zkr _ _ he];exact k
 | lrn h ht =>
  rcases (by omega:m.term=r.hard.term∨r.hard.term < m.term) with e | e
  ·rw [zey e]
   have k:=zyt r hf m hM hL hR e hg.mtch
   rw [za9 h] at k
   rw [zcg];exact k
  ·rw [zc7 e]
   have k:=zw0 r hf m hM hL hR e (fun i hi=>by
    rw [zgt]
    have h0:(fallR r m.term (-1)).mtch.at i=0:=zA_at i hi
    have:=hg.com
    have:=(zaq hg.hard).1.b
    rw [h0];omega)
   rw [za9 h] at k
   rw [zcg];exact k
 | ins h ht =>
  rcases (by omega:m.term=r.hard.term∨r.hard.term < m.term) with e | e
  ·rw [zey e]
   by_cases he:insE r m=0
   ·have k:=z0g r hf m hM hL hR e (by omega) (by
    have:=zga r.hard (mkM m 7).index (mkM m 7).logTerm (mkM m 7).conf (mkM m 7).snap;exact zad (Nat.le_trans this (by omega))) (by rw [za9 h];exact he)
    rw [za9 h] at k
    rw [he,zcg];exact k
   ·have k:=zvu r hf m hM hL hR e (by omega) (by
    have:=zga r.hard (mkM m 7).index (mkM m 7).logTerm (mkM m 7).conf (mkM m 7).snap;exact zad (Nat.le_trans this (by omega))) (by rw [za9 h];exact he)
    rw [za9 h] at k
    rw [zkr _ _ he];exact k
  ·rw [zc7 e]
   by_cases he:insE (fallR r m.term (-1)) m=0
   ·have k:=zvk r hf m hM hL hR e (by omega) (by
    have:=zga (fallR r m.term (-1)).hard (mkM m 7).index (mkM m 7).logTerm (mkM m 7).conf (mkM m 7).snap;exact zad (Nat.le_trans this (by omega))) (by rw [za9 h];exact he)
    rw [za9 h] at k
    rw [he,zcg];exact k
   ·have k:=zra r hf m hM hL hR e (by omega) (by
    have:=zga (fallR r m.term (-1)).hard (mkM m 7).index (mkM m 7).logTerm (mkM m 7).conf (mkM m 7).snap;exact zad (Nat.le_trans this (by omega))) (by rw [za9 h];exact he)
    rw [za9 h] at k
    rw [zkr _ _ he];exact k
 | k8 h ht =>
  rcases (by omega:m.term=r.hard.term∨r.hard.term < m.term) with e | e
  ·rw [zey e]
   have k:=z02 r hf m hM hL hR e
   rw [za9 h] at k
   rw [zcg];exact k
  ·rw [zc7 e]
   have k:=zwg r hf m hM hL hR e
   rw [za9 h] at k
   rw [zcg];exact k
structure Act where
 doo:Int
 i:Int
 n:Int
 call:VCall
 conf:Conf
abbrev Act.enc (x:Act):List PV:=[iv x.doo,iv x.i,iv x.n,iv x.call.client,iv x.call.seq,iv x.call.cmd.kind,sv x.call.cmd.key,iv x.call.cmd.old.kind,.sc (.float .f64 x.call.cmd.old.num),sv x.call.cmd.old.text,iv x.call.cmd.val.kind,.sc (.float .f64 x.call.cmd.val.num),sv x.call.cmd.val.text,iv x.conf.full,iv x.conf.wit,iv x.conf.learn,iv x.conf.lwit]
def Act.ok (x:Act):Prop:=isI x.doo∧isI x.i∧isI x.n∧x.call.ok∧x.conf.ok
theorem ty_Act {ls:List PV} (h:Ty Tryz.prog 33 ls):∃ x:Act,ls=x.enc∧x.ok:=by
 obtain ⟨ps,rfl,h0⟩:=zf4 [3,3,3,31,23] (by kernel_rfl) (by kernel_rfl) h
 obtain ⟨p0,ps,rfl,h1,h0⟩:=zan h0
 obtain ⟨p1,ps,rfl,h2,h0⟩:=zan h0
 obtain ⟨p2,ps,rfl,h3,h0⟩:=zan h0
 obtain ⟨p3,ps,rfl,h4,h0⟩:=zan h0
 obtain ⟨p4,ps,rfl,h5,h0⟩:=zan h0
 obtain rfl:=zev h0
 obtain ⟨x0,rfl,w0⟩:=ty_i h1
 obtain ⟨x1,rfl,w1⟩:=ty_i h2
 obtain ⟨x2,rfl,w2⟩:=ty_i h3
 obtain ⟨x3,rfl,w3⟩:=z3y h4
 obtain ⟨x4,rfl,w4⟩:=z01 h5
 exact ⟨⟨x0,x1,x2,x3,x4⟩,rfl,w0,w1,w2,w3,w4⟩
theorem z4g {p:PV} (h:ArgOf Tryz.prog 24 p):∃ xs:List Act,p=.sl 17 (xs.map Act.enc)∧xs.length≤maxLen∧∀ x ∈ xs,x.ok:=by
 obtain ⟨rows,e,hl,hr⟩:=z12 (e:=33) 17 (by kernel_rfl) (by kernel_rfl) (by decide) (zxs (by kernel_rfl) h)
 cases e
 obtain ⟨xs,rfl,hx⟩:=zu1 (f:=Act.enc) (ok:=Act.ok) fun r hr'=>ty_Act (hr r hr')
 exact ⟨xs,rfl,by simpa using hl,hx⟩
structure Svn where
 r0:Rft
 r1:Rft
 r2:Rft
 r3:Rft
 r4:Rft
 r5:Rft
 r6:Rft
def Svn.at (s:Svn):Nat→Rft
 | 0=>s.r0
 | 1=>s.r1
 | 2=>s.r2
 | 3=>s.r3
 | 4=>s.r4
 | 5=>s.r5
 | _=>s.r6
def Svn.put (s:Svn) (k:Nat) (r:Rft):Svn:=match k with
 | 0=>{ s with r0:=r }
 | 1=>{ s with r1:=r }
 | 2=>{ s with r2:=r }
 | 3=>{ s with r3:=r }
 | 4=>{ s with r4:=r }
 | 5=>{ s with r5:=r }
 | _=>{ s with r6:=r }
theorem Svn.put_at (s:Svn) (r:Rft) {k j:Nat} (hk:k < 7) (hj:j < 7):(s.put k r).at j=if j=k then r else s.at j:=by
 rcases (by omega:k=0∨k=1∨k=2∨k=3∨k=4∨k=5∨k=6) with rfl | rfl | rfl | rfl | rfl | rfl | rfl <;>
 rcases (by omega:j=0∨j=1∨j=2∨j=3∨j=4∨j=5∨j=6) with rfl | rfl | rfl | rfl | rfl | rfl | rfl<;>rfl
abbrev someV (s:Svn) (m:PV):List PV:=[iv s.r0.id,iv s.r0.hard.term,iv s.r0.hard.vote,iv s.r0.hard.base,iv s.r0.hard.baseTerm,iv s.r0.hard.baseConf.full,iv s.r0.hard.baseConf.wit,iv s.r0.hard.baseConf.learn,iv s.r0.hard.baseConf.lwit,.sl 1 (s.r0.hard.snap.map encB),.sl 16 (s.r0.hard.log.map Ent.enc),iv s.r0.commit,iv s.r0.role,iv s.r0.lead,iv s.r0.wait,iv s.r0.quiet,iv s.r0.votes,iv s.r0.round,iv s.r0.next.a0,iv s.r0.next.a1,iv s.r0.next.a2,iv s.r0.next.a3,iv s.r0.next.a4,iv s.r0.next.a5,iv s.r0.next.a6,iv s.r0.mtch.a0,iv s.r0.mtch.a1,iv s.r0.mtch.a2,iv s.r0.mtch.a3,iv s.r0.mtch.a4,iv s.r0.mtch.a5,iv s.r0.mtch.a6,iv s.r0.silent.a0,iv s.r0.silent.a1,iv s.r0.silent.a2,iv s.r0.silent.a3,iv s.r0.silent.a4,iv s.r0.silent.a5,iv s.r0.silent.a6,.sl 13 (s.r0.reads.map Rd.enc),iv s.r1.id,iv s.r1.hard.term,iv s.r1.hard.vote,iv s.r1.hard.base,iv s.r1.hard.baseTerm,iv s.r1.hard.baseConf.full,iv s.r1.hard.baseConf.wit,iv s.r1.hard.baseConf.learn,iv s.r1.hard.baseConf.lwit,.sl 1 (s.r1.hard.snap.map encB),.sl 16 (s.r1.hard.log.map Ent.enc),iv s.r1.commit,iv s.r1.role,iv s.r1.lead,iv s.r1.wait,iv s.r1.quiet,iv s.r1.votes,iv s.r1.round,iv s.r1.next.a0,iv s.r1.next.a1,iv s.r1.next.a2,iv s.r1.next.a3,iv s.r1.next.a4,iv s.r1.next.a5,iv s.r1.next.a6,iv s.r1.mtch.a0,iv s.r1.mtch.a1,iv s.r1.mtch.a2,iv s.r1.mtch.a3,iv s.r1.mtch.a4,iv s.r1.mtch.a5,iv s.r1.mtch.a6,iv s.r1.silent.a0,iv s.r1.silent.a1,iv s.r1.silent.a2,iv s.r1.silent.a3,iv s.r1.silent.a4,iv s.r1.silent.a5,iv s.r1.silent.a6,.sl 13 (s.r1.reads.map Rd.enc),iv s.r2.id,iv s.r2.hard.term,iv s.r2.hard.vote,iv s.r2.hard.base,iv s.r2.hard.baseTerm,iv s.r2.hard.baseConf.full,iv s.r2.hard.baseConf.wit,iv s.r2.hard.baseConf.learn,iv s.r2.hard.baseConf.lwit,.sl 1 (s.r2.hard.snap.map encB),.sl 16 (s.r2.hard.log.map Ent.enc),iv s.r2.commit,iv s.r2.role,iv s.r2.lead,iv s.r2.wait,iv s.r2.quiet,iv s.r2.votes,iv s.r2.round,iv s.r2.next.a0,iv s.r2.next.a1,iv s.r2.next.a2,iv s.r2.next.a3,iv s.r2.next.a4,iv s.r2.next.a5,iv s.r2.next.a6,iv s.r2.mtch.a0,iv s.r2.mtch.a1,iv s.r2.mtch.a2,iv s.r2.mtch.a3,iv s.r2.mtch.a4,iv s.r2.mtch.a5,iv s.r2.mtch.a6,iv s.r2.silent.a0,iv s.r2.silent.a1,iv s.r2.silent.a2,iv s.r2.silent.a3,iv s.r2.silent.a4,iv s.r2.silent.a5,iv s.r2.silent.a6,.sl 13 (s.r2.reads.map Rd.enc),iv s.r3.id,iv s.r3.hard.term,iv s.r3.hard.vote,iv s.r3.hard.base,iv s.r3.hard.baseTerm,iv s.r3.hard.baseConf.full,iv s.r3.hard.baseConf.wit,iv s.r3.hard.baseConf.learn,iv s.r3.hard.baseConf.lwit,.sl 1 (s.r3.hard.snap.map encB),.sl 16 (s.r3.hard.log.map Ent.enc),iv s.r3.commit,iv s.r3.role,iv s.r3.lead,iv s.r3.wait,iv s.r3.quiet,iv s.r3.votes,iv s.r3.round,iv s.r3.next.a0,iv s.r3.next.a1,iv s.r3.next.a2,iv s.r3.next.a3,iv s.r3.next.a4,iv s.r3.next.a5,iv s.r3.next.a6,iv s.r3.mtch.a0,iv s.r3.mtch.a1,iv s.r3.mtch.a2,iv s.r3.mtch.a3,iv s.r3.mtch.a4,iv s.r3.mtch.a5,iv s.r3.mtch.a6,iv s.r3.silent.a0,iv s.r3.silent.a1,iv s.r3.silent.a2,iv s.r3.silent.a3,iv s.r3.silent.a4,iv s.r3.silent.a5,iv s.r3.silent.a6,.sl 13 (s.r3.reads.map Rd.enc),iv s.r4.id,iv s.r4.hard.term,iv s.r4.hard.vote,iv s.r4.hard.base,iv s.r4.hard.baseTerm,iv s.r4.hard.baseConf.full,iv s.r4.hard.baseConf.wit,iv s.r4.hard.baseConf.learn,iv s.r4.hard.baseConf.lwit,.sl 1 (s.r4.hard.snap.map encB),.sl 16 (s.r4.hard.log.map Ent.enc),iv s.r4.commit,iv s.r4.role,iv s.r4.lead,iv s.r4.wait,iv s.r4.quiet,iv s.r4.votes,iv s.r4.round,iv s.r4.next.a0,iv s.r4.next.a1,iv s.r4.next.a2,iv s.r4.next.a3,iv s.r4.next.a4,iv s.r4.next.a5,iv s.r4.next.a6,iv s.r4.mtch.a0,iv s.r4.mtch.a1,iv s.r4.mtch.a2,iv s.r4.mtch.a3,iv s.r4.mtch.a4,iv s.r4.mtch.a5,iv s.r4.mtch.a6,iv s.r4.silent.a0,iv s.r4.silent.a1,iv s.r4.silent.a2,iv s.r4.silent.a3,iv s.r4.silent.a4,iv s.r4.silent.a5,iv s.r4.silent.a6,.sl 13 (s.r4.reads.map Rd.enc),iv s.r5.id,iv s.r5.hard.term,iv s.r5.hard.vote,iv s.r5.hard.base,iv s.r5.hard.baseTerm,iv s.r5.hard.baseConf.full,iv s.r5.hard.baseConf.wit,iv s.r5.hard.baseConf.learn,iv s.r5.hard.baseConf.lwit,.sl 1 (s.r5.hard.snap.map encB),.sl 16 (s.r5.hard.log.map Ent.enc),iv s.r5.commit,iv s.r5.role,iv s.r5.lead,iv s.r5.wait,iv s.r5.quiet,iv s.r5.votes,iv s.r5.round,iv s.r5.next.a0,iv s.r5.next.a1,iv s.r5.next.a2,iv s.r5.next.a3,iv s.r5.next.a4,iv s.r5.next.a5,iv s.r5.next.a6,iv s.r5.mtch.a0,iv s.r5.mtch.a1,iv s.r5.mtch.a2,iv s.r5.mtch.a3,iv s.r5.mtch.a4,iv s.r5.mtch.a5,iv s.r5.mtch.a6,iv s.r5.silent.a0,iv s.r5.silent.a1,iv s.r5.silent.a2,iv s.r5.silent.a3,iv s.r5.silent.a4,iv s.r5.silent.a5,iv s.r5.silent.a6,.sl 13 (s.r5.reads.map Rd.enc),iv s.r6.id,iv s.r6.hard.term,iv s.r6.hard.vote,iv s.r6.hard.base,iv s.r6.hard.baseTerm,iv s.r6.hard.baseConf.full,iv s.r6.hard.baseConf.wit,iv s.r6.hard.baseConf.learn,iv s.r6.hard.baseConf.lwit,.sl 1 (s.r6.hard.snap.map encB),.sl 16 (s.r6.hard.log.map Ent.enc),iv s.r6.commit,iv s.r6.role,iv s.r6.lead,iv s.r6.wait,iv s.r6.quiet,iv s.r6.votes,iv s.r6.round,iv s.r6.next.a0,iv s.r6.next.a1,iv s.r6.next.a2,iv s.r6.next.a3,iv s.r6.next.a4,iv s.r6.next.a5,iv s.r6.next.a6,iv s.r6.mtch.a0,iv s.r6.mtch.a1,iv s.r6.mtch.a2,iv s.r6.mtch.a3,iv s.r6.mtch.a4,iv s.r6.mtch.a5,iv s.r6.mtch.a6,iv s.r6.silent.a0,iv s.r6.silent.a1,iv s.r6.silent.a2,iv s.r6.silent.a3,iv s.r6.silent.a4,iv s.r6.silent.a5,iv s.r6.silent.a6,.sl 13 (s.r6.reads.map Rd.enc),m]
abbrev someI (s:Svn) (M:List (List PV)):List PV:=someV s (.ow 9990 0 M.length)
abbrev someO (M:List (List PV)):List (Nat×Option (Bool×Nat×List (List PV))):=[(9990,some (false,16,M))]
def capM (m l:List (List PV)):List (List PV):=m++l.take (100 - m.length)
theorem z3a {α:Type} (l:List α) (a b:α):(l++[a]).set l.length b=l++[b]:=by
 induction l with
 | nil=>rfl
 | cons x l ih=>show x :: ((l++[a]).set l.length b)=_;rw [ih];rfl
noncomputable def zjt (l:List Act):Bool:=decide (600 < l.length) || (l.take 150).any fun a=>zem a.call.cmd
theorem zvi {l:List Act} (h:zjt l=false):l.length≤600:=by
 unfold zjt at h
 rw [Bool.or_eq_false_iff,decide_eq_false_iff_not] at h
 omega
theorem z0d (l:List Act) (hl:l.length≤maxLen):Ctr Tryz.prog 7 [.sl 17 (l.map Act.enc)] (bv (zjt l)) []:=by
 have hml:(l.map Act.enc).length=l.length:=List.length_map ..
 have hl2:l.length≤9223372036854775807:=Nat.le_trans hl (by decide)
 by_cases h6:600 < l.length
 ·have e:zjt l=true:=by unfold zjt;rw [decide_eq_true h6];rfl
  rw [e]
  refine sBody Tryz.func7 ?_;conv=>whnf
  refine tS ?_ ?_<;>intro h
  ·exact zaa rfl rfl
  ·exact absurd h (by rw [hml];omega)
 ·have e:zjt l=((l.take 150).any fun a=>zem a.call.cmd):=by unfold zjt;rw [decide_eq_false h6];rfl
  rw [e]
  refine sBody Tryz.func7 ?_;conv=>whnf
  refine tS ?_ ?_<;>intro h
  ·exact absurd h (by rw [hml];omega)
  clear h
  refine zh4 mixed (by kernel_rfl) (fun i:Nat=>i≤l.length∧i≤150∧((l.take i).any fun a=>zem a.call.cmd)=false) (fun i=>[(3,iv i)]) (fun _=>[]) [] (fun i=>l.length - i) 0 ⟨Nat.zero_le _,Nat.zero_le _,rfl⟩ ?_ ?_
  ·exact wkE
  rintro i ⟨hi,hi2,hno⟩
  refine tS ?_ ?_<;>intro h
  ·have hlt:i < l.length:=by rw [hml] at h;omega
   clear h
   have kc:=zwx (l[i]'hlt).call.cmd
   have hs:((l.take (i+1)).any fun a=>zem a.call.cmd)=zem (l[i]'hlt).call.cmd:=by
    rw [List.take_succ_eq_append_getElem hlt,List.any_append,hno]
    simp
   have hrow:=za3 (f:=Act.enc) hlt
   refine tS ?_ ?_<;>intro h
   ·have h150:i < 150:=by omega
    clear h
    refine ⟨by omega,_,hrow,?_⟩
    conv=>whnf
    cases hh:zem (l[i]'hlt).call.cmd with
    | true =>
     rw [hh] at kc
     have ht:((l.take 150).any fun a=>zem a.call.cmd)=true:=by
      rw [List.any_eq_true]
      refine ⟨l[i]'hlt,?_,hh⟩
      exact List.mem_take_iff_getElem.2 ⟨i,by omega,rfl⟩
     rw [ht]
     refine tC kc ?_
     exact zaa rfl rfl
    | false =>
     rw [hh] at kc hs
     refine tC kc ?_
     refine ⟨i+1,⟨⟨by omega,by omega,hs⟩,by omega⟩,?_⟩
     exact wkE
   ·have h150:i=150:=by omega
    subst h150
    rw [hno]
    exact zaa rfl rfl
  ·have hge:i=l.length:=by rw [hml] at h;omega
   subst hge
   have ht:l.take 150=l.take l.length:=by rw [List.take_of_length_le (Nat.le_refl _),List.take_of_length_le hi2]
   rw [ht,hno]
   exact zaa rfl rfl
theorem ze7 {s:Svn}{m:PV}{k n:Nat} (hk:k < 7) (hn:n=k * 40) {K:PV→Prop} (h:K (.ag (s.at k).enc)):dropK n (someV s m) (fun sfx=>ldK Tryz.prog 47 sfx K):=by
 subst hn
 rcases (by omega:k=0∨k=1∨k=2∨k=3∨k=4∨k=5∨k=6) with rfl | rfl | rfl | rfl | rfl | rfl | rfl<;>(conv=>whnf)<;>exact h
theorem at_term {s:Svn}{m:PV}{k n:Nat} (hk:k < 7) (hn:n=k * 40+1) {K:PV→Prop} (h:K (iv (s.at k).hard.term)):dropK n (someV s m) (fun sfx=>ldK Tryz.prog 3 sfx K):=by
 subst hn
 rcases (by omega:k=0∨k=1∨k=2∨k=3∨k=4∨k=5∨k=6) with rfl | rfl | rfl | rfl | rfl | rfl | rfl<;>(conv=>whnf)<;>exact h
theorem z24 {m l:List (List PV)}{i:Nat} (hi:i < l.length) (h:m.length+i < 100):capM m (l.take (i+1))=capM m (l.take i)++[l[i]'hi]:=by
 unfold capM
 rw [List.take_take,List.take_take,Nat.min_eq_right (by omega),Nat.min_eq_right (by omega),List.append_assoc,List.take_succ_eq_append_getElem hi]
theorem cap_len {m l:List (List PV)}{i:Nat} (hi:i≤l.length) (h:m.length+i≤100):(capM m (l.take i)).length=m.length+i:=by
 unfold capM
 rw [List.length_append,List.length_take,List.length_take]
 omega
theorem z2i {m l:List (List PV)}{i:Nat} (hi:i≤l.length) (h:¬ m.length+i < 100) (h2:m.length+i≤100):capM m (l.take i)=capM m l:=by
 unfold capM
 rw [List.take_take,show min (100 - m.length) i=100 - m.length by omega]
theorem ziz {α:Type} (q:List α) (z:α):(q.take q.length++[z])[0+((q.length:Nat):Int).toNat]?=some z:=by
 rw [List.take_length,Nat.zero_add,Int.toNat_natCast];exact List.getElem?_concat_length
theorem zgy {α:Type} (q:List α) (z r:α):(q.take q.length++[z]).set (0+((q.length:Nat):Int).toNat) r=q++[r]:=by
 rw [List.take_length,Nat.zero_add,Int.toNat_natCast];exact z3a q z r
theorem zgr {α:Type} (q:List α) (z r:α):q.length+[z].length=(q++[r]).length:=by rw [List.length_append];rfl
theorem zte (s : Svn) (m : List (List PV)) (ys : List My) (hm : m.length ≤ 100) :
    CtrE Tryz.prog 38 [.pt 9990 0,.sl 16 (ys.map My.enc)] [(9990,someV s (.ow 9990 0 m.length))] [(9990,some (false,16,m))] (.tu [])
     [(9990,someV s (.ow 1 0 (capM m (ys.map My.enc)).length))] [(9990,none),(1,some (false,16,capM m (ys.map My.enc)))]:=by
 have hget:∀ (i:Nat) (hi:i < (ys.map My.enc).length),∃ y:My,(ys.map My.enc)[i]'hi=y.enc:=fun i hi=>⟨_,List.getElem_map ..⟩
 generalize hl:ys.map My.enc=l at *
 refine zaj Tryz.func38 ?_;conv=>whnf
 refine z1g 9990 1000 rfl rfl ?_
 conv=>whnf
 refine tFor (fun i:Nat=>i≤l.length∧m.length+i≤100) (fun i=>[(4,iv i)]) (fun i=>[(9990,someV s (.ow 1000 0 (capM m (l.take i)).length))]) (fun i=>[(9990,none),(1000,some (false,16,capM m (l.take i)))]) [(9990,9990),(1000,1000)] (fun i=>l.length - i) 0 ⟨Nat.zero_le _,by omega⟩ ?_ ?_
 ·have e0:capM m (l.take 0)=m:=by unfold capM;rw [List.take_zero,List.take_nil,List.append_nil]
  rw [e0]
  exact wkE
 rintro i ⟨hi,hc⟩
 have hcl:=cap_len (m:=m) hi hc
 refine tS ?_ ?_<;>intro h
 ·have hlt:i < l.length:=by omega
  clear h
  refine tS ?_ ?_<;>intro h
  ·have h2:m.length+i < 100:=by omega
   clear h
   have hsucc:=z24 (m:=m) hlt h2
   have hrow:l[((i:Nat):Int).toNat]?=some (l[i]'hlt):=by rw [Int.toNat_natCast,List.getElem?_eq_getElem hlt]
   have hb1:((capM m (l.take i)).length+1) * 176≤140737488355328:=by omega
   have hb2:(capM m (l.take i)).length+1≤maxLen:=zad (by omega)
   obtain ⟨y,hy⟩:=hget i hlt
   rw [hy] at hsucc hrow
   generalize capM m (l.take i)=q at *
   obtain ⟨kd,fr,tt,tm,ix,lt,cm,rd,ye,cf,bd⟩:=y
   cases bd with
   | no =>
    refine ⟨by omega,_,hrow,?_⟩
    conv=>whnf
    refine tAB hb1 hb2 ?_
    refine ⟨⟨by omega,by simp only [List.length_cons,List.length_nil];omega⟩,?_⟩
    conv=>whnf
    refine ⟨_,ziz q _,?_⟩
    conv=>whnf
    refine ⟨i+1,[(9990,9990),(1000,464)],⟨⟨by omega,by omega⟩,by omega⟩,?_⟩
    rw [hsucc]
    (refine tWK ?_;and_intros<;>try exact ⟨⟩)
    all_goals first | rfl | exact .inl rfl | exact w1 (by omega) | exact zgr q _ _ | exact zbi (by kernel_rfl) (zgy q _ _) | trace_state
   | es el =>
    refine ⟨by omega,_,hrow,?_⟩
    conv=>whnf
    refine tAB hb1 hb2 ?_
    refine ⟨⟨by omega,by simp only [List.length_cons,List.length_nil];omega⟩,?_⟩
    conv=>whnf
    refine ⟨_,ziz q _,?_⟩
    conv=>whnf
    refine ⟨i+1,[(9990,9990),(1000,464)],⟨⟨by omega,by omega⟩,by omega⟩,?_⟩
    rw [hsucc]
    (refine tWK ?_;and_intros<;>try exact ⟨⟩)
    all_goals first | rfl | exact .inl rfl | exact w1 (by omega) | exact zgr q _ _ | exact zbi (by kernel_rfl) (zgy q _ _) | trace_state
   | sn sl =>
    refine ⟨by omega,_,hrow,?_⟩
    conv=>whnf
    refine tAB hb1 hb2 ?_
    refine ⟨⟨by omega,by simp only [List.length_cons,List.length_nil];omega⟩,?_⟩
    conv=>whnf
    refine ⟨_,ziz q _,?_⟩
    conv=>whnf
    refine ⟨i+1,[(9990,9990),(1000,464)],⟨⟨by omega,by omega⟩,by omega⟩,?_⟩
    rw [hsucc]
    (refine tWK ?_;and_intros<;>try exact ⟨⟩)
    all_goals first | rfl | exact .inl rfl | exact w1 (by omega) | exact zgr q _ _ | exact zbi (by kernel_rfl) (zgy q _ _) | trace_state
  ·have e:=z2i (m:=m) hi (show ¬ m.length+i < 100 by omega) hc
   rw [e]
   exact eX [(9990,9990),(1,1000)]
 ·have e:i=l.length:=by omega
  subst e
  rw [List.take_length]
  exact eX [(9990,9990),(1,1000)]
theorem zrr (y:My):y.enc.all leaf1=true:=by
 obtain ⟨kd,fr,tt,tm,ix,lt,cm,rd,ye,cf,bd⟩:=y
 cases bd<;>rfl
theorem zr7 (s : Svn) (ys : List My) (hm : ys.length ≤ 100) (k : Nat) (hk : k < ys.length) :
    CtrE Tryz.prog 39 [.pt 9990 0,iv k] [(9990,someV s (.ow 9990 0 (ys.map My.enc).length))] [(9990,some (false,16,ys.map My.enc))] (.ag (ys[k]'hk).enc)
     [(9990,someV s (.ow 1 0 ((ys.eraseIdx k).map My.enc).length))] [(9990,some (false,16,ys.map My.enc)),(1,some (false,16,(ys.eraseIdx k).map My.enc))]:=by
 have hrow:(ys.map My.enc)[0+((k:Nat):Int).toNat]?=some (ys[k]'hk).enc:=by
  rw [Nat.zero_add,Int.toNat_natCast,List.getElem?_map,List.getElem?_eq_getElem hk];rfl
 have hera:(ys.eraseIdx k).map My.enc=(ys.map My.enc).take k++(ys.map My.enc).drop (k+1):=by
  rw [List.eraseIdx_eq_take_drop_succ,List.map_append,List.map_take,List.map_drop]
 have hlen:(ys.map My.enc).length=ys.length:=List.length_map ..
 have ew:IntKind.i64.wrap ((k:Int)+1)=(k:Int)+1:=zaf (by omega) (by omega)
 have hleaf:∀ r ∈ ys.map My.enc,r.all leaf1=true:=fun r hr=>by
  obtain ⟨y,_,rfl⟩:=List.mem_map.1 hr
  exact zrr y
 have e1:∀ l:List (List PV),(l.drop (0+Int.toNat 0)).take (((k:Nat):Int).toNat - Int.toNat 0)=l.take k:=fun l=>rfl
 have e2:∀ l:List (List PV),(l.drop (0+((k:Int)+1).toNat)).take (((l.length:Nat):Int).toNat - ((k:Int)+1).toNat)=l.drop (k+1):=fun l=>by
  rw [show 0+((k:Int)+1).toNat=k+1 by omega]
  exact List.take_of_length_le (by rw [List.length_drop];omega)
 rw [hera]
 generalize hl:ys.map My.enc=l at *
 generalize ys[k]'hk=y at *
 obtain ⟨kd,fr,tt,tm,ix,lt,cm,rd,ye,cf,bd⟩:=y
 cases bd
 all_goals
  refine zaj Tryz.func39 ?_;conv=>whnf
  refine ⟨⟨by omega,by omega⟩,?_⟩
  conv=>whnf
  refine ⟨_,hrow,?_⟩
  conv=>whnf
  refine ⟨⟨by omega,by omega,by omega⟩,?_⟩
  conv=>whnf
  refine ⟨⟨by kernel_rfl,by omega⟩,?_⟩
  conv=>whnf
  refine ⟨⟨⟨small (by rw [List.length_take,List.length_drop];omega) (by kernel_rfl),zad (by rw [List.length_take,List.length_drop];omega)⟩,rfl⟩,?_⟩
  conv=>whnf
  rw [ew]
  refine ⟨⟨by omega,by omega,by omega⟩,?_⟩
  conv=>whnf
  refine ⟨⟨by kernel_rfl,by omega⟩,?_⟩
  conv=>whnf
  refine ⟨⟨⟨by kernel_rfl,Nat.le_refl _,small (by rw [List.length_take,List.length_drop,List.length_take,List.length_drop];omega) (by kernel_rfl),zad (by rw [List.length_take,List.length_drop,List.length_take,List.length_drop];omega),fun r hr=>hleaf r (List.mem_of_mem_drop (List.mem_of_mem_take hr))⟩,by decide,rfl⟩,?_⟩
  conv=>whnf
  (refine zcm [(9990,9990),(1,480)] [] ?_;(conv=>whnf);(refine tWK ?_;and_intros<;>try exact ⟨⟩))
  all_goals first | rfl | exact .inl rfl | (refine zbi (by kernel_rfl) ?_;rw [e1,e2,List.take_length];done) | (rw [e1,e2,List.length_append];done) | trace_state
theorem zl0 (n:Int) {m:Nat} (hm:0 < m) (hm2:m≤4294967296):∃ k:Nat,k < m∧IntKind.i64.wrap ((IntKind.u64.wrap n).tmod (IntKind.u64.wrap (m:Int)))=(k:Int):=by
 have g0:=zfd n
 rw [zbz (n:=(m:Int)) (by omega) (by omega),Int.tmod_eq_emod_of_nonneg g0]
 have g1:=Int.emod_nonneg (IntKind.u64.wrap n) (show (m:Int) ≠ 0 by omega)
 have g2:=Int.emod_lt_of_pos (IntKind.u64.wrap n) (show (0:Int) < m by omega)
 refine ⟨(IntKind.u64.wrap n % (m:Int)).toNat,by omega,?_⟩
 rw [zaf (by omega) (by omega)];omega
theorem z3t (r:Rft) (a:Act) (hm:r.hard.log.length≤maxLen) (hk:Cok (zab r)):∃ c:Conf,Ctr Tryz.prog 101 [.ag r.enc,.ag a.enc] (.ag c.enc) []:=by
 have kc:=zb6 r hm
 have ks:=zui (zab r) hk
 have hsl:=zgo (zab r) 7
 have hml:((zbs (zab r) 7).map Conf.enc).length=(zbs (zab r) 7).length:=List.length_map ..
 generalize hl:zbs (zab r) 7=l at *
 by_cases h5:a.n.tmod 5=0
 ·refine ⟨a.conf,?_⟩
  refine sBody Tryz.func101 ?_;conv=>whnf
  refine tC kc ?_
  refine tC ks ?_
  refine tN1 ?_
  refine tK2 ?_
  refine tK ?_
  exact zaa rfl rfl
 ·by_cases h0:l.length=0
  ·refine ⟨a.conf,?_⟩
   refine sBody Tryz.func101 ?_;conv=>whnf
   refine tC kc ?_
   refine tC ks ?_
   refine tN1 ?_
   refine tK2 ?_
   refine tK ?_
   rw [hml]
   refine tS ?_ ?_<;>intro h
   ·exact zaa rfl rfl
   ·exact absurd (show ((l.length:Nat):Int)=0 by omega) (by first | exact h | (rw [hml] at h;exact h))
  ·obtain ⟨k,hkl,ek⟩:=zl0 a.n (m:=l.length) (by omega) (by omega)
   refine ⟨l[k]'hkl,?_⟩
   have hn0:¬ IntKind.u64.wrap ((l.map Conf.enc).length:Int)=0:=by
    rw [hml,zbz (by omega) (by omega)];omega
   rw [← hml] at ek
   have hrow:(l.map Conf.enc)[0+((k:Nat):Int).toNat]?=some (l[k]'hkl).enc:=by
    rw [Nat.zero_add,Int.toNat_natCast,List.getElem?_map,List.getElem?_eq_getElem hkl];rfl
   generalize l[k]'hkl=c at *
   refine sBody Tryz.func101 ?_;conv=>whnf
   refine tC kc ?_
   refine tC ks ?_
   refine tN1 ?_
   refine tK2 ?_
   refine tK ?_
   refine tS ?_ ?_<;>intro h
   ·exact absurd h (by first | (rw [hml];omega) | omega)
   ·refine ⟨⟨hn0,by decide⟩,?_⟩
    conv=>whnf
    rw [ek]
    refine ⟨⟨by omega,by omega⟩,?_⟩
    conv=>whnf
    refine ⟨_,hrow,?_⟩
    conv=>whnf
    exact zaa rfl rfl
noncomputable def tkR (r:Rft):Rft:=if r.role=3 then beatF r else tickR r
noncomputable def tkO (r:Rft):List (List PV):=if r.role=3 then beatO r else tickO r
theorem tk_stp {n:Nat}{r:Rft} (h:Rp n r.id r) (hn:n≤199):Stp n r (tkR r) (tkO r):=by
 unfold tkR tkO
 by_cases hr:r.role=3
 ·rw [if_pos hr,if_pos hr];exact z28 h hn
 ·rw [if_neg hr,if_neg hr];exact z4u h hn hr
theorem sp_rz:∀ (M:Mem) (w:World) (cs:Array Value),(∀ b,M.nw b→C00 w b)→RVL M w (fsL rzv) cs.toList→SpT M.nw w cs:=by
 intro M w cs h00 h
 have hlen:=h.length
 obtain ⟨u8,g8,v8⟩:=h.get 9 (p:=.nl) rfl
 obtain ⟨u9,g9,v9⟩:=h.get 10 (p:=.nl) rfl
 obtain ⟨ur,gr,vr⟩:=h.get 39 (p:=.nl) rfl
 exact ⟨_,_,_,u8,u9,ur,hlen,by simpa using g8,by simpa using g9,by simpa using gr,zjp v8,zjp v9,zjp vr⟩
theorem row_M {M:Mem}{w:World} (h00:∀ b,M.nw b→C00 w b) (l:List My) (hl:∀ x ∈ l,x.bd.ents.length≤4611686018427387904∧x.bd.snp.length≤4611686018427387904):∀ r ∈ l.map My.enc,∀ g:Nat→Option Value,(∀ (j:Nat) (p:PV),r[j]?=some p→∃ u,g j=some u∧RV M.cf w p u)→gM M.nw w g:=by
 intro r hr g h
 obtain ⟨x,hx,rfl⟩:=List.mem_map.1 hr
 obtain ⟨u0,hu0,hv0⟩:=h 0 _ rfl
 obtain ⟨u9,hu9,hv9⟩:=h 9 x.bd.ev rfl
 obtain ⟨u14,hu14,hv14⟩:=h 14 x.bd.sv rfl
 obtain ⟨u15,hu15,hv15⟩:=h 15 .nl rfl
 simp only [RV] at hv0 hv15
 obtain ⟨ad,e15⟩:=hv15
 refine ⟨⟨x.kind,hv0 ▸ hu0⟩,⟨u9,?_⟩,⟨u14,?_⟩,ad,0,e15 ▸ hu15⟩
 ·cases hb:x.bd with
  | no=>rw [hb] at hv9;exact ⟨0,hu9,zjp hv9⟩
  | sn l=>rw [hb] at hv9;exact ⟨0,hu9,zjp hv9⟩
  | es l =>
   have:=(hl x hx).1
   rw [hb] at hv9 this
   exact ⟨_,hu9,win_sl h00 (by simpa using this) hv9 (row_E _)⟩
 ·cases hb:x.bd with
  | no=>rw [hb] at hv14;exact ⟨0,hu14,zjp hv14⟩
  | es l=>rw [hb] at hv14;exact ⟨0,hu14,zjp hv14⟩
  | sn l =>
   have:=(hl x hx).2
   rw [hb] at hv14 this
   exact ⟨_,hu14,win_sl h00 (by simpa using this) hv14 (row_B _)⟩
theorem sp_mys (l : List My) (hn : l.length ≤ 4611686018427387904) (hl : ∀ x ∈ l, x.bd.ents.length ≤ 4611686018427387904 ∧ x.bd.snp.length ≤ 4611686018427387904) :
    ∀ (M:Mem) (w:World) (v:Value),(∀ b,M.nw b→C00 w b)→RV M w (.fs 16 (l.map My.enc)) v→SpK M.nw w v :=
 fun M w v h00 h=>⟨_,zuu h00 (by simpa using hn) h (row_M h00 l hl)⟩
theorem sp_nl:∀ (M:Mem) (w:World) (v:Value),(∀ b,M.nw b→C00 w b)→RV M w .nl v→SpK M.nw w v:=fun M w v _ h=>⟨0,zjp h⟩
theorem c_TickE (r:Rft) (hr:zbu r=true) (hm:r.hard.log.length < 4294967):CtrE Tryz.prog 12 [.ag (rftE r)] [] (ownO r) (.tu [.ag (tkR r).enc,.sl 16 (tkO r),iv 0]) [] (ownO r):=by
 have hg:=zd8 hr
 have hf:=hg.fit hm
 have ko:=c_ofE r hf.snap (by omega) (by have:=hf.reads;omega) hr
 unfold tkR tkO
 by_cases hn:r.role=3
 ·rw [if_pos hn,if_pos hn]
  have kt:=zqv r hf [] (by decide)
  refine zaj Tryz.func12 ?_;conv=>whnf
  refine tE ([(28,500)],[(9990,9990),(9991,9991),(9992,9992)],[(0,600),(1,601),(2,602),(3,603)]) ko ?_
  refine tS ?_ ?_<;>intro h
  ·refine tER ([(9990,500)],[(9990,600),(9991,601),(9992,602),(9993,603)],[]) kt ?_
   exact eX [(9990,9990),(9991,9991),(9992,9992)]
  ·exact absurd hn h
 ·rw [if_neg hn,if_neg hn]
  have kt:=c_tick r hf [] (by decide)
  refine zaj Tryz.func12 ?_;conv=>whnf
  refine tE ([(28,500)],[(9990,9990),(9991,9991),(9992,9992)],[(0,600),(1,601),(2,602),(3,603)]) ko ?_
  refine tS ?_ ?_<;>intro h
  ·exact absurd h hn
  ·refine tER ([(9990,500)],[(9990,600),(9991,601),(9992,602),(9993,603)],[]) kt ?_
   exact eX [(9990,9990),(9991,9991),(9992,9992)]
theorem zr4 (r:Rft) (m:Mg) (h1:r.hard.snap.length≤4294967296) (h2:r.hard.log.length≤4294967296) (h3:r.reads.length≤4294967296) (hr:zbu r=true) (hm:zfg r m=false):CtrE Tryz.prog 14 [.ag (rftE r),.ag m.enc] [] (ownO r) (.tu [.ag rzv,.nl,iv 1]) [] (ownO r):=by
 have ko:=c_ofE r h1 h2 h3 hr
 have kr:=zrd r m
 rw [hm] at kr
 refine zaj Tryz.func14 ?_;conv=>whnf
 refine tE ([(28,500)],[(9990,9990),(9991,9991),(9992,9992)],[(0,600),(1,601),(2,602),(3,603)]) ko ?_
 refine tB0 kr ?_
 exact eX [(9990,9990),(9991,9991),(9992,9992)]
theorem zw6 (r:Rft) (m:Mg) (h1:r.hard.snap.length≤4294967296) (h2:r.hard.log.length≤4294967296) (h3:r.reads.length≤4294967296) (hr:zbu r=true) (hm:zfg r m=true) (R:Rft) (O:List (List PV)) (k:CtrE Tryz.prog 52 [.pt 9990 0,.ag m.enc] [(9990,repI r [])] (obI r []) (iv 0) [(9990,repX R ([]++O))] obX):CtrE Tryz.prog 14 [.ag (rftE r),.ag m.enc] [] (ownO r) (.tu [.ag R.enc,.sl 16 O,iv 0]) [] (ownO r):=by
 have ko:=c_ofE r h1 h2 h3 hr
 have kr:=zrd r m
 rw [hm] at kr
 refine zaj Tryz.func14 ?_;conv=>whnf
 refine tE ([(28,500)],[(9990,9990),(9991,9991),(9992,9992)],[(0,600),(1,601),(2,602),(3,603)]) ko ?_
 refine tB0 kr ?_
 refine tER ([(9990,500)],[(9990,600),(9991,601),(9992,602),(9993,603)],[]) k ?_
 exact eX [(9990,9990),(9991,9991),(9992,9992)]
theorem zs2 (r:Rft) (m:Mg) (h1:r.hard.snap.length≤4294967296) (h2:r.hard.log.length≤4294967296) (h3:r.reads.length≤4294967296) (hr:zbu r=true) (hm:zfg r m=true) (R:Rft) (O:List (List PV)) (E:Int) (hE:¬ E=0) (k:CtrE Tryz.prog 52 [.pt 9990 0,.ag m.enc] [(9990,repI r [])] (obI r []) (iv E) [(9990,repX R ([]++O))] obX):CtrE Tryz.prog 14 [.ag (rftE r),.ag m.enc] [] (ownO r) (.tu [.ag rzv,.nl,iv E]) [] (ownO r):=by
 have ko:=c_ofE r h1 h2 h3 hr
 have kr:=zrd r m
 rw [hm] at kr
 refine zaj Tryz.func14 ?_;conv=>whnf
 refine tE ([(28,500)],[(9990,9990),(9991,9991),(9992,9992)],[(0,600),(1,601),(2,602),(3,603)]) ko ?_
 refine tB0 kr ?_
 refine tER ([(9990,500)],[(9990,600),(9991,601),(9992,602),(9993,603)],[]) k ?_
 refine tS ?_ ?_<;>intro h
 ·exact eX [(9990,9990),(9991,9991),(9992,9992)]
 ·exact absurd (by first | exact h | (simpa using h)) hE
theorem z19 {n : Nat} {i : Int} (r : Rft) (m : Mg) (h : Rp n i r) (hn : n ≤ 200) (hM : zfg r m = true) (hen : m.entries.length ≤ 8) (hsn : m.snap.length ≤ 1) {R : Rft} {O : List (List PV)} {E : Int} (hk : TK r m R O E) :
    CtrE Tryz.prog 14 [.ag (rftE r),.ag m.enc] [] (ownO r) (if E=0 then .tu [.ag R.enc,.sl 16 O,iv 0] else .tu [.ag rzv,.nl,iv E]) [] (ownO r):=by
 have hl:=h.log
 have hs:=h.snap
 have hr:=(zm3 h.rgt.reads).1
 have k:=zx8 r m h.rgt (by omega) (zq0 hM) (by omega) (by omega) hk
 split
 ·rename_i e
  subst e
  exact zw6 r m (by omega) (by omega) (by omega) (zh6 h.rgt) hM R O k
 ·rename_i e
  exact zs2 r m (by omega) (by omega) (by omega) (zh6 h.rgt) hM R O E e k
end Go.Proofs
