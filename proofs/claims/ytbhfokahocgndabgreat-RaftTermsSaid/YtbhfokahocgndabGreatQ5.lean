import Derived.Test.YtbhfokahocgndabGreatC1
import Derived.Test.YtbhfokahocgndabGreatK4
import Derived.Test.YtbhfokahocgndabGreatH8
import Derived.Test.YtbhfokahocgndabGreatC5
import Derived.Test.YtbhfokahocgndabGreatI1
/- Contracts of functions: a configuration is put into the log, by the program and by the page. -/
set_option linter.unusedSimpArgs false
set_option linter.unusedVariables false
namespace Go.Proofs
open Go.Pv
set_option maxRecDepth 100000
noncomputable abbrev mayB (r:Rft):Bool:=fits r.hard r.commit r.hard.term && decide ((force r.hard (lastI r.hard)).2≤r.commit)
noncomputable def chgE (r:Rft) (c:Conf):Int:=if zdx r=0 then (if mayB r=true then (if nearR (zac r) c=true∧¬ zac r=c then (if r.hard.log.length < 64 then 0 else 5) else 14) else 13) else 11
def nxt (f:Nat→Bool) (v:Int) (a:Arr):Nat→Arr
 | 0=>a
 | k+1=>if f k=true then (nxt f v a k).put k v else nxt f v a k
theorem zgj {f:Nat→Bool}{v:Int}{a:Arr}{k:Nat} (h:f k=true):nxt f v a (k+1)=(nxt f v a k).put k v:=if_pos h
theorem zef {f:Nat→Bool}{v:Int}{a:Arr}{k:Nat} (h:f k=false):nxt f v a (k+1)=nxt f v a k:=if_neg (by rw [h];decide)
noncomputable def newB (was c:Conf) (k:Nat):Bool:=tb (allB c) k && !tb (allB was) k
theorem chgE_ok {r:Rft}{c:Conf} (he:chgE r c=0):zdx r=0∧mayB r=true∧nearR (zac r) c=true∧¬ zac r=c∧r.hard.log.length < 64:=by
 unfold chgE at he
 by_cases h1:zdx r=0
 ·rw [if_pos h1] at he
  by_cases h2:mayB r=true
  ·rw [if_pos h2] at he
   by_cases h3:nearR (zac r) c=true∧¬ zac r=c
   ·rw [if_pos h3] at he
    by_cases h4:r.hard.log.length < 64
    ·exact ⟨h1,h2,h3.1,h3.2,h4⟩
    ·rw [if_neg h4] at he;omega
   ·rw [if_neg h3] at he;omega
  ·rw [if_neg h2] at he;omega
 ·rw [if_neg h1] at he;omega
abbrev ecf (r:Rft) (c:Conf):Ent:=⟨r.hard.term,2,kz,c⟩
noncomputable abbrev nxR (r:Rft) (c:Conf) (k:Nat):Rft:={ r with next:=nxt (newB (zac r) c) (lastI r.hard+1) r.next k }
structure Mx where
 kind:Int
 frm:Int
 to:Int
 term:Int
 index:Int
 logT:Int
 commit:Int
 round:Int
 yes:Bool
 es:PV
 cf:Conf
 sn:PV
abbrev Mx.enc (x:Mx):List PV:=msgV x.kind x.frm x.to x.term x.index x.logT x.commit x.round x.yes x.es x.cf x.sn
def Mx.mute (x:Mx):Prop:=x.kind ≠ 4∧x.kind ≠ 6
def Rows (P:Mx→Prop) (O:List (List PV)):Prop:=∃ L:List Mx,O=L.map Mx.enc∧(∀ x ∈ L,P x)∧L.length≤7
theorem zpb {α:Type}{P:Mx→Prop}{f:α→List PV} (l:List α) (hl:l.length≤7) (h:∀ a,∃ x:Mx,f a=x.enc∧P x):Rows P (l.map f):=by
 have key:∃ L:List Mx,l.map f=L.map Mx.enc∧(∀ x ∈ L,P x)∧L.length=l.length:=by
  clear hl
  induction l with
  | nil=>exact ⟨[],rfl,fun x h=>absurd h (List.not_mem_nil),rfl⟩
  | cons a l ih =>
   obtain ⟨x,e,hx⟩:=h a
   obtain ⟨L,eL,hL,hn⟩:=ih
   refine ⟨x :: L,by rw [List.map_cons,List.map_cons,e,eL],fun y hy=>?_,by rw [List.length_cons,List.length_cons,hn]⟩
   rcases List.mem_cons.1 hy with rfl | hy
   ·exact hx
   ·exact hL y hy
 obtain ⟨L,e,hL,hn⟩:=key
 exact ⟨L,e,hL,by omega⟩
structure Tak (r:Rft) (m:Mg) (R:Rft) (x:Mx):Prop where
 vot:x.kind=4→x.yes=true→m.kind=3∧R.hard.vote=m.frm∧R.hard.term=m.term∧x.to=m.frm∧x.term=R.hard.term∧newer r.hard m.index m.logTerm=true∧R.role=0
 gro:x.kind=6→x.yes=true→x.index≤lastI R.hard∧R.lead=m.frm∧R.role=0∧R.quiet=0∧x.round=m.round ∧
  (m.kind=5→∀ k (h:k < m.entries.length),R.hard.base < m.index+1+k→∃ e,entAt R.hard (m.index+1+k)=some e∧e.term=(m.entries[k]'h).term)
theorem Mx.mute.tak {x:Mx} (h:x.mute) (r:Rft) (m:Mg) (R:Rft):Tak r m R x:=⟨fun e=>absurd e h.1,fun e=>absurd e h.2⟩
structure Got (r:Rft) (m:Mg) (R:Rft):Prop where
 log:R.hard.log.length≤4294000
 base:0≤R.hard.base∧R.hard.base≤1099511627776
 led:r.role=3→r.hard.vote=r.id→m.term≤r.hard.term→R.hard=r.hard∧R.role=3
theorem zjq (r:Rft) (t l:Int):(fallR r t l).hard.base=r.hard.base:=by unfold fallR;split<;>rfl
theorem ztl (r:Rft) (t l:Int):(fallR r t l).role=0:=rfl
theorem fall_id (r:Rft) (t l:Int):(fallR r t l).id=r.id:=rfl
theorem zgs (r:Rft) (m:Mg):(folR r m).hard=r.hard:=zja r m.frm
theorem app_got (x:Rft) (m:Mg) (hl:x.hard.log.length≤4293000):(appR x m).hard.base=x.hard.base∧(appR x m).hard.log.length≤x.hard.log.length+8:=by
 unfold appR
 split
 ·exact ⟨rfl,by omega⟩
 ·split
  ·rename_i he
   rw [zgs]
   exact ⟨zn4 he,zes (by omega) he⟩
  ·exact ⟨rfl,by omega⟩
theorem ze5 (h:Hrd) (i t:Int) (c:Conf) (s:List Int):(instH h i t c s).log.length≤h.log.length:=by
 unfold instH
 show (if fits h i t=true then h.log.drop (i - h.base).toNat else []).length≤_
 split
 ·rw [List.length_drop];omega
 ·exact Nat.zero_le _
theorem lrn_got (x:Rft) (m:Mg):(zcj x m).hard=x.hard∧(zcj x m).role=x.role:=by
 unfold zcj;split<;>exact ⟨rfl,rfl⟩
theorem zbm {m:Mg}{k:Int} (h:m.kind=k):mkM m k=m:=by cases m;cases h;rfl
theorem zdv {m:Mg}{k:Int}{y:Bool} (h:m.kind=k) (hy:m.yes=y):mkY m k y=m:=by cases m;cases h;cases hy;rfl
structure RightM (r:Rft) (m:Mg):Prop where
 frm:0≤m.frm∧m.frm < 7
 ne:m.frm ≠ r.id
 to:m.to=r.id
 kind:1≤m.kind∧m.kind≤8
 term:0≤m.term∧m.term≤1099511627776
 index:0≤m.index∧m.index≤1099511627776
theorem ziw {r:Rft}{m:Mg} (h:zeg r m=true):RightM r m:=by
 unfold zeg at h
 simp only [Bool.and_eq_true,decide_eq_true_eq] at h
 obtain ⟨h1,h2,h3,h4,h5,⟨h6,_⟩,h7,_⟩:=h
 have h1:=zc6 h1
 exact ⟨by omega,h2,h3,⟨h4,h5⟩,zc6 h6,zc6 h7⟩
theorem zfy (r:Rft) (t l:Int):lastI (fallR r t l).hard=lastI r.hard:=by
 unfold lastI
 rw [zci,zjq]
structure Taken (r:Rft) (m:Mg) (R:Rft) (O:List (List PV)) (E:Int):Prop where
 run:CtrE Tryz.prog 52 [.pt 1000000 0,.ag m.enc] [(1000000,repI r [])] (obI r []) (iv E) [(1000000,repX R ([]++O))] obX
 got:E=0→Got r m R
 tak:E=0→Rows (Tak r m R) O
inductive Outc (r:Rft) (m:Mg):Prop
 | bad (E:Int) (hE:¬ E=0) (k:Ctr Tryz.prog 14 [.ag r.enc,.ag m.enc] (.tu [.ag rzv,.nl,iv E]) [])
 | ok (R:Rft) (L:List Mx) (k:Ctr Tryz.prog 14 [.ag r.enc,.ag m.enc] (.tu [.ag R.enc,.sl 16 (L.map Mx.enc),iv 0]) []) (g:Got r m R) (t:∀ x ∈ L,Tak r m R x) (n:L.length≤7) (w:RightM r m) (hr:zcw r=true)
theorem zlp {g:Int}{a:Arr} (h:∀ i,i < 7→0≤a.at i∧a.at i≤g):arrR g a=true:=by
 unfold arrR
 have h0:inR g a.a0=true:=zaf (h 0 (by decide))
 have h1:inR g a.a1=true:=zaf (h 1 (by decide))
 have h2:inR g a.a2=true:=zaf (h 2 (by decide))
 have h3:inR g a.a3=true:=zaf (h 3 (by decide))
 have h4:inR g a.a4=true:=zaf (h 4 (by decide))
 have h5:inR g a.a5=true:=zaf (h 5 (by decide))
 have h6:inR g a.a6=true:=zaf (h 6 (by decide))
 rw [h0,h1,h2,h3,h4,h5,h6];rfl
theorem zf3 {r:Rft} (h:Rgt r):zcw r=true:=by
 have hl:=h.lead
 unfold zcw
 simp only [Bool.and_eq_true,decide_eq_true_eq]
 refine ⟨h.hard,zaf (by have:=h.id;omega),h.com.1,h.com.2,zaf h.role,hl.1,hl.2,zaf h.wait,⟨zaf h.quiet,zaf h.round⟩,zaf h.votes,zlp h.next,zlp h.mtch,zlp h.silent,h.reads,?_⟩
 split
 ·rename_i e;exact decide_eq_true (h.own e)
 ·rfl
theorem zlm {P:Nat→Prop} (h0:P 0) (h1:P 1) (h2:P 2) (h3:P 3) (h4:P 4) (h5:P 5) (h6:P 6):∀ i,i < 7→P i:=by
 intro i hi
 rcases (by omega:i=0∨i=1∨i=2∨i=3∨i=4∨i=5∨i=6) with rfl | rfl | rfl | rfl | rfl | rfl | rfl
 ·exact h0
 ·exact h1
 ·exact h2
 ·exact h3
 ·exact h4
 ·exact h5
 ·exact h6
theorem zA_at:∀ i,i < 7→zA.at i=0:=zlm rfl rfl rfl rfl rfl rfl rfl
theorem allA_at (n:Int):∀ i,i < 7→(allA n).at i=n:=zlm rfl rfl rfl rfl rfl rfl rfl
theorem zib {g:Int} (hg:0≤g):∀ i,i < 7→0≤zA.at i∧zA.at i≤g:=fun i hi=>by rw [zA_at i hi];omega
theorem ziz {a:Arr}{g:Int} (h:∀ i,i < 7→0≤a.at i∧a.at i≤g) {k:Nat}{v:Int} (hv:0≤v∧v≤g):∀ i,i < 7→0≤(a.put k v).at i∧(a.put k v).at i≤g:=by
 have key:∀ i,i < 7→(a.put k v).at i=a.at i∨(a.put k v).at i=v:=by
  by_cases hk:k < 7
  ·rcases (by omega : k = 0 ∨ k = 1 ∨ k = 2 ∨ k = 3 ∨ k = 4 ∨ k = 5 ∨ k = 6) with rfl | rfl | rfl | rfl | rfl | rfl | rfl <;>
     exact zlm (by first | exact .inl rfl | exact .inr rfl) (by first | exact .inl rfl | exact .inr rfl) (by first | exact .inl rfl | exact .inr rfl) (by first | exact .inl rfl | exact .inr rfl) (by first | exact .inl rfl | exact .inr rfl) (by first | exact .inl rfl | exact .inr rfl) (by first | exact .inl rfl | exact .inr rfl)
  ·have e : a.put k v = a := by
     unfold Arr.put
     split<;>first | omega | rfl
   intro i hi
   rw [e];exact .inl rfl
 intro i hi
 rcases key i hi with e | e
 ·rw [e];exact h i hi
 ·rw [e];exact hv
theorem zhu {r:Rft} (h:r.reads=[]):rdsB r=true:=by
 unfold rdsB
 rw [h,if_neg (by show ¬ 4 < 0;omega),if_neg (by show ¬ (0 < 0∧_);omega)];rfl
theorem ztw {c c':Int} (h:c≤c') {x:Rd} (hx:rdB c x=true):rdB c' x=true:=by
 unfold rdB at hx ⊢
 simp only [Bool.and_eq_true] at hx ⊢
 have h1:=zc6 hx.2.1
 exact ⟨hx.1,zaf (by omega),hx.2.2⟩
theorem zh0 {r:Rft} (h:rdsB r=true):r.reads.length≤4∧(0 < r.reads.length→r.role=3)∧∀ x ∈ r.reads,rdB r.commit x=true:=by
 unfold rdsB at h
 split at h
 ·cases h
 ·split at h
  ·cases h
  ·rename_i h1 h2
   rw [List.all_eq_true] at h
   exact ⟨by omega,fun h3=>Classical.byContradiction fun h4=>h2 ⟨h3,h4⟩,h⟩
theorem zmf {r:Rft} (h1:r.reads.length≤4) (h2:0 < r.reads.length→r.role=3) (h3:∀ x ∈ r.reads,rdB r.commit x=true):rdsB r=true:=by
 unfold rdsB
 rw [if_neg (by omega),if_neg (fun h=>h.2 (h2 h.1)),List.all_eq_true]
 exact h3
theorem zir {h:Hrd} (hh:hardB h=true) {t v:Int} (ht:h.term≤t∧t≤1099511627776) (hv:-1≤v∧v≤6):hardB { h with term:=t,vote:=v }=true:=by
 obtain ⟨hA,h2,h3,h4⟩:=za9 hh
 have hA':HardA { h with term:=t,vote:=v }:=⟨by have:=hA.t;show 0≤t∧t≤_;omega,hv,hA.b,by have:=hA.bt;show 0≤h.baseTerm∧h.baseTerm≤t;omega,hA.z⟩
 unfold hardB
 rw [zec hA',show (({ h with term:=t,vote:=v }:Hrd)).baseConf=h.baseConf from rfl,h2,decide_eq_true h3,zm4 _ _ _ _ ht.1 h4];rfl
theorem zsq {r:Rft} (h:Rgt r) {t l:Int} (ht:r.hard.term≤t∧t≤1099511627776) (hl:-1≤l∧l < 7):Rgt (fallR r t l):=by
 have hd:=zdo (zac r) h.id
 have hc:=h.com
 have hb:=(za9 h.hard).1.b
 have hz:∀ i,i < 7→0≤zA.at i∧zA.at i≤1099511627776:=zib (by decide)
 refine ⟨?_,h.id,⟨by rw [zjq];exact hc.1,by rw [zfy];exact hc.2⟩,by show (0:Int)≤0∧(0:Int)≤3;decide,hl,⟨hd.1,Int.le_trans hd.2 (by decide)⟩,h.quiet,h.round,by show (0:Int)≤0∧(0:Int)≤127;decide,hz,by rw [zfy];exact zib (by omega),hz,zhu rfl,fun e=>absurd e (by show ¬ (0:Int)=3;decide)⟩
 show hardB (if t > r.hard.term then { r.hard with term:=t,vote:=-1 } else r.hard)=true
 split
 ·exact zir h.hard ht (by decide)
 ·exact h.hard
theorem zk0 {h:Hrd} (hh:hardB h=true) (hl:h.log.length≤4294967) {c:Int} (m:Arr) (hc:h.base≤c∧c≤lastI h):c≤zdh h c m∧zdh h c m≤lastI h:=by
 have hla:=zdr hh hl
 refine ⟨zl6 _,?_⟩
 unfold zdh
 rcases znb (p:=hit h m) (base:=h.base) (commit:=c) (h.log.length+1) with e | e
 ·rw [e];exact hc.2
 ·rw [hla];omega
theorem zu9 {h:Hrd} (hh:hardB h=true) {x:Ent} (hx:zds x=true) (ht:x.term=h.term) (h1:1≤h.term):hardB { h with log:=h.log++[x] }=true:=by
 obtain ⟨hA,h2,h3,h4⟩:=za9 hh
 refine zm8 hh ?_
 rw [zd6,h4,Bool.true_and]
 have hb:zbc h.log h.baseTerm h.log.length≤h.term:=by
  cases hn:h.log.length with
  | zero=>rw [zei];exact hA.bt.2
  | succ k=>exact hn ▸ (zk5 h4 (q:=h.log.length) (by omega) (Nat.le_refl _)).2
 unfold rowB
 rw [hx,decide_eq_true (show max (zbc h.log h.baseTerm h.log.length) 1≤x.term∧x.term≤h.term by omega)]
 rfl
theorem zmx {r:Rft} (h:Rgt r) (hl:r.hard.log.length < 4294960) (x:Ent):lastI (logR r x)=lastI r.hard+1∧(logR r x).log.length=r.hard.log.length+1:=by
 have hb:=(za9 h.hard).1.b
 have e:(logR r x).log.length=r.hard.log.length+1:=by rw [List.length_append];rfl
 have eb:(logR r x).base=r.hard.base:=rfl
 refine ⟨?_,e⟩
 rw [zbk (h:=logR r x) hb.1 (by rw [e,eb];omega),zbk (h:=r.hard) hb.1 (by omega),e,eb]
 omega
theorem znt {r:Rft} (h:Rgt r) (hl:r.hard.log.length < 4294960) {x:Ent} (hx:zds x=true) (ht:x.term=r.hard.term) (h1:1≤r.hard.term):Rgt (addR r x):=by
 have hh:hardB (logR r x)=true:=zu9 h.hard hx ht h1
 obtain ⟨e1,e2⟩:=zmx h hl x
 have hb:=(za9 h.hard).1.b
 have hc:=h.com
 have hcf:=zk0 hh (by omega) (c:=r.commit) (r.mtch.put r.id.toNat (lastI (logR r x))) ⟨hc.1,by rw [e1];omega⟩
 have hm:∀ i,i < 7→0≤r.mtch.at i∧r.mtch.at i≤lastI (logR r x):=fun i hi=>by have:=h.mtch i hi;rw [e1];omega
 obtain ⟨q1,q2,q3⟩:=zh0 h.reads
 refine ⟨hh,h.id,⟨Int.le_trans hc.1 hcf.1,hcf.2⟩,h.role,h.lead,h.wait,h.quiet,h.round,h.votes,h.next,ziz hm (by rw [e1];omega),h.silent,zmf q1 q2 fun y hy=>ztw hcf.1 (q3 y hy),h.own⟩
theorem et_yes (t:Int):zds (et t)=true:=by
 unfold zds
 rw [if_pos rfl]
 rfl
theorem zii {n:Int} (h:0≤n):0≤farM n∧farM n≤1099511627776:=by unfold farM;split<;>omega
theorem zrx {r:Rft} (h:Rgt r) (hl:r.hard.log.length < 4294960) (h1:1≤r.hard.term) (hla:lastI r.hard < 1099511627776):Rgt (leadR r):=by
 have hr:=h.round
 have hz:∀ i,i < 7→0≤zA.at i∧zA.at i≤1099511627776:=zib (by decide)
 have hb:=(za9 h.hard).1.b
 have hc:=h.com
 have h0:Rgt (led0 r):=⟨h.hard,h.id,h.com,by show (0:Int)≤3∧(3:Int)≤3;decide,by have:=h.id;show -1≤r.id∧r.id < 7;omega,h.wait,by show (0:Int)≤0∧(0:Int)≤1099511627776;decide,zii (by omega),by show (0:Int)≤0∧(0:Int)≤127;decide,h.next,zib (by show 0≤lastI r.hard;omega),hz,zhu rfl,fun _=>rfl⟩
 have h2:=znt h0 hl (et_yes r.hard.term) rfl h1
 obtain ⟨e1,e2⟩:=zmx h hl (et r.hard.term)
 refine ⟨h2.hard,h2.id,h2.com,h2.role,h2.lead,h2.wait,h2.quiet,h2.round,h2.votes,?_,h2.mtch,h2.silent,h2.reads,h2.own⟩
 intro i hi
 show 0≤(allA (lastI (logR r (et r.hard.term)))).at i∧(allA (lastI (logR r (et r.hard.term)))).at i≤_
 rw [allA_at _ i hi,e1];omega
theorem zgt {i:Int} (h:0≤i∧i < 7):0≤shl 1 i∧shl 1 i≤127:=by
 obtain ⟨n,rfl⟩:∃ n:Nat,i=n:=⟨i.toNat,by omega⟩
 exact shl_fit (by omega)
theorem zui {r:Rft} (h:Rgt r) (ht:r.hard.term < 1099511627776) (hn:r.reads=[]):Rgt (stdR r):=by
 have hd:=zdo (zac (std0 r)) h.id
 have hid:=h.id
 have hT:=(za9 h.hard).1.t
 refine ⟨zir h.hard (by omega) (by omega),h.id,h.com,by show (0:Int)≤2∧(2:Int)≤3;decide,by show (-1:Int)≤-1∧(-1:Int) < 7;decide,⟨hd.1,Int.le_trans hd.2 (by decide)⟩,h.quiet,h.round,zgt h.id,h.next,h.mtch,h.silent,zhu hn,fun e=>absurd e (by show ¬ (2:Int)=3;decide)⟩
theorem zij {r:Rft} (h:Rgt r) (hn:r.role ≠ 3):r.reads=[]:=by
 obtain ⟨_,q2,_⟩:=zh0 h.reads
 apply Classical.byContradiction
 intro hne
 exact hn (q2 (List.length_pos_iff.2 hne))
theorem zly {r:Rft} (h:Rgt r):Rgt (tq r):=⟨h.hard,h.id,h.com,h.role,h.lead,h.wait,zii (by have:=h.quiet;omega),h.round,h.votes,h.next,h.mtch,h.silent,h.reads,h.own⟩
theorem zyu {r:Rft} (h:Rgt r):Rgt (tw r):=⟨h.hard,h.id,h.com,h.role,h.lead,by
 have:=h.wait
 show 0≤zeroM (r.wait - 1)∧zeroM (r.wait - 1)≤100
 unfold zeroM
 split<;>omega,(zly h).quiet,h.round,h.votes,h.next,h.mtch,h.silent,h.reads,h.own⟩
theorem zzv {r:Rft} (h:Rgt r) (hn:r.role ≠ 3):Rgt (taR r):=by
 have hd:=zdo (zac (ta r)) h.id
 exact ⟨h.hard,h.id,h.com,by show (0:Int)≤1∧(1:Int)≤3;decide,by show (-1:Int)≤-1∧(-1:Int) < 7;decide,⟨hd.1,Int.le_trans hd.2 (by decide)⟩,(zly h).quiet,h.round,zgt h.id,h.next,h.mtch,h.silent,zhu (show r.reads=[] from zij h hn),fun e=>absurd e (by show ¬ (1:Int)=3;decide)⟩
theorem zwr {a b:Int} (ha:0≤a∧a≤127) (hb:0≤b∧b≤127):0≤bor a b∧bor a b≤127:=zlv ha hb
theorem zyy {r:Rft} (h:Rgt r) {m:Mg} (hf:0≤m.frm∧m.frm < 7):Rgt (vtR r m):=⟨h.hard,h.id,h.com,h.role,h.lead,h.wait,h.quiet,h.round,zwr h.votes (zgt hf),h.next,h.mtch,h.silent,h.reads,h.own⟩
theorem ziy {r:Rft} (h:Rgt r) {m:Mg} (hf:0≤m.frm∧m.frm < 7) {H:Hrd}{c:Int} (hh:hardB H=true) (ht:H.term=r.hard.term) (hc:H.base≤c∧c≤lastI H):Rgt (folR (setH r H c) m):=by
 have hT:=(za9 hh).1.t
 have hd:=zdo (zac (setH r H c)) h.id
 have hz:∀ i,i < 7→0≤zA.at i∧zA.at i≤1099511627776:=zib (by decide)
 have hb:=(za9 hh).1.b
 have e:=zgs (setH r H c) m
 refine ⟨by rw [e];exact hh,h.id,by rw [e];exact hc,by show (0:Int)≤0∧(0:Int)≤3;decide,by show -1≤m.frm∧m.frm < 7;omega,⟨hd.1,Int.le_trans hd.2 (by decide)⟩,by show (0:Int)≤0∧(0:Int)≤1099511627776;decide,h.round,by show (0:Int)≤0∧(0:Int)≤127;decide,hz,by rw [e];exact zib (by show 0≤lastI H;omega),hz,zhu rfl,fun e=>absurd e (by show ¬ (0:Int)=3;decide)⟩
theorem zlc {h:Hrd}{c:Int}{m:Mg} (hl:h.log.length≤4294000) (e:growE h c m=0):hardB (growO h c m).h=true∧(growO h c m).h.term=h.term:=by
 obtain ⟨h1,h2⟩:=zfv e
 cases hf:fits h (gP h m) (gT h m) with
 | false=>rw [(zg0 h1 h2 hf).2];exact ⟨h1,rfl⟩
 | true =>
  obtain ⟨n,k⟩:=zol (by omega) e hf
  have hr:=k.ko.right
  rw [k.ko.log] at hr
  rw [k.out]
  exact ⟨hr,rfl⟩
theorem zt4 {r:Rft} (h:Rgt r) {m:Mg} (hf:0≤m.frm∧m.frm < 7) (hl:r.hard.log.length≤4294000) (he:appE r m=0):Rgt (appR r m):=by
 unfold appE at he
 unfold appR
 split
 ·exact h
 ·rename_i hr
  rw [if_neg hr] at he
  rw [if_pos he]
  obtain ⟨g1,g2⟩:=zlc hl he
  obtain ⟨q1,q2,_⟩:=zic hl he
  have hc:=h.com
  exact ziy h hf g1 g2 ⟨by rw [zn4 he];omega,q2⟩
theorem zr1 {h:Hrd}{i t:Int}{c:Conf}{s:List Int} (hl:h.log.length≤4294967) (e:instE h i t c s=0):hardB (instH h i t c s)=true∧(instH h i t c s).term=h.term:=by
 obtain ⟨hh,h1,hc,hs⟩:=zuq e
 have hb:=(za9 hh).1.b
 refine ⟨?_,rfl⟩
 cases hf:fits h i t with
 | true =>
  obtain ⟨q,hq⟩:∃ q:Nat,i=h.base+q:=⟨(i - h.base).toNat,by omega⟩
  have hin:=zo9 (a:=h) (i:=i) (t:=t) (by omega) hf h1.1.1
  rw [zwi hq (by omega) hf]
  exact zp5 hh (by omega) (by omega) (by omega) hc (by omega)
 | false =>
  have:=zx3 hh h1 hc (s:=s) (by omega)
  unfold instH
  rw [hf,if_neg (by decide)]
  exact this
theorem ztn {r:Rft} (h:Rgt r) {m:Mg} (hf:0≤m.frm∧m.frm < 7) (hl:r.hard.log.length≤4294000) (hi:0≤m.index∧m.index≤1099511627776) (he:insE r m=0):Rgt (insR r m):=by
 unfold insE at he
 unfold insR
 split
 ·exact h
 ·rename_i hr
  rw [if_neg hr] at he
  split
  ·rename_i hlt
   rw [if_pos hlt] at he
   rw [if_pos he]
   obtain ⟨g1,g2⟩:=zr1 (by omega) he
   refine ziy h hf g1 g2 ⟨Int.le_refl _,?_⟩
   have hl2:(insHH r m).log.length≤r.hard.log.length:=ze5 r.hard m.index m.logTerm m.conf m.snap
   rw [zbk (h:=insHH r m) (by show 0≤m.index;omega) (by show m.index+(((insHH r m).log.length:Nat):Int) < _;omega)]
   show m.index≤m.index+_
   omega
  ·exact ziy (H:=r.hard) (c:=r.commit) h hf h.hard rfl h.com
theorem zxa {r:Rft} (h:Rgt r) {m:Mg} (hf:0≤m.frm∧m.frm < 7) (hl:r.hard.log.length≤4294000) (hi:0≤m.index∧m.index≤1099511627776) (hla:lastI r.hard < 1099511627776):Rgt (zcj r m):=by
 unfold zcj
 split
 ·rename_i hro
  have hmx:=h.mtch m.frm.toNat (by omega)
  have hnx:=h.next m.frm.toNat (by omega)
  have hc:=h.com
  have hb:=(za9 h.hard).1.b
  have hI:0≤lrnI r m∧lrnI r m≤lastI r.hard:=by unfold lrnI;split<;>omega
  have hmm:∀ i,i < 7→0≤(lrnMt r m).at i∧(lrnMt r m).at i≤lastI r.hard:=ziz h.mtch (by
   unfold nxM
   split<;>omega)
  have hnn:∀ i,i < 7→0≤(lrnNx r m).at i∧(lrnNx r m).at i≤1099511627776:=ziz h.next (by
   unfold nxN
   split<;>omega)
  have hcf:=zk0 h.hard (by omega) (c:=r.commit) (lrnMt r m) hc
  obtain ⟨q1,q2,q3⟩:=zh0 h.reads
  refine ⟨h.hard,h.id,⟨Int.le_trans hc.1 hcf.1,hcf.2⟩,h.role,h.lead,h.wait,h.quiet,h.round,h.votes,hnn,hmm,ziz h.silent (by omega),zmf (by show (r.reads.map _).length≤4;rw [List.length_map];exact q1) (fun _=>hro) fun y hy=>?_,h.own⟩
  obtain ⟨x,hx,rfl⟩:=List.mem_map.1 hy
  have hx:=ztw hcf.1 (q3 x hx)
  unfold ack1
  split
  ·unfold rdB at hx ⊢
   simp only [Bool.and_eq_true] at hx ⊢
   exact ⟨hx.1,hx.2.1,hx.2.2.1,zaf (zwr (zc6 hx.2.2.2) (zgt hf))⟩
  ·exact hx
 ·exact h
end Go.Proofs
