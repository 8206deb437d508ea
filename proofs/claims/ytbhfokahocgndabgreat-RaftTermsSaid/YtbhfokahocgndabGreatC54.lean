import Derived.Test.YtbhfokahocgndabGreatC47
import Derived.Test.YtbhfokahocgndabGreatC1
import Derived.Test.YtbhfokahocgndabGreatC13
/- Plain law: what becomes of a log by a message. -/
set_option linter.unusedSimpArgs false
set_option linter.unusedVariables false
namespace Go.Proofs
open Go.Pv
set_option maxRecDepth 100000
abbrev emax (a b:Int):Int:=if b > a then b else a
abbrev emin (a b:Int):Int:=if b < a then b else a
theorem emax_eq (a b:Int):emax a b=max a b:=by unfold emax;split<;>omega
theorem zlo (a b:Int):emin a b=min a b:=by unfold emin;split<;>omega
def zdy (h:Hrd) (c:Int) (m:Mg):Prop:=(h.base≤c∧c≤lastI h)∧(0≤m.index∧m.index≤1099511627776)∧0≤m.logTerm∧0≤m.commit∧(m.entries.length:Int)≤8
instance (h:Hrd) (c:Int) (m:Mg):Decidable (zdy h c m):=by unfold zdy;infer_instance
def gP (h:Hrd) (m:Mg):Int:=if m.index < h.base then h.base else m.index
def gT (h:Hrd) (m:Mg):Int:=if m.index < h.base then h.baseTerm else m.logTerm
def gL (h:Hrd) (m:Mg):List Ent:=m.entries.drop (h.base - m.index).toNat
def gBrk (h:Hrd) (c p:Int) (l:List Ent):Bool:=(List.range l.length).any fun k=>decide (p+1+k≤c) && (zbh h (p+1+k) != (l.getD k ez).term)
theorem zkm {h:Hrd}{c p:Int}{l:List Ent}{k:Nat} (hk:k < l.length) (h1:p+1+k≤c) (h2:zbh h (p+1+k) ≠ (l[k]'hk).term):gBrk h c p l=true:=by
 unfold gBrk
 rw [List.any_eq_true]
 refine ⟨k,List.mem_range.2 hk,?_⟩
 have e:l.getD k ez=l[k]'hk:=by rw [List.getD_eq_getElem?_getD,List.getElem?_eq_getElem hk];rfl
 rw [e]
 simp only [Bool.and_eq_true,decide_eq_true_eq,bne_iff_ne,ne_eq]
 exact ⟨h1,h2⟩
theorem zy5 {h:Hrd}{c p:Int}{l:List Ent} (hb:gBrk h c p l=false):∀ k (hk:k < l.length),p+1+k≤c→zbh h (p+1+k)=(l[k]'hk).term:=by
 intro k hk h1
 apply Classical.byContradiction
 intro hn
 rw [zkm hk h1 hn] at hb
 cases hb
theorem gBrk_f {h:Hrd}{c p:Int}{l:List Ent} (hh:∀ k (hk:k < l.length),p+1+k≤c→zbh h (p+1+k)=(l[k]'hk).term):gBrk h c p l=false:=by
 cases hb:gBrk h c p l with
 | false=>rfl
 | true =>
  unfold gBrk at hb
  rw [List.any_eq_true] at hb
  obtain ⟨k,hk,hx⟩:=hb
  have hk:=List.mem_range.1 hk
  have e:l.getD k ez=l[k]'hk:=by rw [List.getD_eq_getElem?_getD,List.getElem?_eq_getElem hk];rfl
  rw [e] at hx
  simp only [Bool.and_eq_true,decide_eq_true_eq,bne_iff_ne,ne_eq] at hx
  exact absurd (hh k hk hx.1) hx.2
noncomputable def growE (h:Hrd) (c:Int) (m:Mg):Int:=if hardB h=true then (if zdy h c m then (if fits h (gP h m) (gT h m)=true then (if gBrk h c (gP h m) (gL h m)=true then 13 else putHE h (gP h m) (gL h m)) else 0) else 1) else 6
structure GOut where
 h:Hrd
 c:Int
 yes:Bool
 i:Int
def growO (h:Hrd) (c:Int) (m:Mg):GOut:=if fits h (gP h m) (gT h m)=true then ⟨putH h (gP h m) (gL h m),emax c (emin m.commit (gP h m+(gL h m).length)),true,gP h m+(gL h m).length⟩ else ⟨h,c,false,emax (emin (lastI h) (gP h m - 1)) h.base⟩
theorem zfv {h:Hrd}{c:Int}{m:Mg} (e:growE h c m=0):hardB h=true∧zdy h c m:=by
 unfold growE at e
 by_cases h1:hardB h=true
 ·rw [if_pos h1] at e
  by_cases h2:zdy h c m
  ·exact ⟨h1,h2⟩
  ·rw [if_neg h2] at e;omega
 ·rw [if_neg h1] at e;omega
theorem zg0 {h:Hrd}{c:Int}{m:Mg} (h1:hardB h=true) (h2:zdy h c m) (hf:fits h (gP h m) (gT h m)=false):growE h c m=0∧growO h c m=⟨h,c,false,emax (emin (lastI h) (gP h m - 1)) h.base⟩:=by
 unfold growE growO
 rw [if_pos h1,if_pos h2,hf,if_neg (by decide),if_neg (by decide)]
 exact ⟨rfl,rfl⟩
theorem ziv {h:Hrd}{c:Int}{m:Mg} (h1:hardB h=true) (h2:zdy h c m) (hf:fits h (gP h m) (gT h m)=true) (hb:gBrk h c (gP h m) (gL h m)=true):growE h c m=13:=by
 unfold growE
 rw [if_pos h1,if_pos h2,if_pos hf,if_pos hb]
theorem zg7 {h:Hrd}{c:Int}{m:Mg} (h1:hardB h=true) (h2:zdy h c m) (hf:fits h (gP h m) (gT h m)=true) (hb:gBrk h c (gP h m) (gL h m)=false):growE h c m=putHE h (gP h m) (gL h m)∧growO h c m=⟨putH h (gP h m) (gL h m),emax c (emin m.commit (gP h m+(gL h m).length)),true,gP h m+(gL h m).length⟩:=by
 unfold growE growO
 rw [if_pos h1,if_pos h2,if_pos hf,if_pos hf,hb,if_neg (by decide)]
 exact ⟨rfl,rfl⟩
theorem zqf (h:Hrd) (m:Mg):(gL h m).length≤m.entries.length:=by unfold gL;rw [List.length_drop];omega
theorem growOk {h:Hrd}{c:Int}{m:Mg} (hl:h.log.length≤4294967) (e:growE h c m=0) (hf:fits h (gP h m) (gT h m)=true):∃ n,PutOk h (gP h m) (gL h m) n∧zdy h c m∧gBrk h c (gP h m) (gL h m)=false:=by
 obtain ⟨h1,h2⟩:=zfv e
 cases hb:gBrk h c (gP h m) (gL h m) with
 | true=>rw [ziv h1 h2 hf hb] at e;omega
 | false =>
  rw [(zg7 h1 h2 hf hb).1] at e
  obtain ⟨n,ko⟩:=putOk e hl
  exact ⟨n,ko,h2,rfl⟩
theorem zm0:∀ (g l:List Ent) (d:Nat),d≤g.length→(∀ k (_:k < d) (h2:k < l.length) (h3:k < g.length),(g[k]'h3).term=(l[k]'h2).term)→(putM g l).take d=g.take d
 | g,[],d,_,_=>by cases g<;>rfl
 | [],x :: l,d,hd,_=>by
  have e:d=0:=by simpa using hd
  subst e;rfl
 | y :: g,x :: l,0,_,_=>by simp
 | y :: g,x :: l,d+1,hd,h=>by
  have h0:=h 0 (by omega) (by simp) (by simp)
  simp only [List.getElem_cons_zero] at h0
  rw [putM,if_pos h0,List.take_succ_cons,List.take_succ_cons,zm0 g l d (by simpa using hd) ?_]
  intro k h1 h2 h3
  have:=h (k+1) (by omega) (by simpa using h2) (by simpa using h3)
  simpa using this
theorem zva {g l:List Ent}{n d:Nat} (hn:n≤g.length) (hd:d≤g.length) (h:∀ k (h2:k < l.length) (h3:n+k < g.length),n+k < d→(g[n+k]'h3).term=(l[k]'h2).term):(putG g n l).take d=g.take d:=by
 by_cases hdn:d≤n
 ·have e:=congrArg (List.take d) (zha g l hn)
  rw [List.take_take,List.take_take,Nat.min_eq_left hdn] at e
  exact e
 ·obtain ⟨q,rfl⟩:∃ q,d=n+q:=⟨d - n,by omega⟩
  rw [List.take_add,zha g l hn,zgy g l hn,zm0 (g.drop n) l q (by rw [List.length_drop];omega) ?_,← List.take_add]
  intro k h1 h2 h3
  rw [List.getElem_drop]
  exact h k h2 (by rw [List.length_drop] at h3;omega) (by omega)
theorem zve (g l:List Ent) {n:Nat} (hn:n≤g.length):n+l.length≤(putG g n l).length:=by
 have:=(zhh (g.drop n) l).2
 unfold putG
 rw [List.length_append,List.length_take]
 omega
theorem zo5 {h:Hrd}{k:Nat} (hk:k < h.log.length):zbh h (h.base+1+k)=(h.log[k]'hk).term:=by
 rw [zd1 (n:=k+1) (by omega) (by omega),zbr hk]
theorem zuw {h:Hrd}{c:Int}{p:Int}{l:List Ent}{n:Nat} (ko:PutOk h p l n) (hb:gBrk h c p l=false) (hc:c≤h.base+h.log.length):(putG h.log n l).take (c - h.base).toNat=h.log.take (c - h.base).toNat:=by
 refine zva ko.le (by omega) ?_
 intro k h2 h3 hlt
 have hat:=ko.at'
 have:=zy5 hb k h2 (by omega)
 rw [show p+1+(k:Int)=h.base+1+((n+k:Nat):Int) by omega,zo5 h3] at this
 exact this
theorem zt2 {h:Hrd}{c:Int}{p:Int}{l:List Ent}{n:Nat} (ko:PutOk h p l n) (hb:gBrk h c p l=false) (hc:c≤h.base+h.log.length):c≤h.base+(putG h.log n l).length:=by
 have e:=congrArg List.length (zuw ko hb hc)
 rw [List.length_take,List.length_take] at e
 omega
theorem zdr {h:Hrd} (hh:hardB h=true) (hl:h.log.length≤4294967):lastI h=h.base+h.log.length:=by
 have:=(za9 hh).1.b
 exact zbk this.1 (by omega)
structure GrowFit (h:Hrd) (c:Int) (m:Mg) (n:Nat):Prop where
 ko:PutOk h (gP h m) (gL h m) n
 right:zdy h c m
 brk:gBrk h c (gP h m) (gL h m)=false
 out:growO h c m=⟨{ h with log:=putG h.log n (gL h m) },emax c (emin m.commit (gP h m+(gL h m).length)),true,gP h m+(gL h m).length⟩
theorem zol {h:Hrd}{c:Int}{m:Mg} (hl:h.log.length≤4294967) (e:growE h c m=0) (hf:fits h (gP h m) (gT h m)=true):∃ n,GrowFit h c m n:=by
 obtain ⟨n,ko,hr,hb⟩:=growOk hl e hf
 refine ⟨n,ko,hr,hb,?_⟩
 rw [(zg7 ko.hard hr hf hb).2,ko.log]
theorem GrowFit.last {h:Hrd}{c:Int}{m:Mg}{n:Nat} (k:GrowFit h c m n) (hl:h.log.length≤4294000):lastI (growO h c m).h=h.base+(putG h.log n (gL h m)).length∧(growO h c m).h.log.length≤4294967:=by
 have hb:=(za9 k.ko.hard).1.b
 have h8:=k.right.2.2.2.2
 have h1:=zqf h m
 have h2:=zv2 h.log (gL h m) k.ko.le
 rw [k.out]
 refine ⟨?_,?_⟩
 ·refine zbk hb.1 ?_
  show h.base+((putG h.log n (gL h m)).length:Int) < _
  omega
 ·show (putG h.log n (gL h m)).length≤_
  omega
theorem GrowFit.le {h:Hrd}{c:Int}{m:Mg}{n:Nat} (k:GrowFit h c m n) (hl:h.log.length≤4294000):c≤h.base+(putG h.log n (gL h m)).length∧gP h m+(gL h m).length≤h.base+(putG h.log n (gL h m)).length:=by
 have hc:=k.right.1.2
 rw [zdr k.ko.hard (by omega)] at hc
 have h1:=zt2 k.ko k.brk hc
 have h2:=zve h.log (gL h m) k.ko.le
 have h3:=k.ko.at'
 exact ⟨h1,by omega⟩
theorem zic {h:Hrd}{c:Int}{m:Mg} (hl:h.log.length≤4294000) (e:growE h c m=0):c≤(growO h c m).c∧(growO h c m).c≤lastI (growO h c m).h∧((growO h c m).yes=false→(growO h c m).c=c)∧((growO h c m).c=c∨((growO h c m).c≤m.commit∧(growO h c m).c≤(growO h c m).i)):=by
 obtain ⟨h1,h2⟩:=zfv e
 cases hf:fits h (gP h m) (gT h m) with
 | false =>
  rw [(zg0 h1 h2 hf).2]
  exact ⟨Int.le_refl _,h2.1.2,fun _=>rfl,.inl rfl⟩
 | true =>
  obtain ⟨n,k⟩:=zol (by omega) e hf
  obtain ⟨k1,k2⟩:=k.le hl
  rw [(k.last hl).1,k.out]
  simp only [emax_eq,zlo]
  refine ⟨by omega,by omega,(fun x=>by cases x),by omega⟩
theorem zn4 {h:Hrd}{c:Int}{m:Mg} (e:growE h c m=0):(growO h c m).h.base=h.base:=by
 unfold growO;split<;>rfl
theorem ztv {h:Hrd}{c:Int}{m:Mg} (e:growE h c m=0):(growO h c m).h.snap=h.snap:=by
 unfold growO;split<;>rfl
theorem zes {h:Hrd}{c:Int}{m:Mg} (hl:h.log.length≤4294000) (e:growE h c m=0):(growO h c m).h.log.length≤h.log.length+8:=by
 obtain ⟨h1,h2⟩:=zfv e
 cases hf:fits h (gP h m) (gT h m) with
 | false=>rw [(zg0 h1 h2 hf).2];show h.log.length≤_;omega
 | true =>
  obtain ⟨n,k⟩:=zol (by omega) e hf
  have h8:=k.right.2.2.2.2
  have h3:=zqf h m
  have h4:=zv2 h.log (gL h m) k.ko.le
  rw [k.out]
  show (putG h.log n (gL h m)).length≤_
  omega
abbrev mzv:List PV:=[iv 0,iv 0,iv 0,iv 0,iv 0,iv 0,iv 0,iv 0,bv false,.nl,iv 0,iv 0,iv 0,iv 0,.nl,.nl]
abbrev ansV (yes:Bool) (i:Int):List PV:=[iv 6,iv 0,iv 0,iv 0,iv i,iv 0,iv 0,iv 0,bv yes,.nl,iv 0,iv 0,iv 0,iv 0,.nl,.nl]
def resG (e:Int) (o:GOut):PV:=if e=0 then .tu [.ag (o.h.own 0),iv o.c,.ag (ansV o.yes o.i),iv 0] else .tu [.ag hzv,iv 0,.ag mzv,iv e]
def resGO (e:Int) (o:GOut):List (Nat×List (List PV)):=if e=0 then o.h.obs else []
def resGW (e:Int) (o:GOut):PV:=if e=0 then .tu [.ag o.h.enc,iv o.c,.ag (ansV o.yes o.i),iv 0] else .tu [.ag hzv,iv 0,.ag mzv,iv e]
theorem zzu {f:Nat}{ps:List PV}{e:Int}{o:GOut} (h:Ctr Tryz.prog f ps (resG e o) (resGO e o)):Ctr Tryz.prog f ps (resGW e o) []:=by
 unfold resG resGO at h
 unfold resGW
 by_cases he:e=0
 ·rw [if_pos he,if_pos he] at h
  rw [if_pos he]
  refine h.frz (zah ?_)
  refine ⟨zag ?_,zaj _ rfl,zaj _ rfl,zaj _ rfl,rfl⟩
  conv=>whnf
  repeat' (first | exact rfl | ((with_reducible refine And.intro ?_ ?_)<;>(first | (with_reducible exact zaj _ rfl) | exact zbw (b:=false) (List.Mem.head _) rfl | exact zbw (b:=false) (List.Mem.tail _ (List.Mem.head _)) rfl | (conv=>whnf))))
 ·rw [if_neg he,if_neg he] at h
  rw [if_neg he]
  exact h
theorem zfg {e:Int}{o:GOut} (he:e=0):resG e o=.tu [.ag (o.h.own 0),iv o.c,.ag (ansV o.yes o.i),iv 0]∧resGO e o=o.h.obs∧resGW e o=.tu [.ag o.h.enc,iv o.c,.ag (ansV o.yes o.i),iv 0]:=by
 subst he;exact ⟨rfl,rfl,rfl⟩
theorem zc9 {e:Int}{o:GOut} (he:¬ e=0):resG e o=.tu [.ag hzv,iv 0,.ag mzv,iv e]∧resGO e o=[]∧resGW e o=.tu [.ag hzv,iv 0,.ag mzv,iv e]:=by
 unfold resG resGO resGW
 rw [if_neg he,if_neg he,if_neg he];exact ⟨rfl,rfl,rfl⟩
theorem zyo (a:Hrd) (hm:a.log.length≤maxLen) (c:Int) (m:Mg):Ctr Tryz.prog 210 [.ag a.enc,iv c,.ag m.enc] (bv (decide (zdy a c m))) []:=by
 by_cases hg:zdy a c m
 ·rw [decide_eq_true hg]
  obtain ⟨⟨g1,g2⟩,⟨g3,g4⟩,g5,g6,g7⟩:=hg
  refine sBody Tryz.func210 ?_;conv=>whnf
  ((try (refine Exists.intro none ?_;conv=>whnf));(with_reducible refine zaa (zd4 a hm) ?_);conv=>whnf)
  repeat' (first | (exfalso;(try simp only [List.length_map] at *);omega) | exact zab rfl rfl | exact zab rfl (congrArg bv (decide_eq_true (by (try simp only [List.length_map]);omega))) | (refine tSp (fun h=>?_) (fun h=>?_)<;>conv=>whnf))
 ·rw [decide_eq_false hg]
  refine sBody Tryz.func210 ?_;conv=>whnf
  ((try (refine Exists.intro none ?_;conv=>whnf));(with_reducible refine zaa (zd4 a hm) ?_);conv=>whnf)
  repeat' (first | exact zab rfl rfl | exact zab rfl (congrArg bv (decide_eq_false (fun hh=>hg (by (try simp only [List.length_map] at *);unfold zdy;omega)))) | (refine tSp (fun h=>?_) (fun h=>?_)<;>conv=>whnf))
set_option maxHeartbeats 1000000 in
theorem zx2 (a:Hrd) (hm:a.log.length≤maxLen) (hb:isI a.base) (c p:Int) (hp:0≤p∧p≤4611686018427387904) (l:List Ent) (hl:l.length≤4294967):Ctr Tryz.prog 212 [.ag a.enc,iv c,iv p,.sl 16 (l.map Ent.enc)] (bv (gBrk a c p l)) []:=by
 refine sBody Tryz.func212 ?_;conv=>whnf
 refine zbv mixed (by kernel_rfl) (fun j:Nat=>j≤l.length∧∀ k (hk:k < l.length),k < j→p+1+k≤c→zbh a (p+1+k)=(l[k]'hk).term) (fun j=>[(13,iv j)]) [] (fun j=>l.length - j) 0 ⟨Nat.zero_le _,fun k _ h=>absurd h (Nat.not_lt_zero k)⟩ ?_ ?_
 ·conv=>whnf
  exact wkD
 rintro j ⟨hj,hal⟩
 conv=>whnf
 (refine tSp (fun h=>?_) (fun h=>?_)<;>conv=>whnf)
 ·simp only [List.length_map] at h
  have hlt:j < l.length:=by omega
  have e1:IntKind.i64.wrap (IntKind.i64.wrap (p+(j:Int))+1)=p+1+(j:Int):=by
   rw [show IntKind.i64.wrap (p+(j:Int))=p+j from zal (by omega) (by omega),zal (by omega) (by omega)];omega
  have c1:=znp a hm hb (p+1+(j:Int)) (by unfold isI;omega)
  have next:(p+1+(j:Int)≤c→zbh a (p+1+(j:Int))=(l[j]'hlt).term)→∀ k (hk:k < l.length),k < j+1→p+1+k≤c→zbh a (p+1+k)=(l[k]'hk).term:=fun hn k hk hkj hle=>by
   by_cases ek:k=j
   ·subst ek;exact hn hle
   ·exact hal k hk (by omega) hle
  clear h
  (first | ((with_reducible refine And.intro (by omega) (Exists.intro _ (And.intro (zbn hlt) ?_)));conv=>whnf))
  rw [e1]
  (refine tSp (fun h=>?_) (fun h=>?_)<;>conv=>whnf)
  ·have h1:=h
   clear h
   rw [e1]
   ((try (refine Exists.intro none ?_;conv=>whnf));(with_reducible refine zaa (c1) ?_);conv=>whnf)
   (refine tSp (fun h=>?_) (fun h=>?_)<;>conv=>whnf)
   ·exact zab rfl (congrArg bv (zkm hlt h1 h).symm)
   ·refine ⟨j+1,⟨⟨by omega,next (fun _=>by first | exact h | exact Classical.byContradiction h)⟩,by omega⟩,?_⟩
    conv=>whnf
    exact wkD
  ·refine ⟨j+1,⟨⟨by omega,next (fun hle=>absurd hle h)⟩,by omega⟩,?_⟩
   conv=>whnf
   exact wkD
 ·simp only [List.length_map] at h
  exact zab rfl (congrArg bv (gBrk_f (fun k hk hle=>hal k hk (by omega) hle)).symm)
set_option maxHeartbeats 8000000 in
theorem c_grow (a : Hrd) (h1 : a.snap.length ≤ 4294967296) (h2 : a.log.length ≤ 4294967) (hb : isI a.base) (c : Int) (m : Mg) (h3 : m.entries.length ≤ 4294967) :
    Ctr Tryz.prog 187 [.ag a.enc,iv c,.ag m.enc] (resG (growE a c m) (growO a c m)) (resGO (growE a c m) (growO a c m)):=by
 have hm:a.log.length≤maxLen:=zak (by omega)
 have hck:=zg6 a hm
 by_cases hB:hardB a=true
 ·rw [hB] at hck
  simp only [if_true] at hck
  have hb0:=(za9 hB).1.b
  have hla:=zdr hB h2
  have kR:=zyo a hm c m
  by_cases hR:zdy a c m
  ·rw [decide_eq_true hR] at kR
   have hR2:=hR
   obtain ⟨⟨g1,g2⟩,⟨g3,g4⟩,g5,g6,g7⟩:=hR2
   have hPb:gP a m≤1099511627776∧a.base≤gP a m:=by unfold gP;split<;>omega
   have hPI:isI (gP a m):=by unfold isI;omega
   have hLl:=zqf a m
   -- an empty put first: a twin
   have k0:=c_lPut a h1 h2 hb a.base hb [] (by simp)
   have e0:putHE a a.base []=0:=by
    unfold putHE
    rw [if_pos hB,if_pos ⟨⟨by omega,by omega⟩,rfl⟩]
   have e0h:putH a a.base []=a:=by
    unfold putH
    rw [show (a.base - a.base).toNat=0 by omega]
    show { a with log:=putG a.log 0 [] }=a
    rw [show putG a.log 0 []=a.log from by unfold putG;cases a.log<;>rfl]
   rw [(zea e0).1,(zea e0).2.1,e0h] at k0
   have kF:=zwx a hm hb (gP a m) hPI (gT a m)
   have kK:=zx2 a hm hb c (gP a m) (by omega) (gL a m) (by omega)
   have kP:=c_lPut a h1 h2 hb (gP a m) hPI (gL a m) (by omega)
   have hw:∀ x:Int,0≤x∧x≤1099511627776→IntKind.i64.wrap (x - 1)=x - 1:=fun x hx=>zal (by omega) (by omega)
   have hw2:∀ x:Int,0≤x∧x≤1099511627776→IntKind.i64.wrap (x+((gL a m).length:Int))=x+(gL a m).length:=fun x hx=>zal (by omega) (by omega)
   have hw3:∀ x:Int,0≤x∧x≤1099511627776→IntKind.i64.wrap (x+(m.entries.length:Int))=x+m.entries.length:=fun x hx=>zal (by omega) (by omega)
   have hcut:m.index < a.base→∃ q:Nat,(if ((m.entries.map Ent.enc).length:Int) < IntKind.i64.wrap (a.base - m.index) then ((m.entries.map Ent.enc).length:Int) else IntKind.i64.wrap (a.base - m.index))=(q:Int)∧q≤m.entries.length∧List.drop (q:Int).toNat (List.take (((m.entries.map Ent.enc).length:Nat):Int).toNat (m.entries.map Ent.enc))=(gL a m).map Ent.enc:=fun hp=>by
    have ew:IntKind.i64.wrap (a.base - m.index)=a.base - m.index:=zal (by omega) (by omega)
    refine ⟨min m.entries.length (a.base - m.index).toNat,?_,Nat.min_le_left _ _,?_⟩
    ·rw [ew,List.length_map]
     split<;>omega
    ·rw [Int.toNat_natCast,Int.toNat_natCast,List.take_length,List.map_drop.symm]
     unfold gL
     congr 1
     by_cases hd:(a.base - m.index).toNat≤m.entries.length
     ·rw [Nat.min_eq_right hd]
     ·rw [Nat.min_eq_left (by omega),List.drop_eq_nil_of_le (Nat.le_refl _),List.drop_eq_nil_of_le (by omega)]
   cases hf:fits a (gP a m) (gT a m) with
   | false =>
    obtain ⟨E,O⟩:=zg0 hB hR hf
    rw [(zfg E).1,(zfg E).2.1,O]
    dsimp only
    rw [hf] at kF
    by_cases hp:m.index < a.base
    ·have hP:gP a m=a.base:=by unfold gP;rw [if_pos hp]
     have hT:gT a m=a.baseTerm:=by unfold gT;rw [if_pos hp]
     obtain ⟨q,eq,hq,eL⟩:=hcut hp
     rw [hP,hT] at kF
     rw [hP] at kK kP
     rw [hP]
     refine sBody Tryz.func187 ?_;conv=>whnf
     ((try (refine Exists.intro none ?_;conv=>whnf));(with_reducible refine zaa (hck) ?_);conv=>whnf)
     ((try (refine Exists.intro none ?_;conv=>whnf));(with_reducible refine zaa (kR) ?_);conv=>whnf)
     (refine tSp (fun h=>?_) (fun h=>?_)<;>conv=>whnf)
     all_goals first | (exfalso;omega) | skip
     clear h
     rw [eq]
     refine ⟨⟨by omega,by rw [List.length_map];omega,Int.le_refl _⟩,?_⟩
     conv=>whnf
     refine Exists.intro none ?_
     conv=>whnf
     rw [eL]
     ((try ((refine Exists.intro none ?_);(conv=>whnf)));refine zaw (k0) (by (repeat' (first | exact zav | exact zau | refine zar ?_ ?_ | refine zaq ?_ ?_ | exact SubV.refl _ | exact za2 | (with_reducible exact za7 rfl) | refine za6 ?_ | refine za8 ?_ | refine za5 ?_))) ?_;conv=>whnf)
     (refine Exists.intro _ (And.intro rfl (And.intro (by intro q hq;first | (cases hq;done) | (simp only [List.mem_cons,List.not_mem_nil,or_false] at hq;rcases hq with rfl | rfl<;>(simp only [List.length_cons,List.length_nil];omega)) | (simp only [List.mem_cons,List.not_mem_nil,or_false] at hq;subst hq;simp only [List.length_cons,List.length_nil];omega)) (And.intro (by intro i hi;rcases i with _ | _ | i;rfl;rfl;exact absurd hi (by simp)) ?_)));conv=>whnf)
     ((try (refine Exists.intro none ?_;conv=>whnf));(with_reducible refine zaa (kF) ?_);conv=>whnf)
     ((try (refine Exists.intro none ?_;conv=>whnf));(with_reducible refine zaa (zd4 a hm) ?_);conv=>whnf)
     rw [hw _ (by omega)]
     refine zbd [(0,976),(1,977)] rfl ⟨rfl,rfl,True.intro⟩ (zah ⟨zag ?_,zaj _ rfl,zaj _ rfl,zaj _ rfl,rfl⟩)
     conv=>whnf
     repeat' (first | exact rfl | ((with_reducible refine And.intro ?_ ?_)<;>(first | (with_reducible exact zaj _ rfl) | exact zbj rfl rfl rfl | (conv=>whnf))))
    ·have hP:gP a m=m.index:=by unfold gP;rw [if_neg hp]
     have hT:gT a m=m.logTerm:=by unfold gT;rw [if_neg hp]
     have hL:gL a m=m.entries:=by unfold gL;rw [show (a.base - m.index).toNat=0 by omega,List.drop_zero]
     rw [hP,hT] at kF
     rw [hP,hL] at kK kP
     rw [hP]
     refine sBody Tryz.func187 ?_;conv=>whnf
     ((try (refine Exists.intro none ?_;conv=>whnf));(with_reducible refine zaa (hck) ?_);conv=>whnf)
     ((try (refine Exists.intro none ?_;conv=>whnf));(with_reducible refine zaa (kR) ?_);conv=>whnf)
     (refine tSp (fun h=>?_) (fun h=>?_)<;>conv=>whnf)
     all_goals first | (exfalso;omega) | skip
     clear h
     ((try ((refine Exists.intro none ?_);(conv=>whnf)));refine zaw (k0) (by (repeat' (first | exact zav | exact zau | refine zar ?_ ?_ | refine zaq ?_ ?_ | exact SubV.refl _ | exact za2 | (with_reducible exact za7 rfl) | refine za6 ?_ | refine za8 ?_ | refine za5 ?_))) ?_;conv=>whnf)
     (refine Exists.intro _ (And.intro rfl (And.intro (by intro q hq;first | (cases hq;done) | (simp only [List.mem_cons,List.not_mem_nil,or_false] at hq;rcases hq with rfl | rfl<;>(simp only [List.length_cons,List.length_nil];omega)) | (simp only [List.mem_cons,List.not_mem_nil,or_false] at hq;subst hq;simp only [List.length_cons,List.length_nil];omega)) (And.intro (by intro i hi;rcases i with _ | _ | i;rfl;rfl;exact absurd hi (by simp)) ?_)));conv=>whnf)
     ((try (refine Exists.intro none ?_;conv=>whnf));(with_reducible refine zaa (kF) ?_);conv=>whnf)
     ((try (refine Exists.intro none ?_;conv=>whnf));(with_reducible refine zaa (zd4 a hm) ?_);conv=>whnf)
     rw [hw _ (by omega)]
     refine zbd [(0,976),(1,977)] rfl ⟨rfl,rfl,True.intro⟩ (zah ⟨zag ?_,zaj _ rfl,zaj _ rfl,zaj _ rfl,rfl⟩)
     conv=>whnf
     repeat' (first | exact rfl | ((with_reducible refine And.intro ?_ ?_)<;>(first | (with_reducible exact zaj _ rfl) | exact zbj rfl rfl rfl | (conv=>whnf))))
   | true =>
    rw [hf] at kF
    cases hk:gBrk a c (gP a m) (gL a m) with
    | true =>
     have E:=ziv hB hR hf hk
     rw [hk] at kK
     rw [(zc9 (by omega)).1,(zc9 (by omega)).2.1,E]
     by_cases hp:m.index < a.base
     ·have hP:gP a m=a.base:=by unfold gP;rw [if_pos hp]
      have hT:gT a m=a.baseTerm:=by unfold gT;rw [if_pos hp]
      obtain ⟨q,eq,hq,eL⟩:=hcut hp
      rw [hP,hT] at kF
      rw [hP] at kK kP
      refine sBody Tryz.func187 ?_;conv=>whnf
      ((try (refine Exists.intro none ?_;conv=>whnf));(with_reducible refine zaa (hck) ?_);conv=>whnf)
      ((try (refine Exists.intro none ?_;conv=>whnf));(with_reducible refine zaa (kR) ?_);conv=>whnf)
      (refine tSp (fun h=>?_) (fun h=>?_)<;>conv=>whnf)
      all_goals first | (exfalso;omega) | skip
      clear h
      rw [eq]
      refine ⟨⟨by omega,by rw [List.length_map];omega,Int.le_refl _⟩,?_⟩
      conv=>whnf
      refine Exists.intro none ?_
      conv=>whnf
      rw [eL]
      ((try ((refine Exists.intro none ?_);(conv=>whnf)));refine zaw (k0) (by (repeat' (first | exact zav | exact zau | refine zar ?_ ?_ | refine zaq ?_ ?_ | exact SubV.refl _ | exact za2 | (with_reducible exact za7 rfl) | refine za6 ?_ | refine za8 ?_ | refine za5 ?_))) ?_;conv=>whnf)
      (refine Exists.intro _ (And.intro rfl (And.intro (by intro q hq;first | (cases hq;done) | (simp only [List.mem_cons,List.not_mem_nil,or_false] at hq;rcases hq with rfl | rfl<;>(simp only [List.length_cons,List.length_nil];omega)) | (simp only [List.mem_cons,List.not_mem_nil,or_false] at hq;subst hq;simp only [List.length_cons,List.length_nil];omega)) (And.intro (by intro i hi;rcases i with _ | _ | i;rfl;rfl;exact absurd hi (by simp)) ?_)));conv=>whnf)
      ((try (refine Exists.intro none ?_;conv=>whnf));(with_reducible refine zaa (kF) ?_);conv=>whnf)
      ((try (refine Exists.intro none ?_;conv=>whnf));(with_reducible refine zaa (kK) ?_);conv=>whnf)
      exact zab rfl rfl
     ·have hP:gP a m=m.index:=by unfold gP;rw [if_neg hp]
      have hT:gT a m=m.logTerm:=by unfold gT;rw [if_neg hp]
      have hL:gL a m=m.entries:=by unfold gL;rw [show (a.base - m.index).toNat=0 by omega,List.drop_zero]
      rw [hP,hT] at kF
      rw [hP,hL] at kK kP
      refine sBody Tryz.func187 ?_;conv=>whnf
      ((try (refine Exists.intro none ?_;conv=>whnf));(with_reducible refine zaa (hck) ?_);conv=>whnf)
      ((try (refine Exists.intro none ?_;conv=>whnf));(with_reducible refine zaa (kR) ?_);conv=>whnf)
      (refine tSp (fun h=>?_) (fun h=>?_)<;>conv=>whnf)
      all_goals first | (exfalso;omega) | skip
      clear h
      ((try ((refine Exists.intro none ?_);(conv=>whnf)));refine zaw (k0) (by (repeat' (first | exact zav | exact zau | refine zar ?_ ?_ | refine zaq ?_ ?_ | exact SubV.refl _ | exact za2 | (with_reducible exact za7 rfl) | refine za6 ?_ | refine za8 ?_ | refine za5 ?_))) ?_;conv=>whnf)
      (refine Exists.intro _ (And.intro rfl (And.intro (by intro q hq;first | (cases hq;done) | (simp only [List.mem_cons,List.not_mem_nil,or_false] at hq;rcases hq with rfl | rfl<;>(simp only [List.length_cons,List.length_nil];omega)) | (simp only [List.mem_cons,List.not_mem_nil,or_false] at hq;subst hq;simp only [List.length_cons,List.length_nil];omega)) (And.intro (by intro i hi;rcases i with _ | _ | i;rfl;rfl;exact absurd hi (by simp)) ?_)));conv=>whnf)
      ((try (refine Exists.intro none ?_;conv=>whnf));(with_reducible refine zaa (kF) ?_);conv=>whnf)
      ((try (refine Exists.intro none ?_;conv=>whnf));(with_reducible refine zaa (kK) ?_);conv=>whnf)
      exact zab rfl rfl
    | false =>
     obtain ⟨E,O⟩:=zg7 hB hR hf hk
     rw [hk] at kK
     by_cases e:putHE a (gP a m) (gL a m)=0
     ·rw [(zea e).1,(zea e).2.1] at kP
      rw [(zfg (E.trans e)).1,(zfg (E.trans e)).2.1,O]
      dsimp only
      by_cases hp:m.index < a.base
      ·have hP:gP a m=a.base:=by unfold gP;rw [if_pos hp]
       have hT:gT a m=a.baseTerm:=by unfold gT;rw [if_pos hp]
       obtain ⟨q,eq,hq,eL⟩:=hcut hp
       rw [hP,hT] at kF
       rw [hP] at kK kP
       rw [hP]
       refine sBody Tryz.func187 ?_;conv=>whnf
       ((try (refine Exists.intro none ?_;conv=>whnf));(with_reducible refine zaa (hck) ?_);conv=>whnf)
       ((try (refine Exists.intro none ?_;conv=>whnf));(with_reducible refine zaa (kR) ?_);conv=>whnf)
       (refine tSp (fun h=>?_) (fun h=>?_)<;>conv=>whnf)
       all_goals first | (exfalso;omega) | skip
       clear h
       rw [eq]
       refine ⟨⟨by omega,by rw [List.length_map];omega,Int.le_refl _⟩,?_⟩
       conv=>whnf
       refine Exists.intro none ?_
       conv=>whnf
       rw [eL]
       ((try ((refine Exists.intro none ?_);(conv=>whnf)));refine zaw (k0) (by (repeat' (first | exact zav | exact zau | refine zar ?_ ?_ | refine zaq ?_ ?_ | exact SubV.refl _ | exact za2 | (with_reducible exact za7 rfl) | refine za6 ?_ | refine za8 ?_ | refine za5 ?_))) ?_;conv=>whnf)
       (refine Exists.intro _ (And.intro rfl (And.intro (by intro q hq;first | (cases hq;done) | (simp only [List.mem_cons,List.not_mem_nil,or_false] at hq;rcases hq with rfl | rfl<;>(simp only [List.length_cons,List.length_nil];omega)) | (simp only [List.mem_cons,List.not_mem_nil,or_false] at hq;subst hq;simp only [List.length_cons,List.length_nil];omega)) (And.intro (by intro i hi;rcases i with _ | _ | i;rfl;rfl;exact absurd hi (by simp)) ?_)));conv=>whnf)
       ((try (refine Exists.intro none ?_;conv=>whnf));(with_reducible refine zaa (kF) ?_);conv=>whnf)
       ((try (refine Exists.intro none ?_;conv=>whnf));(with_reducible refine zaa (kK) ?_);conv=>whnf)
       ((try (refine Exists.intro none ?_;conv=>whnf));(with_reducible refine zaa (kP) ?_);conv=>whnf)
       (refine Exists.intro _ (And.intro rfl (And.intro (by intro q hq;first | (cases hq;done) | (simp only [List.mem_cons,List.not_mem_nil,or_false] at hq;rcases hq with rfl | rfl<;>(simp only [List.length_cons,List.length_nil];omega)) | (simp only [List.mem_cons,List.not_mem_nil,or_false] at hq;subst hq;simp only [List.length_cons,List.length_nil];omega)) (And.intro (by intro i hi;rcases i with _ | _ | i;rfl;rfl;exact absurd hi (by simp)) ?_)));conv=>whnf)
       rw [show ((List.map Ent.enc (gL a m)).length:Int)=(gL a m).length from by rw [List.length_map],hw2 _ (by omega)]
       refine zbd [(0,1600),(1,1601)] rfl ⟨rfl,rfl,True.intro⟩ (zah ⟨zag ?_,zaj _ rfl,zaj _ rfl,zaj _ rfl,rfl⟩)
       conv=>whnf
       repeat' (first | exact rfl | ((with_reducible refine And.intro ?_ ?_)<;>(first | (with_reducible exact zaj _ rfl) | exact zbj rfl rfl rfl | (conv=>whnf))))
      ·have hP:gP a m=m.index:=by unfold gP;rw [if_neg hp]
       have hT:gT a m=m.logTerm:=by unfold gT;rw [if_neg hp]
       have hL:gL a m=m.entries:=by unfold gL;rw [show (a.base - m.index).toNat=0 by omega,List.drop_zero]
       rw [hP,hT] at kF
       rw [hP,hL] at kK kP
       rw [hP,hL]
       refine sBody Tryz.func187 ?_;conv=>whnf
       ((try (refine Exists.intro none ?_;conv=>whnf));(with_reducible refine zaa (hck) ?_);conv=>whnf)
       ((try (refine Exists.intro none ?_;conv=>whnf));(with_reducible refine zaa (kR) ?_);conv=>whnf)
       (refine tSp (fun h=>?_) (fun h=>?_)<;>conv=>whnf)
       all_goals first | (exfalso;omega) | skip
       clear h
       ((try ((refine Exists.intro none ?_);(conv=>whnf)));refine zaw (k0) (by (repeat' (first | exact zav | exact zau | refine zar ?_ ?_ | refine zaq ?_ ?_ | exact SubV.refl _ | exact za2 | (with_reducible exact za7 rfl) | refine za6 ?_ | refine za8 ?_ | refine za5 ?_))) ?_;conv=>whnf)
       (refine Exists.intro _ (And.intro rfl (And.intro (by intro q hq;first | (cases hq;done) | (simp only [List.mem_cons,List.not_mem_nil,or_false] at hq;rcases hq with rfl | rfl<;>(simp only [List.length_cons,List.length_nil];omega)) | (simp only [List.mem_cons,List.not_mem_nil,or_false] at hq;subst hq;simp only [List.length_cons,List.length_nil];omega)) (And.intro (by intro i hi;rcases i with _ | _ | i;rfl;rfl;exact absurd hi (by simp)) ?_)));conv=>whnf)
       ((try (refine Exists.intro none ?_;conv=>whnf));(with_reducible refine zaa (kF) ?_);conv=>whnf)
       ((try (refine Exists.intro none ?_;conv=>whnf));(with_reducible refine zaa (kK) ?_);conv=>whnf)
       ((try (refine Exists.intro none ?_;conv=>whnf));(with_reducible refine zaa (kP) ?_);conv=>whnf)
       (refine Exists.intro _ (And.intro rfl (And.intro (by intro q hq;first | (cases hq;done) | (simp only [List.mem_cons,List.not_mem_nil,or_false] at hq;rcases hq with rfl | rfl<;>(simp only [List.length_cons,List.length_nil];omega)) | (simp only [List.mem_cons,List.not_mem_nil,or_false] at hq;subst hq;simp only [List.length_cons,List.length_nil];omega)) (And.intro (by intro i hi;rcases i with _ | _ | i;rfl;rfl;exact absurd hi (by simp)) ?_)));conv=>whnf)
       rw [show ((List.map Ent.enc m.entries).length:Int)=m.entries.length from by rw [List.length_map],hw3 _ (by omega)]
       refine zbd [(0,1600),(1,1601)] rfl ⟨rfl,rfl,True.intro⟩ (zah ⟨zag ?_,zaj _ rfl,zaj _ rfl,zaj _ rfl,rfl⟩)
       conv=>whnf
       repeat' (first | exact rfl | ((with_reducible refine And.intro ?_ ?_)<;>(first | (with_reducible exact zaj _ rfl) | exact zbj rfl rfl rfl | (conv=>whnf))))
     ·rw [(zc0 e).1,(zc0 e).2.1] at kP
      rw [(zc9 (by omega)).1,(zc9 (by omega)).2.1,E]
      by_cases hp:m.index < a.base
      ·have hP:gP a m=a.base:=by unfold gP;rw [if_pos hp]
       have hT:gT a m=a.baseTerm:=by unfold gT;rw [if_pos hp]
       obtain ⟨q,eq,hq,eL⟩:=hcut hp
       rw [hP,hT] at kF
       rw [hP] at kK kP e
       rw [hP]
       refine sBody Tryz.func187 ?_;conv=>whnf
       ((try (refine Exists.intro none ?_;conv=>whnf));(with_reducible refine zaa (hck) ?_);conv=>whnf)
       ((try (refine Exists.intro none ?_;conv=>whnf));(with_reducible refine zaa (kR) ?_);conv=>whnf)
       (refine tSp (fun h=>?_) (fun h=>?_)<;>conv=>whnf)
       all_goals first | (exfalso;omega) | skip
       clear h
       rw [eq]
       refine ⟨⟨by omega,by rw [List.length_map];omega,Int.le_refl _⟩,?_⟩
       conv=>whnf
       refine Exists.intro none ?_
       conv=>whnf
       rw [eL]
       ((try ((refine Exists.intro none ?_);(conv=>whnf)));refine zaw (k0) (by (repeat' (first | exact zav | exact zau | refine zar ?_ ?_ | refine zaq ?_ ?_ | exact SubV.refl _ | exact za2 | (with_reducible exact za7 rfl) | refine za6 ?_ | refine za8 ?_ | refine za5 ?_))) ?_;conv=>whnf)
       (refine Exists.intro _ (And.intro rfl (And.intro (by intro q hq;first | (cases hq;done) | (simp only [List.mem_cons,List.not_mem_nil,or_false] at hq;rcases hq with rfl | rfl<;>(simp only [List.length_cons,List.length_nil];omega)) | (simp only [List.mem_cons,List.not_mem_nil,or_false] at hq;subst hq;simp only [List.length_cons,List.length_nil];omega)) (And.intro (by intro i hi;rcases i with _ | _ | i;rfl;rfl;exact absurd hi (by simp)) ?_)));conv=>whnf)
       ((try (refine Exists.intro none ?_;conv=>whnf));(with_reducible refine zaa (kF) ?_);conv=>whnf)
       ((try (refine Exists.intro none ?_;conv=>whnf));(with_reducible refine zaa (kK) ?_);conv=>whnf)
       ((try (refine Exists.intro none ?_;conv=>whnf));(with_reducible refine zaa (kP) ?_);conv=>whnf)
       (refine tSp (fun h=>?_) (fun h=>?_)<;>conv=>whnf)
       all_goals first | exact zab rfl rfl | (exfalso;omega)
      ·have hP:gP a m=m.index:=by unfold gP;rw [if_neg hp]
       have hT:gT a m=m.logTerm:=by unfold gT;rw [if_neg hp]
       have hL:gL a m=m.entries:=by unfold gL;rw [show (a.base - m.index).toNat=0 by omega,List.drop_zero]
       rw [hP,hT] at kF
       rw [hP,hL] at kK kP e
       rw [hP,hL]
       refine sBody Tryz.func187 ?_;conv=>whnf
       ((try (refine Exists.intro none ?_;conv=>whnf));(with_reducible refine zaa (hck) ?_);conv=>whnf)
       ((try (refine Exists.intro none ?_;conv=>whnf));(with_reducible refine zaa (kR) ?_);conv=>whnf)
       (refine tSp (fun h=>?_) (fun h=>?_)<;>conv=>whnf)
       all_goals first | (exfalso;omega) | skip
       clear h
       ((try ((refine Exists.intro none ?_);(conv=>whnf)));refine zaw (k0) (by (repeat' (first | exact zav | exact zau | refine zar ?_ ?_ | refine zaq ?_ ?_ | exact SubV.refl _ | exact za2 | (with_reducible exact za7 rfl) | refine za6 ?_ | refine za8 ?_ | refine za5 ?_))) ?_;conv=>whnf)
       (refine Exists.intro _ (And.intro rfl (And.intro (by intro q hq;first | (cases hq;done) | (simp only [List.mem_cons,List.not_mem_nil,or_false] at hq;rcases hq with rfl | rfl<;>(simp only [List.length_cons,List.length_nil];omega)) | (simp only [List.mem_cons,List.not_mem_nil,or_false] at hq;subst hq;simp only [List.length_cons,List.length_nil];omega)) (And.intro (by intro i hi;rcases i with _ | _ | i;rfl;rfl;exact absurd hi (by simp)) ?_)));conv=>whnf)
       ((try (refine Exists.intro none ?_;conv=>whnf));(with_reducible refine zaa (kF) ?_);conv=>whnf)
       ((try (refine Exists.intro none ?_;conv=>whnf));(with_reducible refine zaa (kK) ?_);conv=>whnf)
       ((try (refine Exists.intro none ?_;conv=>whnf));(with_reducible refine zaa (kP) ?_);conv=>whnf)
       (refine tSp (fun h=>?_) (fun h=>?_)<;>conv=>whnf)
       all_goals first | exact zab rfl rfl | (exfalso;omega)
  ·rw [decide_eq_false hR] at kR
   have E:growE a c m=1:=by unfold growE;rw [if_pos hB,if_neg hR]
   rw [(zc9 (by omega)).1,(zc9 (by omega)).2.1,E]
   refine sBody Tryz.func187 ?_;conv=>whnf
   ((try (refine Exists.intro none ?_;conv=>whnf));(with_reducible refine zaa (hck) ?_);conv=>whnf)
   ((try (refine Exists.intro none ?_;conv=>whnf));(with_reducible refine zaa (kR) ?_);conv=>whnf)
   exact zab rfl rfl
 ·have E:growE a c m=6:=by unfold growE;rw [if_neg hB]
  rw [(zc9 (by omega)).1,(zc9 (by omega)).2.1,E]
  simp only [Bool.not_eq_true] at hB
  rw [hB] at hck
  simp only [Bool.false_eq_true,if_false] at hck
  refine sBody Tryz.func187 ?_;conv=>whnf
  ((try (refine Exists.intro none ?_;conv=>whnf));(with_reducible refine zaa (hck) ?_);conv=>whnf)
  exact zab rfl rfl
def feedP (g:Hrd) (next:Int):Int:=emin (next - 1) (lastI g)
def feedL (g:Hrd) (next:Int):List Ent:=fromL g (feedP g next+1) 8
theorem feed_at {g:Hrd}{next:Int} (hg:hardB g=true) (hl:g.log.length≤4294967) (hn:g.base < next):∃ n:Nat,feedP g next=g.base+n∧n≤g.log.length∧feedL g next=(g.log.drop n).take 8∧zbh g (feedP g next)=zbc g.log g.baseTerm n:=by
 have hla:=zdr hg hl
 have hp:feedP g next=min (next - 1) (lastI g):=zlo _ _
 obtain ⟨n,e,hle⟩:∃ n:Nat,feedP g next=g.base+n∧n≤g.log.length:=⟨(feedP g next - g.base).toNat,by omega,by omega⟩
 refine ⟨n,e,hle,?_,zd1 e hle⟩
 unfold feedL
 rw [e,zzi (by omega) (by omega),show (g.base+(n:Int)+1 - g.base - 1).toNat=n by omega]
 rfl
theorem zm4:∀ (l:List Ent) (b t t':Int),t≤t'→rowB l b t=true→rowB l b t'=true
 | [],_,_,_,_,_=>rfl
 | x :: l,b,t,t',h,e=>by
  simp only [rowB,Bool.and_eq_true,decide_eq_true_eq] at e ⊢
  exact ⟨⟨⟨e.1.1.1,by omega⟩,e.1.2⟩,zm4 l x.term t t' h e.2⟩
def agr (g h:Hrd) (n:Nat):Prop:=∀ k,k < n→∃ a b,g.log[k]?=some a∧h.log[k]?=some b∧a.term=b.term
def nxN (next mt:Int) (yes:Bool) (i:Int):Int:=if yes=true then max next (max mt i+1) else max (min (next - 1) (i+1)) (mt+1)
def nxM (mt:Int) (yes:Bool) (i:Int):Int:=if yes=true then max mt i else mt
structure Fs where
 h:Hrd
 next:Int
 mt:Int
 i:Nat
structure FInv (g h0:Hrd) (s:Fs):Prop where
 hard:hardB s.h=true
 base:s.h.base=0
 term:g.term≤s.h.term
 len:s.h.log.length≤40
 ph:(s.h=h0∧s.mt=0∧1≤s.next∧(s.i:Int)+s.next≤g.log.length+1)∨(0≤s.mt∧s.mt≤g.log.length∧s.next=s.mt+1∧(s.i:Int)≤g.log.length+1+s.mt∧agr g s.h s.mt.toNat)
theorem c_growV (a : Hrd) (h1 : a.snap.length ≤ 4294967296) (h2 : a.log.length ≤ 4294967) (hb : isI a.base) (c : Int) (m : Mg) (h3 : m.entries.length ≤ 4294967) :
    Ctr Tryz.prog 187 [.ag a.enc,iv c,.ag m.enc] (resGW (growE a c m) (growO a c m)) []:=zzu (c_grow a h1 h2 hb c m h3)
theorem c_gNext (nx mt : Int) (m : Mg) (h1 : -1152921504606846976 ≤ nx ∧ nx ≤ 1152921504606846976) (h2 : -1152921504606846976 ≤ mt ∧ mt ≤ 1152921504606846976) (h3 : -1152921504606846976 ≤ m.index ∧ m.index ≤ 1152921504606846976) :
    Ctr Tryz.prog 190 [iv nx,iv mt,.ag m.enc] (.tu [iv (nxN nx mt m.yes m.index),iv (nxM mt m.yes m.index)]) []:=by
 have w1:IntKind.i64.wrap (nx - 1)=nx - 1:=zal (by omega) (by omega)
 have w2:IntKind.i64.wrap (m.index+1)=m.index+1:=zal (by omega) (by omega)
 have w3:IntKind.i64.wrap (mt+1)=mt+1:=zal (by omega) (by omega)
 have w4:∀ x:Int,x≤1152921504606846976→-1152921504606846976≤x→IntKind.i64.wrap (x+1)=x+1:=fun x _ _=>zal (by omega) (by omega)
 refine sBody Tryz.func190 ?_;conv=>whnf
 (refine tSp (fun h=>?_) (fun h=>?_)<;>conv=>whnf)
 ·refine zab rfl ?_
  rw [w4 _ (by split<;>omega) (by split<;>omega),h]
  have q1:nxM mt true m.index=(if m.index > mt then m.index else mt):=by unfold nxM;rw [if_pos rfl];split<;>omega
  have q2:nxN nx mt true m.index=(if (if m.index > mt then m.index else mt)+1 > nx then (if m.index > mt then m.index else mt)+1 else nx):=by unfold nxN;rw [if_pos rfl];repeat' split<;>omega
  rw [q1,q2]
 ·have q1:nxM mt false m.index=mt:=by unfold nxM;rw [if_neg (by decide)]
  have q2:nxN nx mt false m.index=max (min (nx - 1) (m.index+1)) (mt+1):=by unfold nxN;rw [if_neg (by decide)]
  rw [h,q1,q2]
  (refine tSp (fun h=>?_) (fun h=>?_)<;>conv=>whnf)
  ·(refine tSp (fun h=>?_) (fun h=>?_)<;>conv=>whnf)
   ·refine zab rfl ?_
    rw [w1] at *
    rw [w2,w3,show (if mt+1 > m.index+1 then mt+1 else m.index+1)=max (min (nx - 1) (m.index+1)) (mt+1) by split<;>omega]
   ·refine zab rfl ?_
    rw [w1] at *
    rw [w3,show (if mt+1 > nx - 1 then mt+1 else nx - 1)=max (min (nx - 1) (m.index+1)) (mt+1) by split<;>omega]
  ·exfalso;omega
theorem c_rNext (nx mt : Int) (m : Mg) (h1 : -1152921504606846976 ≤ nx ∧ nx ≤ 1152921504606846976) (h2 : -1152921504606846976 ≤ mt ∧ mt ≤ 1152921504606846976) (h3 : -1152921504606846976 ≤ m.index ∧ m.index ≤ 1152921504606846976) :
    Ctr Tryz.prog 164 [iv nx,iv mt,.ag m.enc] (.tu [iv (nxN nx mt m.yes m.index),iv (nxM mt m.yes m.index)]) []:=by
 have w1:IntKind.i64.wrap (nx - 1)=nx - 1:=zal (by omega) (by omega)
 have w2:IntKind.i64.wrap (m.index+1)=m.index+1:=zal (by omega) (by omega)
 have w3:IntKind.i64.wrap (mt+1)=mt+1:=zal (by omega) (by omega)
 have w4:∀ x:Int,x≤1152921504606846976→-1152921504606846976≤x→IntKind.i64.wrap (x+1)=x+1:=fun x _ _=>zal (by omega) (by omega)
 refine sBody Tryz.func164 ?_;conv=>whnf
 (refine tSp (fun h=>?_) (fun h=>?_)<;>conv=>whnf)
 ·refine zab rfl ?_
  rw [w4 _ (by split<;>omega) (by split<;>omega),h]
  have q1:nxM mt true m.index=(if m.index > mt then m.index else mt):=by unfold nxM;rw [if_pos rfl];split<;>omega
  have q2:nxN nx mt true m.index=(if (if m.index > mt then m.index else mt)+1 > nx then (if m.index > mt then m.index else mt)+1 else nx):=by unfold nxN;rw [if_pos rfl];repeat' split<;>omega
  rw [q1,q2]
 ·have q1:nxM mt false m.index=mt:=by unfold nxM;rw [if_neg (by decide)]
  have q2:nxN nx mt false m.index=max (min (nx - 1) (m.index+1)) (mt+1):=by unfold nxN;rw [if_neg (by decide)]
  rw [h,q1,q2]
  refine zab rfl ?_
  rw [w1,w2,w3,show (if mt+1 > (if m.index+1 < nx - 1 then m.index+1 else nx - 1) then mt+1 else (if m.index+1 < nx - 1 then m.index+1 else nx - 1))=max (min (nx - 1) (m.index+1)) (mt+1) by repeat' split<;>omega]
theorem zay (x lo hi:Int):Ctr Tryz.prog 88 [iv x,iv lo,iv hi] (bv (decide (lo≤x∧x≤hi))) []:=by
 refine sBody Tryz.func88 ?_;conv=>whnf
 (refine tSp (fun h=>?_) (fun h=>?_)<;>conv=>whnf)
 ·exact zab rfl (by simp [h])
 ·exact zab rfl (by simp [h])
theorem far_k {x:Int} (h:0≤x∧x≤1099511627776):Ctr Tryz.prog 88 [iv x,iv 0,iv 1099511627776] (bv true) []:=by
 have:=zay x 0 1099511627776
 rwa [decide_eq_true h] at this
abbrev zA:Arr:=⟨0,0,0,0,0,0,0⟩
abbrev far:Int:=1099511627776
def Arr.all (a:Arr) (p:Int→Prop):Prop:=p a.a0∧p a.a1∧p a.a2∧p a.a3∧p a.a4∧p a.a5∧p a.a6
def Arr.put (a:Arr) (i:Nat) (v:Int):Arr:=match i with
 | 0=>{ a with a0:=v }
 | 1=>{ a with a1:=v }
 | 2=>{ a with a2:=v }
 | 3=>{ a with a3:=v }
 | 4=>{ a with a4:=v }
 | 5=>{ a with a5:=v }
 | 6=>{ a with a6:=v }
 | _=>a
noncomputable def fallR (r:Rft) (term lead:Int):Rft :=
 { r with role:=0,lead:=lead,votes:=0,reads:=[],next:=zA,mtch:=zA,silent:=zA,wait:=delay (zac r) r.id,hard:=if term > r.hard.term then { r.hard with term:=term,vote:=-1 } else r.hard }
noncomputable def othN (id bits:Int) (i:Nat):List Int:=((List.range i).filter fun k:Nat=>decide ((k:Int) ≠ id) && tb bits k).map fun k:Nat=>(k:Int)
end Go.Proofs
