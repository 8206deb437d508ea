import Derived.Test.YtbhfokahocgndabGreatPvV4
import Derived.Test.YtbhfokahocgndabGreatC1
/- Contracts of functions: logs.Compact, logs.Install. -/
set_option linter.unusedSimpArgs false
set_option linter.unusedVariables false
namespace Go.Proofs
open Go.Pv
set_option maxRecDepth 100000
noncomputable def compE (h:Hrd) (i:Int) (s:List Int):Int:=if hardB h=true then (if h.base < i∧i≤lastI h∧i≤1099511627776 then (if 16384 < s.length then 2 else 0) else 1) else 6
def compH (h:Hrd) (i:Int) (s:List Int):Hrd:=⟨h.term,h.vote,i,zbh h i,(force h i).1,s,h.log.drop (i - h.base).toNat⟩
noncomputable def instE (h:Hrd) (i t:Int) (c:Conf) (s:List Int):Int:=if hardB h=true then (if (h.base < i∧i≤1099511627776)∧(1≤t∧t≤h.term∧h.baseTerm≤t) then (if confB c=true then (if 16384 < s.length then 2 else 0) else 14) else 1) else 6
def instH (h:Hrd) (i t:Int) (c:Conf) (s:List Int):Hrd:=⟨h.term,h.vote,i,t,c,s,if fits h i t=true then h.log.drop (i - h.base).toNat else []⟩
abbrev Hrd.own0 (x:Hrd) (k:Nat):List PV:=[iv x.term,iv x.vote,iv x.base,iv x.baseTerm,iv x.baseConf.full,iv x.baseConf.wit,iv x.baseConf.learn,iv x.baseConf.lwit,.ow k 0 (x.snap.map encB).length,.nl]
theorem zo9 {a:Hrd}{i t:Int} (ht:t ≠ -1) (hf:fits a i t=true) (hi:a.base < i):i - a.base≤a.log.length:=by
 unfold fits at hf
 simp only [Bool.and_eq_true,beq_iff_eq] at hf
 have h2:=hf.2
 unfold zbh at h2
 rw [if_neg (by omega)] at h2
 cases he:entAt a i with
 | none=>rw [he] at h2;simp only at h2;omega
 | some x=>exact (zmo he).2
set_option maxHeartbeats 4000000 in
theorem zu8 (a : Hrd) (h2 : a.log.length ≤ 4294967) (hb : isI a.base) (i : Int) (hi : isI i) (t : Int) (c : Conf) (s : List Int) (h3 : s.length ≤ 4294967296) :
    if instE a i t c s=0 then
     (if fits a i t=true then Ctr Tryz.prog 189 [.ag a.enc,iv i,iv t,.ag c.enc,.sl 1 (s.map encB)] (.tu [.ag ((instH a i t c s).own 0),iv 0]) (instH a i t c s).obs
      else Ctr Tryz.prog 189 [.ag a.enc,iv i,iv t,.ag c.enc,.sl 1 (s.map encB)] (.tu [.ag ((instH a i t c s).own0 0),iv 0]) [(1,s.map encB)])
    else Ctr Tryz.prog 189 [.ag a.enc,iv i,iv t,.ag c.enc,.sl 1 (s.map encB)] (.tu [.ag hzv,iv (instE a i t c s)]) []:=by
 have hm:a.log.length≤maxLen:=zak (by omega)
 have hck:=zg6 a hm
 by_cases hB:hardB a=true
 ·rw [hB] at hck
  simp only [if_true] at hck
  have hb0:=(za9 hB).1.b
  have kF:=zwx a hm hb i hi t
  have hcc:=zo6 c
  unfold isI at hi
  by_cases hk:(a.base < i∧i≤1099511627776)∧(1≤t∧t≤a.term∧a.baseTerm≤t)
  ·by_cases hC:confB c=true
   ·rw [hC] at hcc
    simp only [if_true] at hcc
    by_cases hs:16384 < s.length
    ·have e:instE a i t c s=2:=by unfold instE;rw [if_pos hB,if_pos hk,if_pos hC,if_pos hs]
     rw [e,if_neg (by decide)]
     refine sBody Tryz.func189 ?_;conv=>whnf
     ((try (refine Exists.intro none ?_;conv=>whnf));(with_reducible refine zaa (hck) ?_);conv=>whnf)
     repeat' ((first | refine tYes ?_ | refine tNo ?_);(conv=>whnf))
     ((try (refine Exists.intro none ?_;conv=>whnf));(with_reducible refine zaa (hcc) ?_);conv=>whnf)
     (refine tSp (fun h=>?_) (fun h=>?_)<;>conv=>whnf)
     ·exact zab rfl rfl
     ·exfalso
      simp only [List.length_map] at h
      omega
    ·have e:instE a i t c s=0:=by unfold instE;rw [if_pos hB,if_pos hk,if_pos hC,if_neg hs]
     rw [if_pos e]
     cases hf:fits a i t with
     | true =>
      rw [if_pos rfl]
      rw [hf] at kF
      have hin:=zo9 (by omega) hf hk.1.1
      obtain ⟨q,hq,hql⟩:∃ q:Nat,i - a.base=q∧q≤a.log.length:=⟨(i - a.base).toNat,by omega,by omega⟩
      have e1:IntKind.i64.wrap (i - a.base)=(q:Int):=by rw [zal (by omega) (by omega),hq]
      have e2:List.drop (q:Int).toNat (List.take (((a.log.map Ent.enc).length:Nat):Int).toNat (a.log.map Ent.enc))=(a.log.drop q).map Ent.enc:=by rw [Int.toNat_natCast,Int.toNat_natCast,List.take_length,List.map_drop]
      have c1:=zc2 (a.log.drop q) (by rw [List.length_drop];omega)
      rw [show instH a i t c s=⟨a.term,a.vote,i,t,c,s,a.log.drop q⟩ from by unfold instH;rw [hf,if_pos rfl,hq,Int.toNat_natCast]]
      refine sBody Tryz.func189 ?_;conv=>whnf
      ((try (refine Exists.intro none ?_;conv=>whnf));(with_reducible refine zaa (hck) ?_);conv=>whnf)
      repeat' ((first | refine tYes ?_ | refine tNo ?_);(conv=>whnf))
      ((try (refine Exists.intro none ?_;conv=>whnf));(with_reducible refine zaa (hcc) ?_);conv=>whnf)
      (refine tSp (fun h=>?_) (fun h=>?_)<;>conv=>whnf)
      ·exfalso
       simp only [List.length_map] at h
       omega
      ((try (refine Exists.intro none ?_;conv=>whnf));(with_reducible refine zaa (zdq s h3) ?_);conv=>whnf)
      (refine Exists.intro _ (And.intro rfl (And.intro (by intro q hq;first | (cases hq;done) | (simp only [List.mem_cons,List.not_mem_nil,or_false] at hq;rcases hq with rfl | rfl<;>(simp only [List.length_cons,List.length_nil];omega)) | (simp only [List.mem_cons,List.not_mem_nil,or_false] at hq;subst hq;simp only [List.length_cons,List.length_nil];omega)) (And.intro (by intro i hi;simp only [List.length_cons,List.length_nil,Nat.lt_one_iff,Nat.zero_add] at hi;subst hi;rfl) ?_)));conv=>whnf)
      ((try (refine Exists.intro none ?_;conv=>whnf));(with_reducible refine zaa (kF) ?_);conv=>whnf)
      rw [e1]
      refine ⟨⟨by omega,by rw [List.length_map];omega,Int.le_refl _⟩,?_⟩
      conv=>whnf
      refine Exists.intro none ?_
      conv=>whnf
      rw [e2]
      ((try (refine Exists.intro none ?_;conv=>whnf));(with_reducible refine zaa (c1) ?_);conv=>whnf)
      (refine Exists.intro _ (And.intro rfl (And.intro (by intro q hq;first | (cases hq;done) | (simp only [List.mem_cons,List.not_mem_nil,or_false] at hq;rcases hq with rfl | rfl<;>(simp only [List.length_cons,List.length_nil];omega)) | (simp only [List.mem_cons,List.not_mem_nil,or_false] at hq;subst hq;simp only [List.length_cons,List.length_nil];omega)) (And.intro (by intro i hi;simp only [List.length_cons,List.length_nil,Nat.lt_one_iff,Nat.zero_add] at hi;subst hi;rfl) ?_)));conv=>whnf)
      refine zbd [(0,992),(1,1264)] rfl ⟨rfl,rfl,True.intro⟩ (zah ⟨zag ?_,zaj _ rfl,rfl⟩)
      conv=>whnf
      repeat' (first | exact rfl | ((with_reducible refine And.intro ?_ ?_)<;>(first | (with_reducible exact zaj _ rfl) | exact zbj rfl rfl rfl | (conv=>whnf))))
     | false =>
      rw [if_neg (by decide)]
      rw [hf] at kF
      rw [show instH a i t c s=⟨a.term,a.vote,i,t,c,s,[]⟩ from by unfold instH;rw [hf,if_neg (by decide)]]
      refine sBody Tryz.func189 ?_;conv=>whnf
      ((try (refine Exists.intro none ?_;conv=>whnf));(with_reducible refine zaa (hck) ?_);conv=>whnf)
      repeat' ((first | refine tYes ?_ | refine tNo ?_);(conv=>whnf))
      ((try (refine Exists.intro none ?_;conv=>whnf));(with_reducible refine zaa (hcc) ?_);conv=>whnf)
      (refine tSp (fun h=>?_) (fun h=>?_)<;>conv=>whnf)
      ·exfalso
       simp only [List.length_map] at h
       omega
      ((try (refine Exists.intro none ?_;conv=>whnf));(with_reducible refine zaa (zdq s h3) ?_);conv=>whnf)
      (refine Exists.intro _ (And.intro rfl (And.intro (by intro q hq;first | (cases hq;done) | (simp only [List.mem_cons,List.not_mem_nil,or_false] at hq;rcases hq with rfl | rfl<;>(simp only [List.length_cons,List.length_nil];omega)) | (simp only [List.mem_cons,List.not_mem_nil,or_false] at hq;subst hq;simp only [List.length_cons,List.length_nil];omega)) (And.intro (by intro i hi;simp only [List.length_cons,List.length_nil,Nat.lt_one_iff,Nat.zero_add] at hi;subst hi;rfl) ?_)));conv=>whnf)
      ((try (refine Exists.intro none ?_;conv=>whnf));(with_reducible refine zaa (kF) ?_);conv=>whnf)
      refine zbd [(0,992)] rfl ⟨rfl,True.intro⟩ (zah ⟨zag ?_,zaj _ rfl,rfl⟩)
      conv=>whnf
      repeat' (first | exact rfl | ((with_reducible refine And.intro ?_ ?_)<;>(first | (with_reducible exact zaj _ rfl) | exact zbj rfl rfl rfl | (conv=>whnf))))
   ·have e:instE a i t c s=14:=by unfold instE;rw [if_pos hB,if_pos hk,if_neg hC]
    simp only [Bool.not_eq_true] at hC
    rw [hC] at hcc
    simp only [Bool.false_eq_true,if_false] at hcc
    rw [e,if_neg (by decide)]
    refine sBody Tryz.func189 ?_;conv=>whnf
    ((try (refine Exists.intro none ?_;conv=>whnf));(with_reducible refine zaa (hck) ?_);conv=>whnf)
    repeat' ((first | refine tYes ?_ | refine tNo ?_);(conv=>whnf))
    ((try (refine Exists.intro none ?_;conv=>whnf));(with_reducible refine zaa (hcc) ?_);conv=>whnf)
    exact zab rfl rfl
  ·have e:instE a i t c s=1:=by unfold instE;rw [if_pos hB,if_neg hk]
   rw [e,if_neg (by decide)]
   refine sBody Tryz.func189 ?_;conv=>whnf
   ((try (refine Exists.intro none ?_;conv=>whnf));(with_reducible refine zaa (hck) ?_);conv=>whnf)
   repeat' (refine tSp (fun h=>?_) (fun h=>?_)<;>conv=>whnf)
   all_goals first
    | exact zab rfl rfl
    | (exfalso;omega)
 ·have e:instE a i t c s=6:=by unfold instE;rw [if_neg hB]
  rw [e,if_neg (by decide)]
  simp only [Bool.not_eq_true] at hB
  rw [hB] at hck
  simp only [Bool.false_eq_true,if_false] at hck
  refine sBody Tryz.func189 ?_;conv=>whnf
  ((try (refine Exists.intro none ?_;conv=>whnf));(with_reducible refine zaa (hck) ?_);conv=>whnf)
  exact zab rfl rfl
theorem zsh (a : Hrd) (h2 : a.log.length ≤ 4294967) (hb : isI a.base) (i : Int) (hi : isI i) (t : Int) (c : Conf) (s : List Int) (h3 : s.length ≤ 4294967296) :
    Ctr Tryz.prog 189 [.ag a.enc,iv i,iv t,.ag c.enc,.sl 1 (s.map encB)] (resW (instE a i t c s) (instH a i t c s)) []:=by
 have k:=zu8 a h2 hb i hi t c s h3
 by_cases e:instE a i t c s=0
 ·rw [if_pos e] at k
  rw [(zea e).2.2]
  cases hf:fits a i t with
  | true =>
   rw [hf,if_pos rfl] at k
   refine k.frz (zah ⟨zag ?_,zaj _ rfl,rfl⟩)
   conv=>whnf
   repeat' (first | exact rfl | ((with_reducible refine And.intro ?_ ?_)<;>(first | (with_reducible exact zaj _ rfl) | exact zbw (b:=false) (List.Mem.head _) rfl | exact zbw (b:=false) (List.Mem.tail _ (List.Mem.head _)) rfl | (conv=>whnf))))
  | false =>
   rw [hf,if_neg (by decide)] at k
   have e0:instH a i t c s=⟨a.term,a.vote,i,t,c,s,[]⟩:=by unfold instH;rw [hf,if_neg (by decide)]
   rw [e0] at k ⊢
   refine k.frz (zah ⟨zag ?_,zaj _ rfl,rfl⟩)
   conv=>whnf
   repeat' (first | exact rfl | ((with_reducible refine And.intro ?_ ?_)<;>(first | (with_reducible exact zaj _ rfl) | exact zbw (b:=false) (List.Mem.head _) rfl | exact .inr (.inl ⟨rfl,rfl⟩) | (conv=>whnf))))
 ·rw [if_neg e] at k
  rw [(zc0 e).2.2]
  exact k
def cutH (h:Hrd) (q:Nat) (c:Conf) (s:List Int):Hrd:=⟨h.term,h.vote,h.base+q,zbc h.log h.baseTerm q,c,s,h.log.drop q⟩
theorem zk5 {h:Hrd} (hr:rowB h.log h.baseTerm h.term=true) {q:Nat} (h1:1≤q) (hq:q≤h.log.length):1≤zbc h.log h.baseTerm q∧zbc h.log h.baseTerm q≤h.term:=by
 obtain ⟨p,rfl⟩:∃ p,q=p+1:=⟨q - 1,by omega⟩
 rw [zbr (by omega)]
 have:=(zej _ _ _).1 hr p (by omega)
 omega
theorem zys {h:Hrd} (hr:rowB h.log h.baseTerm h.term=true) {q:Nat} (hq:q≤h.log.length):rowB (h.log.drop q) (zbc h.log h.baseTerm q) h.term=true:=by
 have:=(zkf hr q).2
 rwa [zgm _ _ _ hq] at this
theorem zp5 {h:Hrd} (hh:hardB h=true) {q:Nat}{c:Conf}{s:List Int} (h1:1≤q) (hq:q≤h.log.length) (hi:h.base+q≤1099511627776) (hc:confB c=true) (hs:s.length≤16384):hardB (cutH h q c s)=true:=by
 obtain ⟨hA,_,_,hr⟩:=za9 hh
 have hb:=hA.b
 have ht:=hA.t
 obtain ⟨b1,b2⟩:=zk5 hr h1 hq
 unfold hardB
 rw [zec (show HardA (cutH h q c s) from ⟨ht,hA.v,by show 0≤h.base+q∧h.base+q≤_;omega,by show 0≤zbc h.log h.baseTerm q∧zbc h.log h.baseTerm q≤h.term;omega,by show zbc h.log h.baseTerm q=0 ↔ h.base+q=0;omega⟩)]
 rw [show confB (cutH h q c s).baseConf=true from hc,show rowB (cutH h q c s).log (cutH h q c s).baseTerm (cutH h q c s).term=true from zys hr hq]
 simp only [Bool.and_true,Bool.true_and,decide_eq_true_eq]
 exact ⟨hs,.inl (by show 0 < h.base+q;omega)⟩
theorem zvi {h:Hrd} (hb:0≤h.base) (hs:h.base+h.log.length < 9223372036854775808) {q:Nat} (hq:q≤h.log.length) (c:Conf) (s:List Int):lastI (cutH h q c s)=lastI h:=by
 have e:(cutH h q c s).log.length=h.log.length - q:=List.length_drop
 have e2:(cutH h q c s).base=h.base+q:=rfl
 rw [zbk (h:=cutH h q c s) (by rw [e2];omega) (by rw [e2,e];omega),zbk hb hs,e,e2];omega
theorem idx_eq {h:Hrd} (hb:0≤h.base∧h.base≤1099511627776) {k:Nat} (hk:k≤4294967):idx h k=h.base+k+1:=by
 show IntKind.i64.wrap (IntKind.i64.wrap (h.base+k)+1)=_
 rw [show IntKind.i64.wrap (h.base+(k:Int))=h.base+k from zal (by omega) (by omega),zal (by omega) (by omega)]
theorem zp6 {h:Hrd} (hb:0≤h.base∧h.base≤1099511627776) {u v:Int}:∀ {i:Nat},i≤4294967→h.base+i≤u→h.base+i≤v→fwd h u i=fwd h v i
 | 0,_,_,_=>rfl
 | i+1,hi,h1,h2=>by
  unfold fwd
  rw [zp6 hb (u:=u) (v:=v) (by omega) (by omega) (by omega),idx_eq hb (by omega)]
  have a1:h.base+(i:Int)+1≤u:=by omega
  have a2:h.base+(i:Int)+1≤v:=by omega
  simp only [a1,a2,true_and]
theorem zn7 {h:Hrd} (hb:0≤h.base∧h.base≤1099511627776) {q:Nat}:∀ {m:Nat},q+m≤4294967→fwd h (h.base+q) (q+m)=fwd h (h.base+q) q
 | 0,_=>rfl
 | m+1,hm=>by
  rw [← Nat.add_assoc]
  conv=>lhs;unfold fwd
  rw [zn7 hb (by omega),idx_eq hb (by omega)]
  have a1:¬ (h.base+((q+m:Nat):Int)+1≤h.base+q):=by omega
  simp only [a1,false_and,if_false]
  cases h.log[q+m]?<;>rfl
theorem zzc {h:Hrd} (hb:0≤h.base∧h.base≤1099511627776) (hl:h.log.length≤4294967) {q:Nat} (hq:q≤h.log.length) {u:Int} (hu:h.base+q≤u):force h (h.base+q)=fwd h u q:=by
 unfold force
 obtain ⟨m,hm⟩:∃ m,h.log.length=q+m:=⟨h.log.length - q,by omega⟩
 rw [hm,zn7 hb (by omega)]
 exact zp6 hb (by omega) (Int.le_refl _) hu
theorem zmj {h:Hrd} (hc:confB h.baseConf=true) (hr:rowB h.log h.baseTerm h.term=true) (u:Int):∀ i:Nat,i≤h.log.length→confB (fwd h u i).1=true
 | 0,_=>hc
 | i+1,hi=>by
  have ih:=zmj hc hr u i (by omega)
  have hx:=((zej _ _ _).1 hr i (by omega)).2.2
  unfold fwd
  rw [List.getElem?_eq_getElem (by omega)]
  by_cases hk:idx h i≤u∧(h.log[i]'(by omega)).kind=2
  ·simp only [if_pos hk]
   unfold zds at hx
   rw [if_neg (by omega),if_neg (by omega),if_pos hk.2,Bool.and_eq_true] at hx
   exact hx.2
  ·simp only [if_neg hk];exact ih
set_option maxHeartbeats 4000000 in
theorem c_rFrom (a:Hrd) (hl:a.log.length≤4294967) (hb:0≤a.base∧a.base≤1099511627776) (i:Int) (hi:isI i) (m:Int):Ctr Tryz.prog 216 [.ag a.enc,iv i,iv m] (.ow 0 0 ((fromL a i m).map Ent.enc).length) [(16,(fromL a i m).map Ent.enc)]:=by
 have hi':=hi
 unfold isI at hi'
 refine sBody Tryz.func216 ?_;conv=>whnf
 (refine tSp (fun h=>?_) (fun h=>?_)<;>conv=>whnf)
 ·rw [show fromL a i m=[] from by unfold fromL;rw [if_neg (by omega)]]
  exact zfr 16
 generalize hD:a.log.drop (i - a.base - 1).toNat=D
 have hDl:(D.length:Int)=max (a.base+a.log.length+1 - i) 0:=by rw [← hD,List.length_drop];omega
 refine zgp 7 1000 16 rfl rfl ?_
 conv=>whnf
 refine tFor (fun k:Nat=>k≤D.length∧(k:Int)≤max m 0) (fun k=>[(1,iv (i+(k:Int))),(7,.ow 1000 0 ((D.take k).map Ent.enc).length)]) (fun _=>[(3,a.enc)]) (fun k=>[(1000,some (false,16,(D.take k).map Ent.enc))]) [(1000,1000)] (fun k=>D.length - k) 0 ⟨Nat.zero_le _,by omega⟩ ?_ ?_
 ·conv=>whnf
  (refine wkx ?_;refine ⟨?_,?_,?_⟩<;>(conv=>whnf)<;>repeat' first | exact wkc | (with_reducible refine And.intro ?_ ?_)<;>first | exact wks | refine wko ?_ | refine wki ?_ | refine wkb ?_ | (refine zan ?_;conv=>whnf) | (refine zah ?_;conv=>whnf) | (refine zag ?_;conv=>whnf) | conv=>whnf)
  all_goals first | omega | rfl
 rintro k ⟨hk,hkm⟩
 conv=>whnf
 (refine tSp (fun h=>?_) (fun h=>?_)<;>conv=>whnf)
 ·rw [List.length_map,List.length_take,Nat.min_eq_left hk] at h
  have h1:=h
  (refine tSp (fun h=>?_) (fun h=>?_)<;>conv=>whnf)
  ·rw [List.length_map,zal (by omega) (by omega)] at h
   have hlt:k < D.length:=by omega
   have he:entAt a (i+(k:Int))=some (D[k]'hlt):=by
    rw [zjm (m:=(i - a.base - 1).toNat+k) (by omega),← List.getElem?_drop,hD,List.getElem?_eq_getElem hlt]
   have c1:=c_rAt a (zak (by omega)) hb.1 (by omega) (i+(k:Int)) (by unfold isI;omega)
   rw [he] at c1
   simp only [Option.getD_some,Option.isSome_some] at c1
   have n1:((D.take k).map Ent.enc).length≤4294967:=by rw [List.length_map,List.length_take];omega
   have s1:D.take (k+1)=D.take k++[D[k]'hlt]:=List.take_succ_eq_append_getElem hlt
   ((try (refine Exists.intro none ?_;conv=>whnf));(with_reducible refine zaa (c1) ?_);conv=>whnf)
   (refine And.intro rfl ?_;(conv=>whnf);refine And.intro (And.intro (And.intro (by kernel_rfl) (And.intro (by simp) (And.intro (small (by simp only [List.length_cons,List.length_nil];omega) (by kernel_rfl)) (And.intro (zak (by simp only [List.length_cons,List.length_nil];omega)) (by intro r hr;rw [List.mem_singleton.1 hr];rfl))))) (And.intro (by decide) rfl)) ?_;conv=>whnf)
   refine ⟨k+1,[(1000,592)],⟨⟨by omega,by omega⟩,by omega⟩,?_⟩
   rw [s1]
   conv=>whnf
   (refine wkx ?_;refine ⟨?_,?_,?_⟩<;>(conv=>whnf)<;>repeat' first | exact wkc | (with_reducible refine And.intro ?_ ?_)<;>first | exact wks | refine wko ?_ | refine wki ?_ | refine wkb ?_ | (refine zan ?_;conv=>whnf) | (refine zah ?_;conv=>whnf) | (refine zag ?_;conv=>whnf) | conv=>whnf)
   all_goals first | (rw [zal (by omega) (by omega)];omega) | (refine zaz (by kernel_rfl) ?_;exact zzq rfl _ rfl) | (simp only [List.map_append,List.length_append];rfl) | rfl
  ·rw [List.length_map,zal (by omega) (by omega)] at h
   have hkd:k=D.length:=by omega
   rw [show fromL a i m=D.take k from by unfold fromL;rw [if_pos ⟨by omega,by omega⟩,hD,hkd,List.take_length,List.take_of_length_le (by omega)]]
   exact zbd [(0,1000)] rfl ⟨rfl,True.intro⟩ (zbj rfl rfl rfl)
 ·rw [List.length_map,List.length_take,Nat.min_eq_left hk] at h
  rw [show fromL a i m=D.take k from by
   unfold fromL
   by_cases hm1:1≤m
   ·rw [if_pos ⟨by omega,hm1⟩,hD,show m.toNat=k by omega]
   ·rw [if_neg (by omega),show k=0 by omega];rfl]
  exact zbd [(0,1000)] rfl ⟨rfl,True.intro⟩ (zbj rfl rfl rfl)
theorem ze0 (a:Hrd) (h1:a.snap.length≤4294967296) (h2:a.log.length≤4294967296):Ctr Tryz.prog 74 [.ag a.enc] (.ag a.enc) []:=by
 refine (zla a h1 h2).frz (zag ?_)
 conv=>whnf
 repeat' (first | exact rfl | ((with_reducible refine And.intro ?_ ?_)<;>(first | (with_reducible exact zaj _ rfl) | exact zbw (b:=false) (List.Mem.head _) rfl | exact zbw (b:=false) (List.Mem.tail _ (List.Mem.head _)) rfl | (conv=>whnf))))
end Go.Proofs
namespace Go.Pv
theorem zat {c:CSt}{p r:PV} (fz:List (Nat×Bool×Nat×List (List PV))) (h:∀ q ∈ fz,lkA c.ob q.1=some (some q.2)) (h3:WkV [] [] fz p r):ExitOk c p r []:=by
 refine ⟨.inl ⟨fz,[],⟨h,?_,?_,?_⟩,h3⟩⟩
 ·intro k o e;cases e
 ·intro k k0 e;cases e
 ·intro k k' k0 e;cases e
end Go.Pv
namespace Go.Proofs
open Go.Pv
set_option maxRecDepth 100000
set_option maxHeartbeats 4000000 in
theorem c_rPutW (a : Hrd) (h1 : a.snap.length ≤ 4294967296) (h2 : a.log.length ≤ 4294967) (hb : isI a.base) (i : Int) (hi : isI i) (l : List Ent) (h3 : l.length ≤ 4294967) :
    Ctr Tryz.prog 199 [.ag a.enc,iv i,.sl 16 (l.map Ent.enc)] (resW (putHE a i l) (putH a i l)) []:=by
 have hm:a.log.length≤maxLen:=zak (by omega)
 have hml:l.length≤maxLen:=zak (by omega)
 have hck:=zl2 a hm
 by_cases hB:hardB a=true
 ·rw [hB] at hck
  have hA:=(za9 hB).1
  have hb0:=hA.b
  have hla:lastI a=a.base+a.log.length:=zbk hb0.1 (by omega)
  have hr:=c_row l hml (zbh a i) a.term
  have kw:=zcr i a.base (lastI a)
  have kt:=zjs a hm hb0.1 (by omega) i hi
  by_cases hk:(a.base≤i∧i≤lastI a)∧rowB l (zbh a i) a.term=true
  ·have e:putHE a i l=0:=by unfold putHE;rw [if_pos hB,if_pos hk]
   rw [(zea e).2.2]
   rw [hk.2] at hr
   rw [decide_eq_true hk.1] at kw
   obtain ⟨⟨hk1,hk2⟩,_⟩:=hk
   generalize hn:(i - a.base).toNat=n
   have hn':i=a.base+(n:Int):=by omega
   have hnl:n≤a.log.length:=by omega
   refine sBody Tryz.func199 ?_;conv=>whnf
   ((try (refine Exists.intro none ?_;conv=>whnf));(with_reducible refine zaa (hck) ?_);conv=>whnf)
   ((try (refine Exists.intro none ?_;conv=>whnf));(with_reducible refine zaa (zb0 a hm) ?_);conv=>whnf)
   ((try (refine Exists.intro none ?_;conv=>whnf));(with_reducible refine zaa (kw) ?_);conv=>whnf)
   ((try (refine Exists.intro none ?_;conv=>whnf));(with_reducible refine zaa (kt) ?_);conv=>whnf)
   ((try (refine Exists.intro none ?_;conv=>whnf));(with_reducible refine zaa (hr) ?_);conv=>whnf)
   ((try (refine Exists.intro none ?_;conv=>whnf));(with_reducible refine zaa (ze0 a h1 (by omega)) ?_);conv=>whnf)
   (refine tNew0 ?_;conv=>whnf)
   refine zbv mixed (by kernel_rfl) (fun j:Nat=>j≤l.length∧alike a.log n l j) (fun j=>[(11,iv j)]) [] (fun j=>l.length - j) 0 ⟨Nat.zero_le _,zwn _ _ _⟩ ?_ ?_
   ·conv=>whnf
    exact wkD
   rintro j ⟨hj,hal⟩
   have hle:=zq3 hal hnl
   conv=>whnf
   (refine tSp (fun h=>?_) (fun h=>?_)<;>conv=>whnf)
   ·simp only [List.length_map] at h
    have hlt:j < l.length:=by omega
    have e1:IntKind.i64.wrap (IntKind.i64.wrap (i+(j:Int))+1)=a.base+1+((n+j:Nat):Int):=by
     rw [show IntKind.i64.wrap (i+(j:Int))=i+j from zal (by omega) (by omega),zal (by omega) (by omega)];omega
    have e2:IntKind.i64.wrap (IntKind.i64.wrap (i+(j:Int)) - a.base)=((n+j:Nat):Int):=by
     rw [show IntKind.i64.wrap (i+(j:Int))=i+j from zal (by omega) (by omega),zal (by omega) (by omega)];omega
    have c1:=c_rAt a hm hb0.1 (by omega) (a.base+1+((n+j:Nat):Int)) (by unfold isI;omega)
    rw [zjm (m:=n+j) rfl] at c1
    have fin:(∀ h1:n+j < a.log.length,(a.log[n+j]'h1).term ≠ (l[j]'hlt).term)→putH a i l={ a with log:=a.log.take (n+j)++l.drop j }:=fun hd=>by
     unfold putH;rw [hn,zpn hal hnl hlt hd]
    have er:List.drop j (List.take (((List.map Ent.enc l).length:Nat):Int).toNat (List.map Ent.enc l))=(l.drop j).map Ent.enc:=by rw [Int.toNat_natCast,List.take_length,List.map_drop]
    have eq:List.drop (Int.toNat 0) (List.take (n+j) (a.log.map Ent.enc))=(a.log.take (n+j)).map Ent.enc:=by rw [List.map_take];rfl
    have htl:(a.log.take (n+j)).length=n+j:=by rw [List.length_take];omega
    have c2:=zcu (a.log.take (n+j)) (by omega)
    rw [e1]
    by_cases hat:n+j < a.log.length
    ·rw [List.getElem?_eq_getElem hat] at c1
     simp only [Option.getD_some,Option.isSome_some] at c1
     ((try (refine Exists.intro none ?_;conv=>whnf));(with_reducible refine zaa (c1) ?_);conv=>whnf)
     (first | ((with_reducible refine And.intro (by omega) (Exists.intro _ (And.intro (zbn hlt) ?_)));conv=>whnf))
     (refine tSp (fun h=>?_) (fun h=>?_)<;>conv=>whnf)
     ·refine ⟨j+1,⟨⟨by omega,zk7 hal hat hlt h⟩,by omega⟩,?_⟩
      conv=>whnf
      exact wkD
     ·have ep:=fin (fun _=>h)
      rw [e2]
      refine ⟨⟨by omega,by omega,by simp only [List.length_map];omega⟩,?_⟩
      conv=>whnf
      refine Exists.intro none ?_
      conv=>whnf
      rw [Int.toNat_natCast,eq]
      ((try (refine Exists.intro none ?_;conv=>whnf));(with_reducible refine zaa (c2) ?_);conv=>whnf)
      (refine Exists.intro _ (And.intro rfl (And.intro (by intro q hq;first | (cases hq;done) | (simp only [List.mem_cons,List.not_mem_nil,or_false] at hq;rcases hq with rfl | rfl<;>(simp only [List.length_cons,List.length_nil];omega)) | (simp only [List.mem_cons,List.not_mem_nil,or_false] at hq;subst hq;simp only [List.length_cons,List.length_nil];omega)) (And.intro (by intro i hi;simp only [List.length_cons,List.length_nil,Nat.lt_one_iff,Nat.zero_add] at hi;subst hi;rfl) ?_)));conv=>whnf)
      refine ⟨⟨by omega,by rw [List.length_map];omega,Int.le_refl _⟩,?_⟩
      conv=>whnf
      refine ⟨by kernel_rfl,?_⟩
      conv=>whnf
      rw [Int.toNat_natCast,er]
      refine ⟨⟨⟨by kernel_rfl,Nat.le_refl _,small (by rw [List.length_map,List.length_map,List.length_drop];omega) (by kernel_rfl),zak (by rw [List.length_map,List.length_map,List.length_drop];omega),by intro r hr;obtain ⟨x,_,rfl⟩:=List.mem_map.1 hr;rfl⟩,by decide,rfl⟩,?_⟩
      conv=>whnf
      rw [ep]
      refine zat [(1296,false,16,(a.log.take (n+j)++l.drop j).map Ent.enc)] ?_ (zah ⟨zag ?_,zaj _ rfl,rfl⟩)
      ·intro q hq
       rw [List.mem_singleton.1 hq]
       refine congrArg (fun x=>some (some x)) (zaz (b:=false) (by kernel_rfl) ?_)
       rw [List.take_length,List.map_append]
      conv=>whnf
      repeat' (first | exact rfl | ((with_reducible refine And.intro ?_ ?_)<;>(first | (with_reducible exact zaj _ rfl) | (refine zbw (b:=false) (List.Mem.head _) ?_;simp only [List.map_append,List.length_append];done) | (conv=>whnf))))
    ·rw [List.getElem?_eq_none (by omega)] at c1
     simp only [Option.getD_none,Option.isSome_none] at c1
     have ep:=fin (fun h1=>absurd h1 hat)
     ((try (refine Exists.intro none ?_;conv=>whnf));(with_reducible refine zaa (c1) ?_);conv=>whnf)
     rw [e2]
     refine ⟨⟨by omega,by omega,by simp only [List.length_map];omega⟩,?_⟩
     conv=>whnf
     refine Exists.intro none ?_
     conv=>whnf
     rw [Int.toNat_natCast,eq]
     ((try (refine Exists.intro none ?_;conv=>whnf));(with_reducible refine zaa (c2) ?_);conv=>whnf)
     (refine Exists.intro _ (And.intro rfl (And.intro (by intro q hq;first | (cases hq;done) | (simp only [List.mem_cons,List.not_mem_nil,or_false] at hq;rcases hq with rfl | rfl<;>(simp only [List.length_cons,List.length_nil];omega)) | (simp only [List.mem_cons,List.not_mem_nil,or_false] at hq;subst hq;simp only [List.length_cons,List.length_nil];omega)) (And.intro (by intro i hi;simp only [List.length_cons,List.length_nil,Nat.lt_one_iff,Nat.zero_add] at hi;subst hi;rfl) ?_)));conv=>whnf)
     refine ⟨⟨by omega,by rw [List.length_map];omega,Int.le_refl _⟩,?_⟩
     conv=>whnf
     refine ⟨by kernel_rfl,?_⟩
     conv=>whnf
     rw [Int.toNat_natCast,er]
     refine ⟨⟨⟨by kernel_rfl,Nat.le_refl _,small (by rw [List.length_map,List.length_map,List.length_drop];omega) (by kernel_rfl),zak (by rw [List.length_map,List.length_map,List.length_drop];omega),by intro r hr;obtain ⟨x,_,rfl⟩:=List.mem_map.1 hr;rfl⟩,by decide,rfl⟩,?_⟩
     conv=>whnf
     rw [ep]
     refine zat [(1296,false,16,(a.log.take (n+j)++l.drop j).map Ent.enc)] ?_ (zah ⟨zag ?_,zaj _ rfl,rfl⟩)
     ·intro q hq
      rw [List.mem_singleton.1 hq]
      refine congrArg (fun x=>some (some x)) (zaz (b:=false) (by kernel_rfl) ?_)
      rw [List.take_length,List.map_append]
     conv=>whnf
     repeat' (first | exact rfl | ((with_reducible refine And.intro ?_ ?_)<;>(first | (with_reducible exact zaj _ rfl) | (refine zbw (b:=false) (List.Mem.head _) ?_;simp only [List.map_append,List.length_append];done) | (conv=>whnf))))
   ·simp only [List.length_map] at h
    have ej:j=l.length:=by omega
    subst ej
    have ep:putH a i l=a:=by
     unfold putH;rw [hn,zq5 hal]
    rw [ep]
    exact zab rfl rfl
  ·have e:putHE a i l=1:=by unfold putHE;rw [if_pos hB,if_neg hk]
   rw [e,(zc0 (by decide)).2.2]
   refine sBody Tryz.func199 ?_;conv=>whnf
   ((try (refine Exists.intro none ?_;conv=>whnf));(with_reducible refine zaa (hck) ?_);conv=>whnf)
   ((try (refine Exists.intro none ?_;conv=>whnf));(with_reducible refine zaa (zb0 a hm) ?_);conv=>whnf)
   by_cases hw:a.base≤i∧i≤lastI a
   ·have hf : rowB l (zbh a i) a.term = false := by
      cases hrb:rowB l (zbh a i) a.term with
      | false=>rfl
      | true=>exact absurd ⟨hw,hrb⟩ hk
    rw [hf] at hr
    rw [decide_eq_true hw] at kw
    ((try (refine Exists.intro none ?_;conv=>whnf));(with_reducible refine zaa (kw) ?_);conv=>whnf)
    ((try (refine Exists.intro none ?_;conv=>whnf));(with_reducible refine zaa (kt) ?_);conv=>whnf)
    ((try (refine Exists.intro none ?_;conv=>whnf));(with_reducible refine zaa (hr) ?_);conv=>whnf)
    exact zab rfl rfl
   ·rw [decide_eq_false hw] at kw
    ((try (refine Exists.intro none ?_;conv=>whnf));(with_reducible refine zaa (kw) ?_);conv=>whnf)
    exact zab rfl rfl
 ·have e:putHE a i l=6:=by unfold putHE;rw [if_neg hB]
  rw [e,(zc0 (by decide)).2.2]
  simp only [Bool.not_eq_true] at hB
  rw [hB] at hck
  refine sBody Tryz.func199 ?_;conv=>whnf
  ((try (refine Exists.intro none ?_;conv=>whnf));(with_reducible refine zaa (hck) ?_);conv=>whnf)
  exact zab rfl rfl
set_option maxHeartbeats 4000000 in
theorem zj8 (a : Hrd) (h2 : a.log.length ≤ 4294967) (hb : isI a.base) (i : Int) (hi : isI i) (s : List Int) (h3 : s.length ≤ 4294967296) :
    Ctr Tryz.prog 104 [.ag a.enc,iv i,.sl 1 (s.map encB)] (resW (compE a i s) (compH a i s)) []:=by
 have hm:a.log.length≤maxLen:=zak (by omega)
 have hck:=zl2 a hm
 by_cases hB:hardB a=true
 ·rw [hB] at hck
  have hb0:=(za9 hB).1.b
  have hla:lastI a=a.base+a.log.length:=zbk hb0.1 (by omega)
  have kT:=zjs a hm hb0.1 (by omega) i hi
  have e1:IntKind.i64.wrap (a.base+1)=a.base+1:=zal (by omega) (by omega)
  have kw:=zcr i (a.base+1) (if 1099511627776 < lastI a then 1099511627776 else lastI a)
  unfold isI at hi
  by_cases hk:a.base < i∧i≤lastI a∧i≤1099511627776
  ·have hw:a.base+1≤i∧i≤(if 1099511627776 < lastI a then 1099511627776 else lastI a):=⟨by omega,by split<;>omega⟩
   rw [decide_eq_true hw] at kw
   by_cases hs:16384 < s.length
   ·have e:compE a i s=2:=by unfold compE;rw [if_pos hB,if_pos hk,if_pos hs]
    rw [e,(zc0 (by decide)).2.2]
    refine sBody Tryz.func104 ?_;conv=>whnf
    ((try (refine Exists.intro none ?_;conv=>whnf));(with_reducible refine zaa (hck) ?_);conv=>whnf)
    ((try (refine Exists.intro none ?_;conv=>whnf));(with_reducible refine zaa (zb0 a hm) ?_);conv=>whnf)
    refine Exists.intro none ?_
    conv=>whnf
    rw [e1]
    ((try (refine Exists.intro none ?_;conv=>whnf));(with_reducible refine zaa (kw) ?_);conv=>whnf)
    (refine tSp (fun h=>?_) (fun h=>?_)<;>conv=>whnf)
    ·exact zab rfl rfl
    ·exfalso
     simp only [List.length_map] at h
     omega
   ·have e:compE a i s=0:=by unfold compE;rw [if_pos hB,if_pos hk,if_neg hs]
    rw [e,(zea rfl).2.2]
    obtain ⟨q,hq,hql⟩:∃ q:Nat,i - a.base=q∧q≤a.log.length:=⟨(i - a.base).toNat,by omega,by omega⟩
    have e3:IntKind.i64.wrap (i - a.base)=(q:Int):=by rw [zal (by omega) (by omega),hq]
    have e2:List.drop (q:Int).toNat (List.take (((a.log.map Ent.enc).length:Nat):Int).toNat (a.log.map Ent.enc))=(a.log.drop q).map Ent.enc:=by rw [Int.toNat_natCast,Int.toNat_natCast,List.take_length,List.map_drop]
    have c1:=(zcu (a.log.drop q) (by rw [List.length_drop];omega)).frz (zbw (b:=false) (List.Mem.head _) rfl)
    have c2:=(zqb s h3).frz (zbw (b:=false) (List.Mem.head _) rfl)
    rw [show compH a i s=⟨a.term,a.vote,i,zbh a i,(force a i).1,s,a.log.drop q⟩ from by unfold compH;rw [hq,Int.toNat_natCast]]
    refine sBody Tryz.func104 ?_;conv=>whnf
    ((try (refine Exists.intro none ?_;conv=>whnf));(with_reducible refine zaa (hck) ?_);conv=>whnf)
    ((try (refine Exists.intro none ?_;conv=>whnf));(with_reducible refine zaa (zb0 a hm) ?_);conv=>whnf)
    refine Exists.intro none ?_
    conv=>whnf
    rw [e1]
    ((try (refine Exists.intro none ?_;conv=>whnf));(with_reducible refine zaa (kw) ?_);conv=>whnf)
    (refine tSp (fun h=>?_) (fun h=>?_)<;>conv=>whnf)
    ·exfalso
     simp only [List.length_map] at h
     omega
    ((try (refine Exists.intro none ?_;conv=>whnf));(with_reducible refine zaa (zi9 a hm i) ?_);conv=>whnf)
    ((try (refine Exists.intro none ?_;conv=>whnf));(with_reducible refine zaa (kT) ?_);conv=>whnf)
    ((try (refine Exists.intro none ?_;conv=>whnf));(with_reducible refine zaa (c2) ?_);conv=>whnf)
    (refine tNew0 ?_;conv=>whnf)
    rw [e3]
    refine ⟨⟨by omega,by rw [List.length_map];omega,Int.le_refl _⟩,?_⟩
    conv=>whnf
    refine Exists.intro none ?_
    conv=>whnf
    rw [e2]
    ((try (refine Exists.intro none ?_;conv=>whnf));(with_reducible refine zaa (c1) ?_);conv=>whnf)
    (refine tNew0 ?_;conv=>whnf)
    exact zab rfl rfl
  ·have e:compE a i s=1:=by unfold compE;rw [if_pos hB,if_neg hk]
   have hw:¬ (a.base+1≤i∧i≤(if 1099511627776 < lastI a then 1099511627776 else lastI a)):=by
    rintro ⟨w1,w2⟩
    split at w2<;>omega
   rw [decide_eq_false hw] at kw
   rw [e,(zc0 (by decide)).2.2]
   refine sBody Tryz.func104 ?_;conv=>whnf
   ((try (refine Exists.intro none ?_;conv=>whnf));(with_reducible refine zaa (hck) ?_);conv=>whnf)
   ((try (refine Exists.intro none ?_;conv=>whnf));(with_reducible refine zaa (zb0 a hm) ?_);conv=>whnf)
   refine Exists.intro none ?_
   conv=>whnf
   rw [e1]
   ((try (refine Exists.intro none ?_;conv=>whnf));(with_reducible refine zaa (kw) ?_);conv=>whnf)
   exact zab rfl rfl
 ·have e:compE a i s=6:=by unfold compE;rw [if_neg hB]
  rw [e,(zc0 (by decide)).2.2]
  simp only [Bool.not_eq_true] at hB
  rw [hB] at hck
  refine sBody Tryz.func104 ?_;conv=>whnf
  ((try (refine Exists.intro none ?_;conv=>whnf));(with_reducible refine zaa (hck) ?_);conv=>whnf)
  exact zab rfl rfl
set_option maxHeartbeats 4000000 in
theorem zj6 (a : Hrd) (h2 : a.log.length ≤ 4294967) (hb : isI a.base) (i : Int) (hi : isI i) (t : Int) (c : Conf) (s : List Int) (h3 : s.length ≤ 4294967296) :
    Ctr Tryz.prog 163 [.ag a.enc,iv i,iv t,.ag c.enc,.sl 1 (s.map encB)] (resW (instE a i t c s) (instH a i t c s)) []:=by
 have hm:a.log.length≤maxLen:=zak (by omega)
 have hck:=zl2 a hm
 by_cases hB:hardB a=true
 ·rw [hB] at hck
  have hA:=(za9 hB).1
  have hb0:=hA.b
  have hbt:=hA.bt
  have kF:=zop a hm hb0.1 (by omega) i hi t
  have e1:IntKind.i64.wrap (a.base+1)=a.base+1:=zal (by omega) (by omega)
  have kw:=zcr i (a.base+1) 1099511627776
  have kv:=zcr t (if 1 > a.baseTerm then 1 else a.baseTerm) a.term
  have hcc:=zhx c
  unfold isI at hi
  by_cases hw:a.base+1≤i∧i≤1099511627776
  ·rw [decide_eq_true hw] at kw
   by_cases hv:(if 1 > a.baseTerm then 1 else a.baseTerm)≤t∧t≤a.term
   ·have hk : (a.base < i ∧ i ≤ 1099511627776) ∧ (1 ≤ t ∧ t ≤ a.term ∧ a.baseTerm ≤ t) := by
      obtain ⟨v1,v2⟩:=hv
      split at v1<;>exact ⟨⟨by omega,by omega⟩,by omega,by omega,by omega⟩
    rw [decide_eq_true hv] at kv
    by_cases hC:confB c=true
    ·rw [hC] at hcc
     by_cases hs:16384 < s.length
     ·have e:instE a i t c s=2:=by unfold instE;rw [if_pos hB,if_pos hk,if_pos hC,if_pos hs]
      rw [e,(zc0 (by decide)).2.2]
      refine sBody Tryz.func163 ?_;conv=>whnf
      ((try (refine Exists.intro none ?_;conv=>whnf));(with_reducible refine zaa (hck) ?_);conv=>whnf)
      refine Exists.intro none ?_
      conv=>whnf
      rw [e1]
      ((try (refine Exists.intro none ?_;conv=>whnf));(with_reducible refine zaa (kw) ?_);conv=>whnf)
      ((try (refine Exists.intro none ?_;conv=>whnf));(with_reducible refine zaa (kv) ?_);conv=>whnf)
      ((try (refine Exists.intro none ?_;conv=>whnf));(with_reducible refine zaa (hcc) ?_);conv=>whnf)
      (refine tSp (fun h=>?_) (fun h=>?_)<;>conv=>whnf)
      ·exact zab rfl rfl
      ·exfalso
       simp only [List.length_map] at h
       omega
     ·have e:instE a i t c s=0:=by unfold instE;rw [if_pos hB,if_pos hk,if_pos hC,if_neg hs]
      rw [e,(zea rfl).2.2]
      have c2:=(zqb s h3).frz (zbw (b:=false) (List.Mem.head _) rfl)
      refine sBody Tryz.func163 ?_;conv=>whnf
      ((try (refine Exists.intro none ?_;conv=>whnf));(with_reducible refine zaa (hck) ?_);conv=>whnf)
      refine Exists.intro none ?_
      conv=>whnf
      rw [e1]
      ((try (refine Exists.intro none ?_;conv=>whnf));(with_reducible refine zaa (kw) ?_);conv=>whnf)
      ((try (refine Exists.intro none ?_;conv=>whnf));(with_reducible refine zaa (kv) ?_);conv=>whnf)
      ((try (refine Exists.intro none ?_;conv=>whnf));(with_reducible refine zaa (hcc) ?_);conv=>whnf)
      (refine tSp (fun h=>?_) (fun h=>?_)<;>conv=>whnf)
      ·exfalso
       simp only [List.length_map] at h
       omega
      ((try (refine Exists.intro none ?_;conv=>whnf));(with_reducible refine zaa (c2) ?_);conv=>whnf)
      (refine tNew0 ?_;conv=>whnf)
      cases hf:fits a i t with
      | true =>
       rw [hf] at kF
       have hin:=zo9 (by omega) hf hk.1.1
       obtain ⟨q,hq,hql⟩:∃ q:Nat,i - a.base=q∧q≤a.log.length:=⟨(i - a.base).toNat,by omega,by omega⟩
       have e3:IntKind.i64.wrap (i - a.base)=(q:Int):=by rw [zal (by omega) (by omega),hq]
       have e2:List.drop (q:Int).toNat (List.take (((a.log.map Ent.enc).length:Nat):Int).toNat (a.log.map Ent.enc))=(a.log.drop q).map Ent.enc:=by rw [Int.toNat_natCast,Int.toNat_natCast,List.take_length,List.map_drop]
       have c1:=(zcu (a.log.drop q) (by rw [List.length_drop];omega)).frz (zbw (b:=false) (List.Mem.head _) rfl)
       rw [show instH a i t c s=⟨a.term,a.vote,i,t,c,s,a.log.drop q⟩ from by unfold instH;rw [hf,if_pos rfl,hq,Int.toNat_natCast]]
       ((try (refine Exists.intro none ?_;conv=>whnf));(with_reducible refine zaa (kF) ?_);conv=>whnf)
       rw [e3]
       refine ⟨⟨by omega,by rw [List.length_map];omega,Int.le_refl _⟩,?_⟩
       conv=>whnf
       refine Exists.intro none ?_
       conv=>whnf
       rw [e2]
       ((try (refine Exists.intro none ?_;conv=>whnf));(with_reducible refine zaa (c1) ?_);conv=>whnf)
       (refine tNew0 ?_;conv=>whnf)
       exact zab rfl rfl
      | false =>
       rw [hf] at kF
       rw [show instH a i t c s=⟨a.term,a.vote,i,t,c,s,[]⟩ from by unfold instH;rw [hf,if_neg (by decide)]]
       ((try (refine Exists.intro none ?_;conv=>whnf));(with_reducible refine zaa (kF) ?_);conv=>whnf)
       refine zat [] (by intro q hq;cases hq) (zah ⟨zag ?_,zaj _ rfl,rfl⟩)
       conv=>whnf
       repeat' (first | exact rfl | ((with_reducible refine And.intro ?_ ?_)<;>(first | (with_reducible exact zaj _ rfl) | exact .inr (.inl ⟨rfl,rfl⟩) | (conv=>whnf))))
    ·have e:instE a i t c s=14:=by unfold instE;rw [if_pos hB,if_pos hk,if_neg hC]
     simp only [Bool.not_eq_true] at hC
     rw [hC] at hcc
     rw [e,(zc0 (by decide)).2.2]
     refine sBody Tryz.func163 ?_;conv=>whnf
     ((try (refine Exists.intro none ?_;conv=>whnf));(with_reducible refine zaa (hck) ?_);conv=>whnf)
     refine Exists.intro none ?_
     conv=>whnf
     rw [e1]
     ((try (refine Exists.intro none ?_;conv=>whnf));(with_reducible refine zaa (kw) ?_);conv=>whnf)
     ((try (refine Exists.intro none ?_;conv=>whnf));(with_reducible refine zaa (kv) ?_);conv=>whnf)
     ((try (refine Exists.intro none ?_;conv=>whnf));(with_reducible refine zaa (hcc) ?_);conv=>whnf)
     exact zab rfl rfl
   ·have hk : ¬ ((a.base < i ∧ i ≤ 1099511627776) ∧ (1 ≤ t ∧ t ≤ a.term ∧ a.baseTerm ≤ t)) := by
      rintro ⟨_,v1,v2,v3⟩
      exact hv ⟨by split<;>omega,v2⟩
    have e:instE a i t c s=1:=by unfold instE;rw [if_pos hB,if_neg hk]
    rw [decide_eq_false hv] at kv
    rw [e,(zc0 (by decide)).2.2]
    refine sBody Tryz.func163 ?_;conv=>whnf
    ((try (refine Exists.intro none ?_;conv=>whnf));(with_reducible refine zaa (hck) ?_);conv=>whnf)
    refine Exists.intro none ?_
    conv=>whnf
    rw [e1]
    ((try (refine Exists.intro none ?_;conv=>whnf));(with_reducible refine zaa (kw) ?_);conv=>whnf)
    ((try (refine Exists.intro none ?_;conv=>whnf));(with_reducible refine zaa (kv) ?_);conv=>whnf)
    exact zab rfl rfl
  ·have hk : ¬ ((a.base < i ∧ i ≤ 1099511627776) ∧ (1 ≤ t ∧ t ≤ a.term ∧ a.baseTerm ≤ t)) := by
     rintro ⟨⟨v1,v2⟩,_⟩
     exact hw ⟨by omega,v2⟩
   have e:instE a i t c s=1:=by unfold instE;rw [if_pos hB,if_neg hk]
   rw [decide_eq_false hw] at kw
   rw [e,(zc0 (by decide)).2.2]
   refine sBody Tryz.func163 ?_;conv=>whnf
   ((try (refine Exists.intro none ?_;conv=>whnf));(with_reducible refine zaa (hck) ?_);conv=>whnf)
   refine Exists.intro none ?_
   conv=>whnf
   rw [e1]
   ((try (refine Exists.intro none ?_;conv=>whnf));(with_reducible refine zaa (kw) ?_);conv=>whnf)
   exact zab rfl rfl
 ·have e:instE a i t c s=6:=by unfold instE;rw [if_neg hB]
  rw [e,(zc0 (by decide)).2.2]
  simp only [Bool.not_eq_true] at hB
  rw [hB] at hck
  refine sBody Tryz.func163 ?_;conv=>whnf
  ((try (refine Exists.intro none ?_;conv=>whnf));(with_reducible refine zaa (hck) ?_);conv=>whnf)
  exact zab rfl rfl
end Go.Proofs
