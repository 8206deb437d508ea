import Derived.Test.YtbhfokahocgndabGreatPvQ3
import Derived.Test.YtbhfokahocgndabGreatC57
/- Contracts of functions: the reference's Grow. -/
set_option linter.unusedSimpArgs false
set_option linter.unusedVariables false
set_option maxHeartbeats 8000000
namespace Go.Proofs
open Go.Pv
set_option maxRecDepth 100000
theorem zdu {h:Hrd}{i:Int}{x:Ent} (h1:h.base < i) (he:entAt h i=some x):zau h i=x.term:=by
 unfold zau
 rw [if_neg (by omega),he]
theorem zip {h:Hrd}{c p:Int}{l:List Ent}{j:Nat} (hAt:∀ i:Int,p < i→i≤c→∃ x,entAt h i=some x∧zau h i=x.term) (hal:∀ k (hk:k < l.length),k < j→∀ x,entAt h (p+1+k)=some x→x.term=(l[k]'hk).term) (hout:∀ k,k < l.length→j≤k→c < p+1+k):gBrk h c p l=false:=by
 refine gBrk_f fun k hk hle=>?_
 by_cases hkj:k < j
 ·obtain ⟨x,hx,ht⟩:=hAt (p+1+k) (by omega) hle
  rw [ht]
  exact hal k hk hkj x hx
 ·have:=hout k hk (by omega)
  omega
theorem zxq (a : Hrd) (h1 : a.snap.length ≤ 4294967296) (h2 : a.log.length ≤ 4294967) (hb : isI a.base) (c : Int) (m : Mg) (h3 : m.entries.length ≤ 4294967) :
    Ctr Tryz.prog 162 [.ag a.enc,iv c,.ag m.enc] (resGW (growE a c m) (growO a c m)) []:=by
 have hm:a.log.length≤maxLen:=zad (by omega)
 have kH:=zoe a hm
 by_cases hB:hardB a=true
 ·rw [hB] at kH
  have hb0:=(zaq hB).1.b
  have hla:=zd9 hB h2
  have kw1:=zai c a.base (lastI a)
  have kw2:=zai m.index 0 1099511627776
  by_cases hR:zeg a c m
  ·have hR2:=hR
   obtain ⟨⟨g1,g2⟩,⟨g3,g4⟩,g5,g6,g7⟩:=hR2
   rw [decide_eq_true ⟨g1,g2⟩] at kw1
   rw [decide_eq_true ⟨g3,g4⟩] at kw2
   have hPb:gP a m≤1099511627776∧a.base≤gP a m:=by unfold gP;split<;>omega
   have hPI:isI (gP a m):=by unfold isI;omega
   have hLl:=zt0 a m
   have kF:=zrm a hm (by omega) (by omega) (gP a m) hPI (gT a m)
   have kP:=c_rPutW a h1 h2 hb (gP a m) hPI (gL a m) (by omega)
   have hAt:∀ i:Int,gP a m < i→i≤c→∃ x,entAt a i=some x∧zau a i=x.term:=fun i hi1 hi2=>by
    have he:=zeo (h:=a) (i:=i) (by omega) (by omega)
    exact ⟨_,he,zdu (by omega) he⟩
   have hw:∀ x:Int,0≤x∧x≤1099511627776→IntKind.i64.wrap (x - 1)=x - 1:=fun x hx=>zaf (by omega) (by omega)
   have hw2:∀ x:Int,0≤x∧x≤1099511627776→IntKind.i64.wrap (x+((gL a m).length:Int))=x+(gL a m).length:=fun x hx=>zaf (by omega) (by omega)
   have hw3:∀ x:Int,0≤x∧x≤1099511627776→IntKind.i64.wrap (x+(m.entries.length:Int))=x+m.entries.length:=fun x hx=>zaf (by omega) (by omega)
   have hcut:m.index < a.base→∃ q:Nat,(if ((m.entries.map Ent.enc).length:Int) < IntKind.i64.wrap (a.base - m.index) then ((m.entries.map Ent.enc).length:Int) else IntKind.i64.wrap (a.base - m.index))=(q:Int)∧q≤m.entries.length∧List.drop (q:Int).toNat (List.take (((m.entries.map Ent.enc).length:Nat):Int).toNat (m.entries.map Ent.enc))=(gL a m).map Ent.enc:=fun hp=>by
    have ew:IntKind.i64.wrap (a.base - m.index)=a.base - m.index:=zaf (by omega) (by omega)
    refine ⟨min m.entries.length (a.base - m.index).toNat,?_,Nat.min_le_left _ _,?_⟩
    ·rw [ew,List.length_map]
     split<;>omega
    ·rw [Int.toNat_natCast,Int.toNat_natCast,List.take_length,List.map_drop.symm]
     unfold gL
     congr 1
     by_cases hd:(a.base - m.index).toNat≤m.entries.length
     ·rw [Nat.min_eq_right hd]
     ·rw [Nat.min_eq_left (by omega),List.drop_eq_nil_of_le (Nat.le_refl _),List.drop_eq_nil_of_le (by omega)]
   cases hf:fits a (gP a m) (gT a m) with
   | false =>
    obtain ⟨E,O⟩:=zh8 hB hR hf
    rw [(zgg E).2.2,O]
    dsimp only
    rw [hf] at kF
    have hk:=hf
    by_cases hp:m.index < a.base
    ·have hP:gP a m=a.base:=by unfold gP;rw [if_pos hp]
     have hT:gT a m=a.baseTerm:=by unfold gT;rw [if_pos hp]
     obtain ⟨q,eq,hq,eL⟩:=hcut hp
     rw [hP,hT] at kF
     rw [hP] at kP hAt
     rw [hP]
     refine sBody Tryz.func162 ?_;conv=>whnf
     refine tC kH ?_
     refine tC (zbr a hm) ?_
     refine tC kw1 ?_
     refine tC kw2 ?_
     refine tS ?_ ?_<;>intro h
     ·exfalso;omega
     refine tS ?_ ?_<;>intro h
     ·exfalso;omega
     refine tS ?_ ?_<;>intro h
     ·exfalso;(try simp only [List.length_map] at h);omega
     refine tS ?_ ?_<;>intro h
     all_goals first | (exfalso;omega) | skip
     clear h
     rw [eq]
     refine ⟨⟨by omega,by rw [List.length_map];omega,Int.le_refl _⟩,?_⟩
     conv=>whnf
     refine Exists.intro none ?_
     conv=>whnf
     rw [eL]
     refine tC kF ?_
     refine tC (zft a h1 (by omega)) ?_
     refine tN0 ?_
     rw [hw _ (by omega)]
     exact zaa rfl rfl
    ·have hP:gP a m=m.index:=by unfold gP;rw [if_neg hp]
     have hT:gT a m=m.logTerm:=by unfold gT;rw [if_neg hp]
     have hL:gL a m=m.entries:=by unfold gL;rw [show (a.base - m.index).toNat=0 by omega,List.drop_zero]
     rw [hP,hT] at kF
     rw [hP,hL] at kP
     rw [hP] at hAt
     rw [hP]
     refine sBody Tryz.func162 ?_;conv=>whnf
     refine tC kH ?_
     refine tC (zbr a hm) ?_
     refine tC kw1 ?_
     refine tC kw2 ?_
     refine tS ?_ ?_<;>intro h
     ·exfalso;omega
     refine tS ?_ ?_<;>intro h
     ·exfalso;omega
     refine tS ?_ ?_<;>intro h
     ·exfalso;(try simp only [List.length_map] at h);omega
     refine tS ?_ ?_<;>intro h
     all_goals first | (exfalso;omega) | skip
     clear h
     refine tC kF ?_
     refine tC (zft a h1 (by omega)) ?_
     refine tN0 ?_
     rw [hw _ (by omega)]
     exact zaa rfl rfl
   | true =>
    rw [hf] at kF
    cases hk:gBrk a c (gP a m) (gL a m) with
    | true =>
     have E:=zki hB hR hf hk
     rw [(zdo (by omega)).2.2,E]
     by_cases hp:m.index < a.base
     ·have hP:gP a m=a.base:=by unfold gP;rw [if_pos hp]
      have hT:gT a m=a.baseTerm:=by unfold gT;rw [if_pos hp]
      obtain ⟨q,eq,hq,eL⟩:=hcut hp
      rw [hP,hT] at kF
      rw [hP] at kP hk hAt
      refine sBody Tryz.func162 ?_;conv=>whnf
      refine tC kH ?_
      refine tC (zbr a hm) ?_
      refine tC kw1 ?_
      refine tC kw2 ?_
      refine tS ?_ ?_<;>intro h
      ·exfalso;omega
      refine tS ?_ ?_<;>intro h
      ·exfalso;omega
      refine tS ?_ ?_<;>intro h
      ·exfalso;(try simp only [List.length_map] at h);omega
      refine tS ?_ ?_<;>intro h
      all_goals first | (exfalso;omega) | skip
      clear h
      rw [eq]
      refine ⟨⟨by omega,by rw [List.length_map];omega,Int.le_refl _⟩,?_⟩
      conv=>whnf
      refine Exists.intro none ?_
      conv=>whnf
      rw [eL]
      refine tC kF ?_
      refine zbe mixed (by kernel_rfl) (fun j:Nat=>j≤(gL a m).length∧∀ k (hk:k < (gL a m).length),k < j→∀ x,entAt a (a.base+1+k)=some x→x.term=((gL a m)[k]'hk).term) (fun j=>[(15,iv j)]) [] (fun j=>(gL a m).length - j) 0 ⟨Nat.zero_le _,fun k _ h=>absurd h (Nat.not_lt_zero k)⟩ ?_ ?_
      ·exact wkE
      rintro j ⟨hj,hal⟩
      refine tS ?_ ?_<;>intro h
      ·simp only [List.length_map] at h
       have hlt:j < (gL a m).length:=by omega
       clear h
       have e1:IntKind.i64.wrap (IntKind.i64.wrap (a.base+(j:Int))+1)=a.base+1+(j:Int):=by
        rw [show IntKind.i64.wrap (a.base+(j:Int))=a.base+j from zaf (by omega) (by omega),zaf (by omega) (by omega)];omega
       have c1:=c_rAt a hm (by omega) (by omega) (a.base+1+(j:Int)) (by unfold isI;omega)
       have next:(∀ x,entAt a (a.base+1+(j:Int))=some x→x.term=((gL a m)[j]'hlt).term)→∀ k (hk:k < (gL a m).length),k < j+1→∀ x,entAt a (a.base+1+k)=some x→x.term=((gL a m)[k]'hk).term:=fun hn k hk hkj x hx=>by
        by_cases ek:k=j
        ·subst ek;exact hn x hx
        ·exact hal k hk (by omega) x hx
       rw [e1]
       cases he:entAt a (a.base+1+(j:Int)) with
       | none =>
        rw [he] at c1
        simp only [Option.getD_none,Option.isSome_none] at c1
        refine tC c1 ?_
        refine ⟨j+1,⟨⟨by omega,next (fun x hx=>by rw [he] at hx;cases hx)⟩,by omega⟩,?_⟩
        exact wkE
       | some x =>
        rw [he] at c1
        simp only [Option.getD_some,Option.isSome_some] at c1
        have ht:=zdu (show a.base < a.base+1+(j:Int) by omega) he
        refine tC c1 ?_
        refine tAt (za3 hlt) ?_
        refine tS ?_ ?_<;>intro h
        ·have hd:=h
         clear h
         rw [e1]
         refine tS ?_ ?_<;>intro h
         ·exact zaa rfl rfl
         ·exfalso
          have:=zip (j:=j) hAt hal (fun k hk hkj=>by omega)
          rw [this] at hk;cases hk
        ·refine ⟨j+1,⟨⟨by omega,next (fun y hy=>by rw [he] at hy;injection hy with hy;rw [← hy];first | exact h | exact Classical.byContradiction h)⟩,by omega⟩,?_⟩
         exact wkE
      ·exfalso
       simp only [List.length_map] at h
       have:=zip (j:=j) hAt hal (fun k hk hkj=>by omega)
       rw [this] at hk;cases hk
     ·have hP:gP a m=m.index:=by unfold gP;rw [if_neg hp]
      have hT:gT a m=m.logTerm:=by unfold gT;rw [if_neg hp]
      have hL:gL a m=m.entries:=by unfold gL;rw [show (a.base - m.index).toNat=0 by omega,List.drop_zero]
      rw [hP,hT] at kF
      rw [hP,hL] at kP hk
      rw [hP] at hAt
      refine sBody Tryz.func162 ?_;conv=>whnf
      refine tC kH ?_
      refine tC (zbr a hm) ?_
      refine tC kw1 ?_
      refine tC kw2 ?_
      refine tS ?_ ?_<;>intro h
      ·exfalso;omega
      refine tS ?_ ?_<;>intro h
      ·exfalso;omega
      refine tS ?_ ?_<;>intro h
      ·exfalso;(try simp only [List.length_map] at h);omega
      refine tS ?_ ?_<;>intro h
      all_goals first | (exfalso;omega) | skip
      clear h
      refine tC kF ?_
      refine zbe mixed (by kernel_rfl) (fun j:Nat=>j≤m.entries.length∧∀ k (hk:k < m.entries.length),k < j→∀ x,entAt a (m.index+1+k)=some x→x.term=(m.entries[k]'hk).term) (fun j=>[(15,iv j)]) [] (fun j=>m.entries.length - j) 0 ⟨Nat.zero_le _,fun k _ h=>absurd h (Nat.not_lt_zero k)⟩ ?_ ?_
      ·exact wkE
      rintro j ⟨hj,hal⟩
      refine tS ?_ ?_<;>intro h
      ·simp only [List.length_map] at h
       have hlt:j < m.entries.length:=by omega
       clear h
       have e1:IntKind.i64.wrap (IntKind.i64.wrap (m.index+(j:Int))+1)=m.index+1+(j:Int):=by
        rw [show IntKind.i64.wrap (m.index+(j:Int))=m.index+j from zaf (by omega) (by omega),zaf (by omega) (by omega)];omega
       have c1:=c_rAt a hm (by omega) (by omega) (m.index+1+(j:Int)) (by unfold isI;omega)
       have next:(∀ x,entAt a (m.index+1+(j:Int))=some x→x.term=(m.entries[j]'hlt).term)→∀ k (hk:k < m.entries.length),k < j+1→∀ x,entAt a (m.index+1+k)=some x→x.term=(m.entries[k]'hk).term:=fun hn k hk hkj x hx=>by
        by_cases ek:k=j
        ·subst ek;exact hn x hx
        ·exact hal k hk (by omega) x hx
       rw [e1]
       cases he:entAt a (m.index+1+(j:Int)) with
       | none =>
        rw [he] at c1
        simp only [Option.getD_none,Option.isSome_none] at c1
        refine tC c1 ?_
        refine ⟨j+1,⟨⟨by omega,next (fun x hx=>by rw [he] at hx;cases hx)⟩,by omega⟩,?_⟩
        exact wkE
       | some x =>
        rw [he] at c1
        simp only [Option.getD_some,Option.isSome_some] at c1
        have ht:=zdu (show a.base < m.index+1+(j:Int) by omega) he
        refine tC c1 ?_
        refine tAt (za3 hlt) ?_
        refine tS ?_ ?_<;>intro h
        ·have hd:=h
         clear h
         rw [e1]
         refine tS ?_ ?_<;>intro h
         ·exact zaa rfl rfl
         ·exfalso
          have:=zip (j:=j) hAt hal (fun k hk hkj=>by omega)
          rw [this] at hk;cases hk
        ·refine ⟨j+1,⟨⟨by omega,next (fun y hy=>by rw [he] at hy;injection hy with hy;rw [← hy];first | exact h | exact Classical.byContradiction h)⟩,by omega⟩,?_⟩
         exact wkE
      ·exfalso
       simp only [List.length_map] at h
       have:=zip (j:=j) hAt hal (fun k hk hkj=>by omega)
       rw [this] at hk;cases hk
    | false =>
     obtain ⟨E,O⟩:=zh2 hB hR hf hk
     by_cases e:putHE a (gP a m) (gL a m)=0
     ·rw [(zdt e).2.2] at kP
      rw [(zgg (E.trans e)).2.2,O]
      dsimp only
      by_cases hp:m.index < a.base
      ·have hP:gP a m=a.base:=by unfold gP;rw [if_pos hp]
       have hT:gT a m=a.baseTerm:=by unfold gT;rw [if_pos hp]
       obtain ⟨q,eq,hq,eL⟩:=hcut hp
       rw [hP,hT] at kF
       rw [hP] at kP hk hAt
       rw [hP]
       refine sBody Tryz.func162 ?_;conv=>whnf
       refine tC kH ?_
       refine tC (zbr a hm) ?_
       refine tC kw1 ?_
       refine tC kw2 ?_
       refine tS ?_ ?_<;>intro h
       ·exfalso;omega
       refine tS ?_ ?_<;>intro h
       ·exfalso;omega
       refine tS ?_ ?_<;>intro h
       ·exfalso;(try simp only [List.length_map] at h);omega
       refine tS ?_ ?_<;>intro h
       all_goals first | (exfalso;omega) | skip
       clear h
       rw [eq]
       refine ⟨⟨by omega,by rw [List.length_map];omega,Int.le_refl _⟩,?_⟩
       conv=>whnf
       refine Exists.intro none ?_
       conv=>whnf
       rw [eL]
       refine tC kF ?_
       refine zbe mixed (by kernel_rfl) (fun j:Nat=>j≤(gL a m).length∧∀ k (hk:k < (gL a m).length),k < j→∀ x,entAt a (a.base+1+k)=some x→x.term=((gL a m)[k]'hk).term) (fun j=>[(15,iv j)]) [] (fun j=>(gL a m).length - j) 0 ⟨Nat.zero_le _,fun k _ h=>absurd h (Nat.not_lt_zero k)⟩ ?_ ?_
       ·exact wkE
       rintro j ⟨hj,hal⟩
       refine tS ?_ ?_<;>intro h
       ·simp only [List.length_map] at h
        have hlt:j < (gL a m).length:=by omega
        clear h
        have e1:IntKind.i64.wrap (IntKind.i64.wrap (a.base+(j:Int))+1)=a.base+1+(j:Int):=by
         rw [show IntKind.i64.wrap (a.base+(j:Int))=a.base+j from zaf (by omega) (by omega),zaf (by omega) (by omega)];omega
        have c1:=c_rAt a hm (by omega) (by omega) (a.base+1+(j:Int)) (by unfold isI;omega)
        have next:(∀ x,entAt a (a.base+1+(j:Int))=some x→x.term=((gL a m)[j]'hlt).term)→∀ k (hk:k < (gL a m).length),k < j+1→∀ x,entAt a (a.base+1+k)=some x→x.term=((gL a m)[k]'hk).term:=fun hn k hk hkj x hx=>by
         by_cases ek:k=j
         ·subst ek;exact hn x hx
         ·exact hal k hk (by omega) x hx
        rw [e1]
        cases he:entAt a (a.base+1+(j:Int)) with
        | none =>
         rw [he] at c1
         simp only [Option.getD_none,Option.isSome_none] at c1
         refine tC c1 ?_
         refine ⟨j+1,⟨⟨by omega,next (fun x hx=>by rw [he] at hx;cases hx)⟩,by omega⟩,?_⟩
         exact wkE
        | some x =>
         rw [he] at c1
         simp only [Option.getD_some,Option.isSome_some] at c1
         have ht:=zdu (show a.base < a.base+1+(j:Int) by omega) he
         refine tC c1 ?_
         refine tAt (za3 hlt) ?_
         refine tS ?_ ?_<;>intro h
         ·have hd:=h
          clear h
          rw [e1]
          refine tS ?_ ?_<;>intro h
          ·exfalso
           have:=zne hlt h (by rw [ht];exact hd)
           rw [this] at hk;cases hk
          ·refine tC kP ?_
           refine tN0 ?_
           rw [show ((List.map Ent.enc (gL a m)).length:Int)=(gL a m).length from by rw [List.length_map],hw2 _ (by omega)]
           exact zaa rfl rfl
         ·refine ⟨j+1,⟨⟨by omega,next (fun y hy=>by rw [he] at hy;injection hy with hy;rw [← hy];first | exact h | exact Classical.byContradiction h)⟩,by omega⟩,?_⟩
          exact wkE
       ·refine tC kP ?_
        refine tN0 ?_
        rw [show ((List.map Ent.enc (gL a m)).length:Int)=(gL a m).length from by rw [List.length_map],hw2 _ (by omega)]
        exact zaa rfl rfl
      ·have hP:gP a m=m.index:=by unfold gP;rw [if_neg hp]
       have hT:gT a m=m.logTerm:=by unfold gT;rw [if_neg hp]
       have hL:gL a m=m.entries:=by unfold gL;rw [show (a.base - m.index).toNat=0 by omega,List.drop_zero]
       rw [hP,hT] at kF
       rw [hP,hL] at kP hk
       rw [hP] at hAt
       rw [hP,hL]
       refine sBody Tryz.func162 ?_;conv=>whnf
       refine tC kH ?_
       refine tC (zbr a hm) ?_
       refine tC kw1 ?_
       refine tC kw2 ?_
       refine tS ?_ ?_<;>intro h
       ·exfalso;omega
       refine tS ?_ ?_<;>intro h
       ·exfalso;omega
       refine tS ?_ ?_<;>intro h
       ·exfalso;(try simp only [List.length_map] at h);omega
       refine tS ?_ ?_<;>intro h
       all_goals first | (exfalso;omega) | skip
       clear h
       refine tC kF ?_
       refine zbe mixed (by kernel_rfl) (fun j:Nat=>j≤m.entries.length∧∀ k (hk:k < m.entries.length),k < j→∀ x,entAt a (m.index+1+k)=some x→x.term=(m.entries[k]'hk).term) (fun j=>[(15,iv j)]) [] (fun j=>m.entries.length - j) 0 ⟨Nat.zero_le _,fun k _ h=>absurd h (Nat.not_lt_zero k)⟩ ?_ ?_
       ·exact wkE
       rintro j ⟨hj,hal⟩
       refine tS ?_ ?_<;>intro h
       ·simp only [List.length_map] at h
        have hlt:j < m.entries.length:=by omega
        clear h
        have e1:IntKind.i64.wrap (IntKind.i64.wrap (m.index+(j:Int))+1)=m.index+1+(j:Int):=by
         rw [show IntKind.i64.wrap (m.index+(j:Int))=m.index+j from zaf (by omega) (by omega),zaf (by omega) (by omega)];omega
        have c1:=c_rAt a hm (by omega) (by omega) (m.index+1+(j:Int)) (by unfold isI;omega)
        have next:(∀ x,entAt a (m.index+1+(j:Int))=some x→x.term=(m.entries[j]'hlt).term)→∀ k (hk:k < m.entries.length),k < j+1→∀ x,entAt a (m.index+1+k)=some x→x.term=(m.entries[k]'hk).term:=fun hn k hk hkj x hx=>by
         by_cases ek:k=j
         ·subst ek;exact hn x hx
         ·exact hal k hk (by omega) x hx
        rw [e1]
        cases he:entAt a (m.index+1+(j:Int)) with
        | none =>
         rw [he] at c1
         simp only [Option.getD_none,Option.isSome_none] at c1
         refine tC c1 ?_
         refine ⟨j+1,⟨⟨by omega,next (fun x hx=>by rw [he] at hx;cases hx)⟩,by omega⟩,?_⟩
         exact wkE
        | some x =>
         rw [he] at c1
         simp only [Option.getD_some,Option.isSome_some] at c1
         have ht:=zdu (show a.base < m.index+1+(j:Int) by omega) he
         refine tC c1 ?_
         refine tAt (za3 hlt) ?_
         refine tS ?_ ?_<;>intro h
         ·have hd:=h
          clear h
          rw [e1]
          refine tS ?_ ?_<;>intro h
          ·exfalso
           have:=zne hlt h (by rw [ht];exact hd)
           rw [this] at hk;cases hk
          ·refine tC kP ?_
           refine tN0 ?_
           rw [show ((List.map Ent.enc m.entries).length:Int)=m.entries.length from by rw [List.length_map],hw3 _ (by omega)]
           exact zaa rfl rfl
         ·refine ⟨j+1,⟨⟨by omega,next (fun y hy=>by rw [he] at hy;injection hy with hy;rw [← hy];first | exact h | exact Classical.byContradiction h)⟩,by omega⟩,?_⟩
          exact wkE
       ·refine tC kP ?_
        refine tN0 ?_
        rw [show ((List.map Ent.enc m.entries).length:Int)=m.entries.length from by rw [List.length_map],hw3 _ (by omega)]
        exact zaa rfl rfl
     ·rw [(zb9 e).2.2] at kP
      rw [(zdo (by omega)).2.2,E]
      by_cases hp:m.index < a.base
      ·have hP:gP a m=a.base:=by unfold gP;rw [if_pos hp]
       have hT:gT a m=a.baseTerm:=by unfold gT;rw [if_pos hp]
       obtain ⟨q,eq,hq,eL⟩:=hcut hp
       rw [hP,hT] at kF
       rw [hP] at kP hk hAt e
       rw [hP]
       refine sBody Tryz.func162 ?_;conv=>whnf
       refine tC kH ?_
       refine tC (zbr a hm) ?_
       refine tC kw1 ?_
       refine tC kw2 ?_
       refine tS ?_ ?_<;>intro h
       ·exfalso;omega
       refine tS ?_ ?_<;>intro h
       ·exfalso;omega
       refine tS ?_ ?_<;>intro h
       ·exfalso;(try simp only [List.length_map] at h);omega
       refine tS ?_ ?_<;>intro h
       all_goals first | (exfalso;omega) | skip
       clear h
       rw [eq]
       refine ⟨⟨by omega,by rw [List.length_map];omega,Int.le_refl _⟩,?_⟩
       conv=>whnf
       refine Exists.intro none ?_
       conv=>whnf
       rw [eL]
       refine tC kF ?_
       refine zbe mixed (by kernel_rfl) (fun j:Nat=>j≤(gL a m).length∧∀ k (hk:k < (gL a m).length),k < j→∀ x,entAt a (a.base+1+k)=some x→x.term=((gL a m)[k]'hk).term) (fun j=>[(15,iv j)]) [] (fun j=>(gL a m).length - j) 0 ⟨Nat.zero_le _,fun k _ h=>absurd h (Nat.not_lt_zero k)⟩ ?_ ?_
       ·exact wkE
       rintro j ⟨hj,hal⟩
       refine tS ?_ ?_<;>intro h
       ·simp only [List.length_map] at h
        have hlt:j < (gL a m).length:=by omega
        clear h
        have e1:IntKind.i64.wrap (IntKind.i64.wrap (a.base+(j:Int))+1)=a.base+1+(j:Int):=by
         rw [show IntKind.i64.wrap (a.base+(j:Int))=a.base+j from zaf (by omega) (by omega),zaf (by omega) (by omega)];omega
        have c1:=c_rAt a hm (by omega) (by omega) (a.base+1+(j:Int)) (by unfold isI;omega)
        have next:(∀ x,entAt a (a.base+1+(j:Int))=some x→x.term=((gL a m)[j]'hlt).term)→∀ k (hk:k < (gL a m).length),k < j+1→∀ x,entAt a (a.base+1+k)=some x→x.term=((gL a m)[k]'hk).term:=fun hn k hk hkj x hx=>by
         by_cases ek:k=j
         ·subst ek;exact hn x hx
         ·exact hal k hk (by omega) x hx
        rw [e1]
        cases he:entAt a (a.base+1+(j:Int)) with
        | none =>
         rw [he] at c1
         simp only [Option.getD_none,Option.isSome_none] at c1
         refine tC c1 ?_
         refine ⟨j+1,⟨⟨by omega,next (fun x hx=>by rw [he] at hx;cases hx)⟩,by omega⟩,?_⟩
         exact wkE
        | some x =>
         rw [he] at c1
         simp only [Option.getD_some,Option.isSome_some] at c1
         have ht:=zdu (show a.base < a.base+1+(j:Int) by omega) he
         refine tC c1 ?_
         refine tAt (za3 hlt) ?_
         refine tS ?_ ?_<;>intro h
         ·have hd:=h
          clear h
          rw [e1]
          refine tS ?_ ?_<;>intro h
          ·exfalso
           have:=zne hlt h (by rw [ht];exact hd)
           rw [this] at hk;cases hk
          ·refine tC kP ?_
           refine tS ?_ ?_<;>intro h
           all_goals first | exact zaa rfl rfl | (exfalso;omega)
         ·refine ⟨j+1,⟨⟨by omega,next (fun y hy=>by rw [he] at hy;injection hy with hy;rw [← hy];first | exact h | exact Classical.byContradiction h)⟩,by omega⟩,?_⟩
          exact wkE
       ·refine tC kP ?_
        refine tS ?_ ?_<;>intro h
        all_goals first | exact zaa rfl rfl | (exfalso;omega)
      ·have hP:gP a m=m.index:=by unfold gP;rw [if_neg hp]
       have hT:gT a m=m.logTerm:=by unfold gT;rw [if_neg hp]
       have hL:gL a m=m.entries:=by unfold gL;rw [show (a.base - m.index).toNat=0 by omega,List.drop_zero]
       rw [hP,hT] at kF
       rw [hP,hL] at kP hk e
       rw [hP] at hAt
       rw [hP,hL]
       refine sBody Tryz.func162 ?_;conv=>whnf
       refine tC kH ?_
       refine tC (zbr a hm) ?_
       refine tC kw1 ?_
       refine tC kw2 ?_
       refine tS ?_ ?_<;>intro h
       ·exfalso;omega
       refine tS ?_ ?_<;>intro h
       ·exfalso;omega
       refine tS ?_ ?_<;>intro h
       ·exfalso;(try simp only [List.length_map] at h);omega
       refine tS ?_ ?_<;>intro h
       all_goals first | (exfalso;omega) | skip
       clear h
       refine tC kF ?_
       refine zbe mixed (by kernel_rfl) (fun j:Nat=>j≤m.entries.length∧∀ k (hk:k < m.entries.length),k < j→∀ x,entAt a (m.index+1+k)=some x→x.term=(m.entries[k]'hk).term) (fun j=>[(15,iv j)]) [] (fun j=>m.entries.length - j) 0 ⟨Nat.zero_le _,fun k _ h=>absurd h (Nat.not_lt_zero k)⟩ ?_ ?_
       ·exact wkE
       rintro j ⟨hj,hal⟩
       refine tS ?_ ?_<;>intro h
       ·simp only [List.length_map] at h
        have hlt:j < m.entries.length:=by omega
        clear h
        have e1:IntKind.i64.wrap (IntKind.i64.wrap (m.index+(j:Int))+1)=m.index+1+(j:Int):=by
         rw [show IntKind.i64.wrap (m.index+(j:Int))=m.index+j from zaf (by omega) (by omega),zaf (by omega) (by omega)];omega
        have c1:=c_rAt a hm (by omega) (by omega) (m.index+1+(j:Int)) (by unfold isI;omega)
        have next:(∀ x,entAt a (m.index+1+(j:Int))=some x→x.term=(m.entries[j]'hlt).term)→∀ k (hk:k < m.entries.length),k < j+1→∀ x,entAt a (m.index+1+k)=some x→x.term=(m.entries[k]'hk).term:=fun hn k hk hkj x hx=>by
         by_cases ek:k=j
         ·subst ek;exact hn x hx
         ·exact hal k hk (by omega) x hx
        rw [e1]
        cases he:entAt a (m.index+1+(j:Int)) with
        | none =>
         rw [he] at c1
         simp only [Option.getD_none,Option.isSome_none] at c1
         refine tC c1 ?_
         refine ⟨j+1,⟨⟨by omega,next (fun x hx=>by rw [he] at hx;cases hx)⟩,by omega⟩,?_⟩
         exact wkE
        | some x =>
         rw [he] at c1
         simp only [Option.getD_some,Option.isSome_some] at c1
         have ht:=zdu (show a.base < m.index+1+(j:Int) by omega) he
         refine tC c1 ?_
         refine tAt (za3 hlt) ?_
         refine tS ?_ ?_<;>intro h
         ·have hd:=h
          clear h
          rw [e1]
          refine tS ?_ ?_<;>intro h
          ·exfalso
           have:=zne hlt h (by rw [ht];exact hd)
           rw [this] at hk;cases hk
          ·refine tC kP ?_
           refine tS ?_ ?_<;>intro h
           all_goals first | exact zaa rfl rfl | (exfalso;omega)
         ·refine ⟨j+1,⟨⟨by omega,next (fun y hy=>by rw [he] at hy;injection hy with hy;rw [← hy];first | exact h | exact Classical.byContradiction h)⟩,by omega⟩,?_⟩
          exact wkE
       ·refine tC kP ?_
        refine tS ?_ ?_<;>intro h
        all_goals first | exact zaa rfl rfl | (exfalso;omega)
  ·have E:growE a c m=1:=by unfold growE;rw [if_pos hB,if_neg hR]
   rw [(zdo (by omega)).2.2,E]
   refine sBody Tryz.func162 ?_;conv=>whnf
   refine tC kH ?_
   refine tC (zbr a hm) ?_
   refine tC kw1 ?_
   repeat' (first | exact zaa rfl rfl | refine tC kw2 ?_ | (exfalso;apply hR;(try simp only [List.length_map,decide_eq_true_eq] at *);unfold zeg;omega) | (refine tS ?_ ?_<;>intro h) | fail)
 ·have E:growE a c m=6:=by unfold growE;rw [if_neg hB]
  rw [(zdo (by omega)).2.2,E]
  simp only [Bool.not_eq_true] at hB
  rw [hB] at kH
  refine sBody Tryz.func162 ?_;conv=>whnf
  refine tC kH ?_
  exact zaa rfl rfl
end Go.Proofs
