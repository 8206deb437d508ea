import Derived.Test.YtbhfokahocgndabGreatC27
import Derived.Test.YtbhfokahocgndabGreatPvQ3
/- Plain law: a log that is cut at an index. -/
set_option linter.unusedSimpArgs false
set_option linter.unusedVariables false
set_option maxHeartbeats 8000000
namespace Go.Proofs
open Go.Pv
set_option maxRecDepth 100000
def cutH (h:Hrd) (q:Nat) (c:Conf) (s:List Int):Hrd:=⟨h.term,h.vote,h.base+q,behind h.log h.baseTerm q,c,s,h.log.drop q⟩
theorem zmx {h:Hrd} (hr:rowB h.log h.baseTerm h.term=true) {q:Nat} (h1:1≤q) (hq:q≤h.log.length):1≤behind h.log h.baseTerm q∧behind h.log h.baseTerm q≤h.term:=by
 obtain ⟨p,rfl⟩:∃ p,q=p+1:=⟨q - 1,by omega⟩
 rw [zbd (by omega)]
 have:=(ze3 _ _ _).1 hr p (by omega)
 omega
theorem z2c {h:Hrd} (hr:rowB h.log h.baseTerm h.term=true) {q:Nat} (hq:q≤h.log.length):rowB (h.log.drop q) (behind h.log h.baseTerm q) h.term=true:=by
 have:=(zmf hr q).2
 rwa [zho _ _ _ hq] at this
theorem zs4 {h:Hrd} (hh:hardB h=true) {q:Nat}{c:Conf}{s:List Int} (h1:1≤q) (hq:q≤h.log.length) (hi:h.base+q≤1099511627776) (hc:confB c=true) (hs:s.length≤16384):hardB (cutH h q c s)=true:=by
 obtain ⟨hA,_,_,hr⟩:=zaq hh
 have hb:=hA.b
 have ht:=hA.t
 obtain ⟨b1,b2⟩:=zmx hr h1 hq
 unfold hardB
 rw [ze0 (show HardA (cutH h q c s) from ⟨ht,hA.v,by show 0≤h.base+q∧h.base+q≤_;omega,by show 0≤behind h.log h.baseTerm q∧behind h.log h.baseTerm q≤h.term;omega,by show behind h.log h.baseTerm q=0 ↔ h.base+q=0;omega⟩)]
 rw [show confB (cutH h q c s).baseConf=true from hc,show rowB (cutH h q c s).log (cutH h q c s).baseTerm (cutH h q c s).term=true from z2c hr hq]
 simp only [Bool.and_true,Bool.true_and,decide_eq_true_eq]
 exact ⟨hs,.inl (by show 0 < h.base+q;omega)⟩
theorem zz1 {h:Hrd} (hb:0≤h.base) (hs:h.base+h.log.length < 9223372036854775808) {q:Nat} (hq:q≤h.log.length) (c:Conf) (s:List Int):lastI (cutH h q c s)=lastI h:=by
 have e:(cutH h q c s).log.length=h.log.length - q:=List.length_drop
 have e2:(cutH h q c s).base=h.base+q:=rfl
 rw [zax (h:=cutH h q c s) (by rw [e2];omega) (by rw [e2,e];omega),zax hb hs,e,e2];omega
theorem idx_eq {h:Hrd} (hb:0≤h.base∧h.base≤1099511627776) {k:Nat} (hk:k≤4294967):idx h k=h.base+k+1:=by
 show IntKind.i64.wrap (IntKind.i64.wrap (h.base+k)+1)=_
 rw [show IntKind.i64.wrap (h.base+(k:Int))=h.base+k from zaf (by omega) (by omega),zaf (by omega) (by omega)]
theorem zt8 {h:Hrd} (hb:0≤h.base∧h.base≤1099511627776) {u v:Int}:∀ {i:Nat},i≤4294967→h.base+i≤u→h.base+i≤v→fwd h u i=fwd h v i
 | 0,_,_,_=>rfl
 | i+1,hi,h1,h2=>by
  unfold fwd
  rw [zt8 hb (u:=u) (v:=v) (by omega) (by omega) (by omega),idx_eq hb (by omega)]
  have a1:h.base+(i:Int)+1≤u:=by omega
  have a2:h.base+(i:Int)+1≤v:=by omega
  simp only [a1,a2,true_and]
theorem zqu {h:Hrd} (hb:0≤h.base∧h.base≤1099511627776) {q:Nat}:∀ {m:Nat},q+m≤4294967→fwd h (h.base+q) (q+m)=fwd h (h.base+q) q
 | 0,_=>rfl
 | m+1,hm=>by
  rw [← Nat.add_assoc]
  conv=>lhs;unfold fwd
  rw [zqu hb (by omega),idx_eq hb (by omega)]
  have a1:¬ (h.base+((q+m:Nat):Int)+1≤h.base+q):=by omega
  simp only [a1,false_and,if_false]
  cases h.log[q+m]?<;>rfl
theorem z17 {h:Hrd} (hb:0≤h.base∧h.base≤1099511627776) (hl:h.log.length≤4294967) {q:Nat} (hq:q≤h.log.length) {u:Int} (hu:h.base+q≤u):force h (h.base+q)=fwd h u q:=by
 unfold force
 obtain ⟨m,hm⟩:∃ m,h.log.length=q+m:=⟨h.log.length - q,by omega⟩
 rw [hm,zqu hb (by omega)]
 exact zt8 hb (by omega) (Int.le_refl _) hu
theorem zox {h:Hrd} (hc:confB h.baseConf=true) (hr:rowB h.log h.baseTerm h.term=true) (u:Int):∀ i:Nat,i≤h.log.length→confB (fwd h u i).1=true
 | 0,_=>hc
 | i+1,hi=>by
  have ih:=zox hc hr u i (by omega)
  have hx:=((ze3 _ _ _).1 hr i (by omega)).2.2
  unfold fwd
  rw [List.getElem?_eq_getElem (by omega)]
  by_cases hk:idx h i≤u∧(h.log[i]'(by omega)).kind=2
  ·simp only [if_pos hk]
   unfold zd5 at hx
   rw [if_neg (by omega),if_neg (by omega),if_pos hk.2,Bool.and_eq_true] at hx
   exact hx.2
  ·simp only [if_neg hk];exact ih
theorem c_rFrom (a:Hrd) (hl:a.log.length≤4294967) (hb:0≤a.base∧a.base≤1099511627776) (i:Int) (hi:isI i) (m:Int):Ctr Tryz.prog 216 [.ag a.enc,iv i,iv m] (.ow 0 0 ((fromL a i m).map Ent.enc).length) [(16,(fromL a i m).map Ent.enc)]:=by
 have hi':=hi
 unfold isI at hi'
 refine sBody Tryz.func216 ?_;conv=>whnf
 refine tS ?_ ?_<;>intro h
 ·rw [show fromL a i m=[] from by unfold fromL;rw [if_neg (by omega)]]
  exact zg6 16
 generalize hD:a.log.drop (i - a.base - 1).toNat=D
 have hDl:(D.length:Int)=max (a.base+a.log.length+1 - i) 0:=by rw [← hD,List.length_drop];omega
 refine zfx 7 1000 16 rfl rfl ?_
 conv=>whnf
 refine tFor (fun k:Nat=>k≤D.length∧(k:Int)≤max m 0) (fun k=>[(1,iv (i+(k:Int))),(7,.ow 1000 0 ((D.take k).map Ent.enc).length)]) (fun _=>[(3,a.enc)]) (fun k=>[(1000,some (false,16,(D.take k).map Ent.enc))]) [(1000,1000)] (fun k=>D.length - k) 0 ⟨Nat.zero_le _,by omega⟩ ?_ ?_
 ·(refine tWK ?_;and_intros<;>try exact ⟨⟩)
  all_goals first | omega | rfl
 rintro k ⟨hk,hkm⟩
 refine tS ?_ ?_<;>intro h
 ·rw [List.length_map,List.length_take,Nat.min_eq_left hk] at h
  have h1:=h
  refine tS ?_ ?_<;>intro h
  ·rw [List.length_map,zaf (by omega) (by omega)] at h
   have hlt:k < D.length:=by omega
   have he:entAt a (i+(k:Int))=some (D[k]'hlt):=by
    rw [zhw (m:=(i - a.base - 1).toNat+k) (by omega),← List.getElem?_drop,hD,List.getElem?_eq_getElem hlt]
   have c1:=c_rAt a (zad (by omega)) hb.1 (by omega) (i+(k:Int)) (by unfold isI;omega)
   rw [he] at c1
   simp only [Option.getD_some,Option.isSome_some] at c1
   have n1:((D.take k).map Ent.enc).length≤4294967:=by rw [List.length_map,List.length_take];omega
   have s1:D.take (k+1)=D.take k++[D[k]'hlt]:=List.take_succ_eq_append_getElem hlt
   refine tC c1 ?_
   refine tA1 ?_
   refine ⟨k+1,[(1000,592)],⟨⟨by omega,by omega⟩,by omega⟩,?_⟩
   rw [s1]
   (refine tWK ?_;and_intros<;>try exact ⟨⟩)
   all_goals first | (rw [zaf (by omega) (by omega)];omega) | (refine zbi (by kernel_rfl) ?_;exact z3u rfl _ rfl) | (simp only [List.map_append,List.length_append];rfl) | rfl
  ·rw [List.length_map,zaf (by omega) (by omega)] at h
   have hkd:k=D.length:=by omega
   rw [show fromL a i m=D.take k from by unfold fromL;rw [if_pos ⟨by omega,by omega⟩,hD,hkd,List.take_length,List.take_of_length_le (by omega)]]
   exact zal [(0,1000)] rfl ⟨rfl,True.intro⟩ (zas rfl rfl rfl)
 ·rw [List.length_map,List.length_take,Nat.min_eq_left hk] at h
  rw [show fromL a i m=D.take k from by
   unfold fromL
   by_cases hm1:1≤m
   ·rw [if_pos ⟨by omega,hm1⟩,hD,show m.toNat=k by omega]
   ·rw [if_neg (by omega),show k=0 by omega];rfl]
  exact zal [(0,1000)] rfl ⟨rfl,True.intro⟩ (zas rfl rfl rfl)
theorem zft (a:Hrd) (h1:a.snap.length≤4294967296) (h2:a.log.length≤4294967296):Ctr Tryz.prog 74 [.ag a.enc] (.ag a.enc) []:=by
 refine (znk a h1 h2).frz (zao ?_)
 conv=>whnf
 repeat' (first | exact rfl | ((with_reducible refine And.intro ?_ ?_)<;>(first | (with_reducible exact zae _ rfl) | exact zba (b:=false) (List.Mem.head _) rfl | exact zba (b:=false) (List.Mem.tail _ (List.Mem.head _)) rfl | (conv=>whnf))))
end Go.Proofs
namespace Go.Pv
theorem za7 {c:CSt}{p r:PV} (fz:List (Nat×Bool×Nat×List (List PV))) (h:∀ q ∈ fz,lkA c.ob q.1=some (some q.2)) (h3:WkV [] [] fz p r):ExitOk c p r []:=by
 refine ⟨.inl ⟨fz,[],⟨h,?_,?_,?_⟩,h3⟩⟩
 ·intro k o e;cases e
 ·intro k k0 e;cases e
 ·intro k k' k0 e;cases e
end Go.Pv
namespace Go.Proofs
open Go.Pv
set_option maxRecDepth 100000
theorem c_rPutW (a : Hrd) (h1 : a.snap.length ≤ 4294967296) (h2 : a.log.length ≤ 4294967) (hb : isI a.base) (i : Int) (hi : isI i) (l : List Ent) (h3 : l.length ≤ 4294967) :
    Ctr Tryz.prog 199 [.ag a.enc,iv i,.sl 16 (l.map Ent.enc)] (resW (putHE a i l) (putH a i l)) []:=by
 have hm:a.log.length≤maxLen:=zad (by omega)
 have hml:l.length≤maxLen:=zad (by omega)
 have hck:=zoe a hm
 by_cases hB:hardB a=true
 ·rw [hB] at hck
  have hA:=(zaq hB).1
  have hb0:=hA.b
  have hla:lastI a=a.base+a.log.length:=zax hb0.1 (by omega)
  have hr:=c_row l hml (zau a i) a.term
  have kw:=zcv i a.base (lastI a)
  have kt:=zl6 a hm hb0.1 (by omega) i hi
  by_cases hk:(a.base≤i∧i≤lastI a)∧rowB l (zau a i) a.term=true
  ·have e:putHE a i l=0:=by unfold putHE;rw [if_pos hB,if_pos hk]
   rw [(zdt e).2.2]
   rw [hk.2] at hr
   rw [decide_eq_true hk.1] at kw
   obtain ⟨⟨hk1,hk2⟩,_⟩:=hk
   generalize hn:(i - a.base).toNat=n
   have hn':i=a.base+(n:Int):=by omega
   have hnl:n≤a.log.length:=by omega
   refine sBody Tryz.func199 ?_;conv=>whnf
   refine tC hck ?_
   refine tC (zbr a hm) ?_
   refine tC kw ?_
   refine tC kt ?_
   refine tC hr ?_
   refine tC (zft a h1 (by omega)) ?_
   refine tN0 ?_
   refine zbe mixed (by kernel_rfl) (fun j:Nat=>j≤l.length∧alike a.log n l j) (fun j=>[(11,iv j)]) [] (fun j=>l.length - j) 0 ⟨Nat.zero_le _,z0c _ _ _⟩ ?_ ?_
   ·exact wkE
   rintro j ⟨hj,hal⟩
   have hle:=ztr hal hnl
   refine tS ?_ ?_<;>intro h
   ·simp only [List.length_map] at h
    have hlt:j < l.length:=by omega
    have e1:IntKind.i64.wrap (IntKind.i64.wrap (i+(j:Int))+1)=a.base+1+((n+j:Nat):Int):=by
     rw [show IntKind.i64.wrap (i+(j:Int))=i+j from zaf (by omega) (by omega),zaf (by omega) (by omega)];omega
    have e2:IntKind.i64.wrap (IntKind.i64.wrap (i+(j:Int)) - a.base)=((n+j:Nat):Int):=by
     rw [show IntKind.i64.wrap (i+(j:Int))=i+j from zaf (by omega) (by omega),zaf (by omega) (by omega)];omega
    have c1:=c_rAt a hm hb0.1 (by omega) (a.base+1+((n+j:Nat):Int)) (by unfold isI;omega)
    rw [zhw (m:=n+j) rfl] at c1
    have fin:(∀ h1:n+j < a.log.length,(a.log[n+j]'h1).term ≠ (l[j]'hlt).term)→putH a i l={ a with log:=a.log.take (n+j)++l.drop j }:=fun hd=>by
     unfold putH;rw [hn,zs1 hal hnl hlt hd]
    have er:List.drop j (List.take (((List.map Ent.enc l).length:Nat):Int).toNat (List.map Ent.enc l))=(l.drop j).map Ent.enc:=by rw [Int.toNat_natCast,List.take_length,List.map_drop]
    have eq:List.drop (Int.toNat 0) (List.take (n+j) (a.log.map Ent.enc))=(a.log.take (n+j)).map Ent.enc:=by rw [List.map_take];rfl
    have htl:(a.log.take (n+j)).length=n+j:=by rw [List.length_take];omega
    have c2:=zch (a.log.take (n+j)) (by omega)
    rw [e1]
    by_cases hat:n+j < a.log.length
    ·rw [List.getElem?_eq_getElem hat] at c1
     simp only [Option.getD_some,Option.isSome_some] at c1
     refine tC c1 ?_
     refine tAt (za3 hlt) ?_
     refine tS ?_ ?_<;>intro h
     ·refine ⟨j+1,⟨⟨by omega,zm0 hal hat hlt h⟩,by omega⟩,?_⟩
      exact wkE
     ·have ep:=fin (fun _=>h)
      rw [e2]
      refine ⟨⟨by omega,by omega,by simp only [List.length_map];omega⟩,?_⟩
      conv=>whnf
      refine Exists.intro none ?_
      conv=>whnf
      rw [Int.toNat_natCast,eq]
      refine tC c2 ?_
      refine tN1 ?_
      refine ⟨⟨by omega,by rw [List.length_map];omega,Int.le_refl _⟩,?_⟩
      conv=>whnf
      refine ⟨by kernel_rfl,?_⟩
      conv=>whnf
      rw [Int.toNat_natCast,er]
      refine ⟨⟨⟨by kernel_rfl,Nat.le_refl _,small (by rw [List.length_map,List.length_map,List.length_drop];omega) (by kernel_rfl),zad (by rw [List.length_map,List.length_map,List.length_drop];omega),by intro r hr;obtain ⟨x,_,rfl⟩:=List.mem_map.1 hr;rfl⟩,by decide,rfl⟩,?_⟩
      conv=>whnf
      rw [ep]
      refine za7 [(1296,false,16,(a.log.take (n+j)++l.drop j).map Ent.enc)] ?_ (zat ⟨zao ?_,zae _ rfl,rfl⟩)
      ·intro q hq
       rw [List.mem_singleton.1 hq]
       refine congrArg (fun x=>some (some x)) (zbi (b:=false) (by kernel_rfl) ?_)
       rw [List.take_length,List.map_append]
      conv=>whnf
      repeat' (first | exact rfl | ((with_reducible refine And.intro ?_ ?_)<;>(first | (with_reducible exact zae _ rfl) | (refine zba (b:=false) (List.Mem.head _) ?_;simp only [List.map_append,List.length_append];done) | (conv=>whnf))))
    ·rw [List.getElem?_eq_none (by omega)] at c1
     simp only [Option.getD_none,Option.isSome_none] at c1
     have ep:=fin (fun h1=>absurd h1 hat)
     refine tC c1 ?_
     rw [e2]
     refine ⟨⟨by omega,by omega,by simp only [List.length_map];omega⟩,?_⟩
     conv=>whnf
     refine Exists.intro none ?_
     conv=>whnf
     rw [Int.toNat_natCast,eq]
     refine tC c2 ?_
     refine tN1 ?_
     refine ⟨⟨by omega,by rw [List.length_map];omega,Int.le_refl _⟩,?_⟩
     conv=>whnf
     refine ⟨by kernel_rfl,?_⟩
     conv=>whnf
     rw [Int.toNat_natCast,er]
     refine ⟨⟨⟨by kernel_rfl,Nat.le_refl _,small (by rw [List.length_map,List.length_map,List.length_drop];omega) (by kernel_rfl),zad (by rw [List.length_map,List.length_map,List.length_drop];omega),by intro r hr;obtain ⟨x,_,rfl⟩:=List.mem_map.1 hr;rfl⟩,by decide,rfl⟩,?_⟩
     conv=>whnf
     rw [ep]
     refine za7 [(1296,false,16,(a.log.take (n+j)++l.drop j).map Ent.enc)] ?_ (zat ⟨zao ?_,zae _ rfl,rfl⟩)
     ·intro q hq
      rw [List.mem_singleton.1 hq]
      refine congrArg (fun x=>some (some x)) (zbi (b:=false) (by kernel_rfl) ?_)
      rw [List.take_length,List.map_append]
     conv=>whnf
     repeat' (first | exact rfl | ((with_reducible refine And.intro ?_ ?_)<;>(first | (with_reducible exact zae _ rfl) | (refine zba (b:=false) (List.Mem.head _) ?_;simp only [List.map_append,List.length_append];done) | (conv=>whnf))))
   ·simp only [List.length_map] at h
    have ej:j=l.length:=by omega
    subst ej
    have ep:putH a i l=a:=by
     unfold putH;rw [hn,zub hal]
    rw [ep]
    exact zaa rfl rfl
  ·have e:putHE a i l=1:=by unfold putHE;rw [if_pos hB,if_neg hk]
   rw [e,(zb9 (by decide)).2.2]
   refine sBody Tryz.func199 ?_;conv=>whnf
   refine tC hck ?_
   refine tC (zbr a hm) ?_
   by_cases hw:a.base≤i∧i≤lastI a
   ·have hf : rowB l (zau a i) a.term = false := by
      cases hrb:rowB l (zau a i) a.term with
      | false=>rfl
      | true=>exact absurd ⟨hw,hrb⟩ hk
    rw [hf] at hr
    rw [decide_eq_true hw] at kw
    refine tC kw ?_
    refine tC kt ?_
    refine tC hr ?_
    exact zaa rfl rfl
   ·rw [decide_eq_false hw] at kw
    refine tC kw ?_
    exact zaa rfl rfl
 ·have e:putHE a i l=6:=by unfold putHE;rw [if_neg hB]
  rw [e,(zb9 (by decide)).2.2]
  simp only [Bool.not_eq_true] at hB
  rw [hB] at hck
  refine sBody Tryz.func199 ?_;conv=>whnf
  refine tC hck ?_
  exact zaa rfl rfl
theorem zlp (a : Hrd) (h2 : a.log.length ≤ 4294967) (hb : isI a.base) (i : Int) (hi : isI i) (s : List Int) (h3 : s.length ≤ 4294967296) :
    Ctr Tryz.prog 104 [.ag a.enc,iv i,.sl 1 (s.map encB)] (resW (compE a i s) (compH a i s)) []:=by
 have hm:a.log.length≤maxLen:=zad (by omega)
 have hck:=zoe a hm
 by_cases hB:hardB a=true
 ·rw [hB] at hck
  have hb0:=(zaq hB).1.b
  have hla:lastI a=a.base+a.log.length:=zax hb0.1 (by omega)
  have kT:=zl6 a hm hb0.1 (by omega) i hi
  have e1:IntKind.i64.wrap (a.base+1)=a.base+1:=zaf (by omega) (by omega)
  have kw:=zcv i (a.base+1) (if 1099511627776 < lastI a then 1099511627776 else lastI a)
  unfold isI at hi
  by_cases hk:a.base < i∧i≤lastI a∧i≤1099511627776
  ·have hw:a.base+1≤i∧i≤(if 1099511627776 < lastI a then 1099511627776 else lastI a):=⟨by omega,by split<;>omega⟩
   rw [decide_eq_true hw] at kw
   by_cases hs:16384 < s.length
   ·have e:compE a i s=2:=by unfold compE;rw [if_pos hB,if_pos hk,if_pos hs]
    rw [e,(zb9 (by decide)).2.2]
    refine sBody Tryz.func104 ?_;conv=>whnf
    refine tC hck ?_
    refine tC (zbr a hm) ?_
    refine Exists.intro none ?_
    conv=>whnf
    rw [e1]
    refine tC kw ?_
    refine tS ?_ ?_<;>intro h
    ·exact zaa rfl rfl
    ·exfalso
     simp only [List.length_map] at h
     omega
   ·have e:compE a i s=0:=by unfold compE;rw [if_pos hB,if_pos hk,if_neg hs]
    rw [e,(zdt rfl).2.2]
    obtain ⟨q,hq,hql⟩:∃ q:Nat,i - a.base=q∧q≤a.log.length:=⟨(i - a.base).toNat,by omega,by omega⟩
    have e3:IntKind.i64.wrap (i - a.base)=(q:Int):=by rw [zaf (by omega) (by omega),hq]
    have e2:List.drop (q:Int).toNat (List.take (((a.log.map Ent.enc).length:Nat):Int).toNat (a.log.map Ent.enc))=(a.log.drop q).map Ent.enc:=by rw [Int.toNat_natCast,Int.toNat_natCast,List.take_length,List.map_drop]
    have c1:=(zch (a.log.drop q) (by rw [List.length_drop];omega)).frz (zba (b:=false) (List.Mem.head _) rfl)
    have c2:=(zqn s h3).frz (zba (b:=false) (List.Mem.head _) rfl)
    rw [show compH a i s=⟨a.term,a.vote,i,zau a i,(force a i).1,s,a.log.drop q⟩ from by unfold compH;rw [hq,Int.toNat_natCast]]
    refine sBody Tryz.func104 ?_;conv=>whnf
    refine tC hck ?_
    refine tC (zbr a hm) ?_
    refine Exists.intro none ?_
    conv=>whnf
    rw [e1]
    refine tC kw ?_
    refine tS ?_ ?_<;>intro h
    ·exfalso
     simp only [List.length_map] at h
     omega
    refine tC (zk2 a hm i) ?_
    refine tC kT ?_
    refine tC c2 ?_
    refine tN0 ?_
    rw [e3]
    refine ⟨⟨by omega,by rw [List.length_map];omega,Int.le_refl _⟩,?_⟩
    conv=>whnf
    refine Exists.intro none ?_
    conv=>whnf
    rw [e2]
    refine tC c1 ?_
    refine tN0 ?_
    exact zaa rfl rfl
  ·have e:compE a i s=1:=by unfold compE;rw [if_pos hB,if_neg hk]
   have hw:¬ (a.base+1≤i∧i≤(if 1099511627776 < lastI a then 1099511627776 else lastI a)):=by
    rintro ⟨w1,w2⟩
    split at w2<;>omega
   rw [decide_eq_false hw] at kw
   rw [e,(zb9 (by decide)).2.2]
   refine sBody Tryz.func104 ?_;conv=>whnf
   refine tC hck ?_
   refine tC (zbr a hm) ?_
   refine Exists.intro none ?_
   conv=>whnf
   rw [e1]
   refine tC kw ?_
   exact zaa rfl rfl
 ·have e:compE a i s=6:=by unfold compE;rw [if_neg hB]
  rw [e,(zb9 (by decide)).2.2]
  simp only [Bool.not_eq_true] at hB
  rw [hB] at hck
  refine sBody Tryz.func104 ?_;conv=>whnf
  refine tC hck ?_
  exact zaa rfl rfl
theorem zlu (a : Hrd) (h2 : a.log.length ≤ 4294967) (hb : isI a.base) (i : Int) (hi : isI i) (t : Int) (c : Conf) (s : List Int) (h3 : s.length ≤ 4294967296) :
    Ctr Tryz.prog 163 [.ag a.enc,iv i,iv t,.ag c.enc,.sl 1 (s.map encB)] (resW (instE a i t c s) (instH a i t c s)) []:=by
 have hm:a.log.length≤maxLen:=zad (by omega)
 have hck:=zoe a hm
 by_cases hB:hardB a=true
 ·rw [hB] at hck
  have hA:=(zaq hB).1
  have hb0:=hA.b
  have hbt:=hA.bt
  have kF:=zrm a hm hb0.1 (by omega) i hi t
  have e1:IntKind.i64.wrap (a.base+1)=a.base+1:=zaf (by omega) (by omega)
  have kw:=zcv i (a.base+1) 1099511627776
  have kv:=zcv t (if 1 > a.baseTerm then 1 else a.baseTerm) a.term
  have hcc:=ziy c
  unfold isI at hi
  by_cases hw:a.base+1≤i∧i≤1099511627776
  ·rw [decide_eq_true hw] at kw
   by_cases hv:(if 1 > a.baseTerm then 1 else a.baseTerm)≤t∧t≤a.term
   ·have hk : (a.base < i ∧ i ≤ 1099511627776) ∧ (1 ≤ t ∧ t ≤ a.term ∧ a.baseTerm ≤ t) := by
      obtain ⟨v1,v2⟩:=hv
      split at v1<;>exact ⟨⟨by omega,by omega⟩,by omega,by omega,by omega⟩
    rw [decide_eq_true hv] at kv
    by_cases hC:confB c=true
    ·rw [hC] at hcc
     by_cases hs:16384 < s.length
     ·have e:instE a i t c s=2:=by unfold instE;rw [if_pos hB,if_pos hk,if_pos hC,if_pos hs]
      rw [e,(zb9 (by decide)).2.2]
      refine sBody Tryz.func163 ?_;conv=>whnf
      refine tC hck ?_
      refine Exists.intro none ?_
      conv=>whnf
      rw [e1]
      refine tC kw ?_
      refine tC kv ?_
      refine tC hcc ?_
      refine tS ?_ ?_<;>intro h
      ·exact zaa rfl rfl
      ·exfalso
       simp only [List.length_map] at h
       omega
     ·have e:instE a i t c s=0:=by unfold instE;rw [if_pos hB,if_pos hk,if_pos hC,if_neg hs]
      rw [e,(zdt rfl).2.2]
      have c2:=(zqn s h3).frz (zba (b:=false) (List.Mem.head _) rfl)
      refine sBody Tryz.func163 ?_;conv=>whnf
      refine tC hck ?_
      refine Exists.intro none ?_
      conv=>whnf
      rw [e1]
      refine tC kw ?_
      refine tC kv ?_
      refine tC hcc ?_
      refine tS ?_ ?_<;>intro h
      ·exfalso
       simp only [List.length_map] at h
       omega
      refine tC c2 ?_
      refine tN0 ?_
      cases hf:fits a i t with
      | true =>
       rw [hf] at kF
       have hin:=ziw (by omega) hf hk.1.1
       obtain ⟨q,hq,hql⟩:∃ q:Nat,i - a.base=q∧q≤a.log.length:=⟨(i - a.base).toNat,by omega,by omega⟩
       have e3:IntKind.i64.wrap (i - a.base)=(q:Int):=by rw [zaf (by omega) (by omega),hq]
       have e2:List.drop (q:Int).toNat (List.take (((a.log.map Ent.enc).length:Nat):Int).toNat (a.log.map Ent.enc))=(a.log.drop q).map Ent.enc:=by rw [Int.toNat_natCast,Int.toNat_natCast,List.take_length,List.map_drop]
       have c1:=(zch (a.log.drop q) (by rw [List.length_drop];omega)).frz (zba (b:=false) (List.Mem.head _) rfl)
       rw [show instH a i t c s=⟨a.term,a.vote,i,t,c,s,a.log.drop q⟩ from by unfold instH;rw [hf,if_pos rfl,hq,Int.toNat_natCast]]
       refine tC kF ?_
       rw [e3]
       refine ⟨⟨by omega,by rw [List.length_map];omega,Int.le_refl _⟩,?_⟩
       conv=>whnf
       refine Exists.intro none ?_
       conv=>whnf
       rw [e2]
       refine tC c1 ?_
       refine tN0 ?_
       exact zaa rfl rfl
      | false =>
       rw [hf] at kF
       rw [show instH a i t c s=⟨a.term,a.vote,i,t,c,s,[]⟩ from by unfold instH;rw [hf,if_neg (by decide)]]
       refine tC kF ?_
       refine za7 [] (by intro q hq;cases hq) (zat ⟨zao ?_,zae _ rfl,rfl⟩)
       conv=>whnf
       repeat' (first | exact rfl | ((with_reducible refine And.intro ?_ ?_)<;>(first | (with_reducible exact zae _ rfl) | exact .inr (.inl ⟨rfl,rfl⟩) | (conv=>whnf))))
    ·have e:instE a i t c s=14:=by unfold instE;rw [if_pos hB,if_pos hk,if_neg hC]
     simp only [Bool.not_eq_true] at hC
     rw [hC] at hcc
     rw [e,(zb9 (by decide)).2.2]
     refine sBody Tryz.func163 ?_;conv=>whnf
     refine tC hck ?_
     refine Exists.intro none ?_
     conv=>whnf
     rw [e1]
     refine tC kw ?_
     refine tC kv ?_
     refine tC hcc ?_
     exact zaa rfl rfl
   ·have hk : ¬ ((a.base < i ∧ i ≤ 1099511627776) ∧ (1 ≤ t ∧ t ≤ a.term ∧ a.baseTerm ≤ t)) := by
      rintro ⟨_,v1,v2,v3⟩
      exact hv ⟨by split<;>omega,v2⟩
    have e:instE a i t c s=1:=by unfold instE;rw [if_pos hB,if_neg hk]
    rw [decide_eq_false hv] at kv
    rw [e,(zb9 (by decide)).2.2]
    refine sBody Tryz.func163 ?_;conv=>whnf
    refine tC hck ?_
    refine Exists.intro none ?_
    conv=>whnf
    rw [e1]
    refine tC kw ?_
    refine tC kv ?_
    exact zaa rfl rfl
  ·have hk : ¬ ((a.base < i ∧ i ≤ 1099511627776) ∧ (1 ≤ t ∧ t ≤ a.term ∧ a.baseTerm ≤ t)) := by
     rintro ⟨⟨v1,v2⟩,_⟩
     exact hw ⟨by omega,v2⟩
   have e:instE a i t c s=1:=by unfold instE;rw [if_pos hB,if_neg hk]
   rw [decide_eq_false hw] at kw
   rw [e,(zb9 (by decide)).2.2]
   refine sBody Tryz.func163 ?_;conv=>whnf
   refine tC hck ?_
   refine Exists.intro none ?_
   conv=>whnf
   rw [e1]
   refine tC kw ?_
   exact zaa rfl rfl
 ·have e:instE a i t c s=6:=by unfold instE;rw [if_neg hB]
  rw [e,(zb9 (by decide)).2.2]
  simp only [Bool.not_eq_true] at hB
  rw [hB] at hck
  refine sBody Tryz.func163 ?_;conv=>whnf
  refine tC hck ?_
  exact zaa rfl rfl
abbrev emax (a b:Int):Int:=if b > a then b else a
abbrev emin (a b:Int):Int:=if b < a then b else a
theorem z0e (a b:Int):emax a b=max a b:=by unfold emax;split<;>omega
theorem zk1 (a b:Int):emin a b=min a b:=by unfold emin;split<;>omega
def zeg (h:Hrd) (c:Int) (m:Mg):Prop:=(h.base≤c∧c≤lastI h)∧(0≤m.index∧m.index≤1099511627776)∧0≤m.logTerm∧0≤m.commit∧(m.entries.length:Int)≤8
instance (h:Hrd) (c:Int) (m:Mg):Decidable (zeg h c m):=by unfold zeg;infer_instance
def gP (h:Hrd) (m:Mg):Int:=if m.index < h.base then h.base else m.index
def gT (h:Hrd) (m:Mg):Int:=if m.index < h.base then h.baseTerm else m.logTerm
def gL (h:Hrd) (m:Mg):List Ent:=m.entries.drop (h.base - m.index).toNat
def gBrk (h:Hrd) (c p:Int) (l:List Ent):Bool:=(List.range l.length).any fun k=>decide (p+1+k≤c) && (zau h (p+1+k) != (l.getD k ez).term)
theorem zne {h:Hrd}{c p:Int}{l:List Ent}{k:Nat} (hk:k < l.length) (h1:p+1+k≤c) (h2:zau h (p+1+k) ≠ (l[k]'hk).term):gBrk h c p l=true:=by
 unfold gBrk
 rw [List.any_eq_true]
 refine ⟨k,List.mem_range.2 hk,?_⟩
 have e:l.getD k ez=l[k]'hk:=by rw [List.getD_eq_getElem?_getD,List.getElem?_eq_getElem hk];rfl
 rw [e]
 simp only [Bool.and_eq_true,decide_eq_true_eq,bne_iff_ne,ne_eq]
 exact ⟨h1,h2⟩
theorem z3n {h:Hrd}{c p:Int}{l:List Ent} (hb:gBrk h c p l=false):∀ k (hk:k < l.length),p+1+k≤c→zau h (p+1+k)=(l[k]'hk).term:=by
 intro k hk h1
 apply Classical.byContradiction
 intro hn
 rw [zne hk h1 hn] at hb
 cases hb
theorem gBrk_f {h:Hrd}{c p:Int}{l:List Ent} (hh:∀ k (hk:k < l.length),p+1+k≤c→zau h (p+1+k)=(l[k]'hk).term):gBrk h c p l=false:=by
 cases hb:gBrk h c p l with
 | false=>rfl
 | true =>
  unfold gBrk at hb
  rw [List.any_eq_true] at hb
  obtain ⟨k,hk,hx⟩:=hb
  have hk:=List.mem_range.1 hk
  have e:l.getD k ez=l[k]'hk:=by rw [List.getD_eq_getElem?_getD,List.getElem?_eq_getElem hk];rfl
  rw [e] at hx
  simp only [Bool.and_eq_true,decide_eq_true_eq,bne_iff_ne,ne_eq] at hx
  exact absurd (hh k hk hx.1) hx.2
noncomputable def growE (h:Hrd) (c:Int) (m:Mg):Int:=if hardB h=true then (if zeg h c m then (if fits h (gP h m) (gT h m)=true then (if gBrk h c (gP h m) (gL h m)=true then 13 else putHE h (gP h m) (gL h m)) else 0) else 1) else 6
structure GOut where
 h:Hrd
 c:Int
 yes:Bool
 i:Int
def growO (h:Hrd) (c:Int) (m:Mg):GOut:=if fits h (gP h m) (gT h m)=true then ⟨putH h (gP h m) (gL h m),emax c (emin m.commit (gP h m+(gL h m).length)),true,gP h m+(gL h m).length⟩ else ⟨h,c,false,emax (emin (lastI h) (gP h m - 1)) h.base⟩
theorem zg3 {h:Hrd}{c:Int}{m:Mg} (e:growE h c m=0):hardB h=true∧zeg h c m:=by
 unfold growE at e
 by_cases h1:hardB h=true
 ·rw [if_pos h1] at e
  by_cases h2:zeg h c m
  ·exact ⟨h1,h2⟩
  ·rw [if_neg h2] at e;omega
 ·rw [if_neg h1] at e;omega
theorem zh8 {h:Hrd}{c:Int}{m:Mg} (h1:hardB h=true) (h2:zeg h c m) (hf:fits h (gP h m) (gT h m)=false):growE h c m=0∧growO h c m=⟨h,c,false,emax (emin (lastI h) (gP h m - 1)) h.base⟩:=by
 unfold growE growO
 rw [if_pos h1,if_pos h2,hf,if_neg (by decide),if_neg (by decide)]
 exact ⟨rfl,rfl⟩
theorem zki {h:Hrd}{c:Int}{m:Mg} (h1:hardB h=true) (h2:zeg h c m) (hf:fits h (gP h m) (gT h m)=true) (hb:gBrk h c (gP h m) (gL h m)=true):growE h c m=13:=by
 unfold growE
 rw [if_pos h1,if_pos h2,if_pos hf,if_pos hb]
theorem zh2 {h:Hrd}{c:Int}{m:Mg} (h1:hardB h=true) (h2:zeg h c m) (hf:fits h (gP h m) (gT h m)=true) (hb:gBrk h c (gP h m) (gL h m)=false):growE h c m=putHE h (gP h m) (gL h m)∧growO h c m=⟨putH h (gP h m) (gL h m),emax c (emin m.commit (gP h m+(gL h m).length)),true,gP h m+(gL h m).length⟩:=by
 unfold growE growO
 rw [if_pos h1,if_pos h2,if_pos hf,if_pos hf,hb,if_neg (by decide)]
 exact ⟨rfl,rfl⟩
theorem zt0 (h:Hrd) (m:Mg):(gL h m).length≤m.entries.length:=by unfold gL;rw [List.length_drop];omega
theorem growOk {h:Hrd}{c:Int}{m:Mg} (hl:h.log.length≤4294967) (e:growE h c m=0) (hf:fits h (gP h m) (gT h m)=true):∃ n,PutOk h (gP h m) (gL h m) n∧zeg h c m∧gBrk h c (gP h m) (gL h m)=false:=by
 obtain ⟨h1,h2⟩:=zg3 e
 cases hb:gBrk h c (gP h m) (gL h m) with
 | true=>rw [zki h1 h2 hf hb] at e;omega
 | false =>
  rw [(zh2 h1 h2 hf hb).1] at e
  obtain ⟨n,ko⟩:=putOk e hl
  exact ⟨n,ko,h2,rfl⟩
theorem zp9:∀ (g l:List Ent) (d:Nat),d≤g.length→(∀ k (_:k < d) (h2:k < l.length) (h3:k < g.length),(g[k]'h3).term=(l[k]'h2).term)→(putM g l).take d=g.take d
 | g,[],d,_,_=>by cases g<;>rfl
 | [],x :: l,d,hd,_=>by
  have e:d=0:=by simpa using hd
  subst e;rfl
 | y :: g,x :: l,0,_,_=>by simp
 | y :: g,x :: l,d+1,hd,h=>by
  have h0:=h 0 (by omega) (by simp) (by simp)
  simp only [List.getElem_cons_zero] at h0
  rw [putM,if_pos h0,List.take_succ_cons,List.take_succ_cons,zp9 g l d (by simpa using hd) ?_]
  intro k h1 h2 h3
  have:=h (k+1) (by omega) (by simpa using h2) (by simpa using h3)
  simpa using this
theorem zxw {g l:List Ent}{n d:Nat} (hn:n≤g.length) (hd:d≤g.length) (h:∀ k (h2:k < l.length) (h3:n+k < g.length),n+k < d→(g[n+k]'h3).term=(l[k]'h2).term):(putG g n l).take d=g.take d:=by
 by_cases hdn:d≤n
 ·have e:=congrArg (List.take d) (zhv g l hn)
  rw [List.take_take,List.take_take,Nat.min_eq_left hdn] at e
  exact e
 ·obtain ⟨q,rfl⟩:∃ q,d=n+q:=⟨d - n,by omega⟩
  rw [List.take_add,zhv g l hn,zhz g l hn,zp9 (g.drop n) l q (by rw [List.length_drop];omega) ?_,← List.take_add]
  intro k h1 h2 h3
  rw [List.getElem_drop]
  exact h k h2 (by rw [List.length_drop] at h3;omega) (by omega)
theorem zyx (g l:List Ent) {n:Nat} (hn:n≤g.length):n+l.length≤(putG g n l).length:=by
 have:=(zh9 (g.drop n) l).2
 unfold putG
 rw [List.length_append,List.length_take]
 omega
theorem zrw {h:Hrd}{k:Nat} (hk:k < h.log.length):zau h (h.base+1+k)=(h.log[k]'hk).term:=by
 rw [zdy (n:=k+1) (by omega) (by omega),zbd hk]
theorem z0n {h:Hrd}{c:Int}{p:Int}{l:List Ent}{n:Nat} (ko:PutOk h p l n) (hb:gBrk h c p l=false) (hc:c≤h.base+h.log.length):(putG h.log n l).take (c - h.base).toNat=h.log.take (c - h.base).toNat:=by
 refine zxw ko.le (by omega) ?_
 intro k h2 h3 hlt
 have hat:=ko.at'
 have:=z3n hb k h2 (by omega)
 rw [show p+1+(k:Int)=h.base+1+((n+k:Nat):Int) by omega,zrw h3] at this
 exact this
theorem z09 {h:Hrd}{c:Int}{p:Int}{l:List Ent}{n:Nat} (ko:PutOk h p l n) (hb:gBrk h c p l=false) (hc:c≤h.base+h.log.length):c≤h.base+(putG h.log n l).length:=by
 have e:=congrArg List.length (z0n ko hb hc)
 rw [List.length_take,List.length_take] at e
 omega
theorem zd9 {h:Hrd} (hh:hardB h=true) (hl:h.log.length≤4294967):lastI h=h.base+h.log.length:=by
 have:=(zaq hh).1.b
 exact zax this.1 (by omega)
structure GrowFit (h:Hrd) (c:Int) (m:Mg) (n:Nat):Prop where
 ko:PutOk h (gP h m) (gL h m) n
 right:zeg h c m
 brk:gBrk h c (gP h m) (gL h m)=false
 out:growO h c m=⟨{ h with log:=putG h.log n (gL h m) },emax c (emin m.commit (gP h m+(gL h m).length)),true,gP h m+(gL h m).length⟩
theorem zre {h:Hrd}{c:Int}{m:Mg} (hl:h.log.length≤4294967) (e:growE h c m=0) (hf:fits h (gP h m) (gT h m)=true):∃ n,GrowFit h c m n:=by
 obtain ⟨n,ko,hr,hb⟩:=growOk hl e hf
 refine ⟨n,ko,hr,hb,?_⟩
 rw [(zh2 ko.hard hr hf hb).2,ko.log]
theorem GrowFit.last {h:Hrd}{c:Int}{m:Mg}{n:Nat} (k:GrowFit h c m n) (hl:h.log.length≤4294000):lastI (growO h c m).h=h.base+(putG h.log n (gL h m)).length∧(growO h c m).h.log.length≤4294967:=by
 have hb:=(zaq k.ko.hard).1.b
 have h8:=k.right.2.2.2.2
 have h1:=zt0 h m
 have h2:=z1c h.log (gL h m) k.ko.le
 rw [k.out]
 refine ⟨?_,?_⟩
 ·refine zax hb.1 ?_
  show h.base+((putG h.log n (gL h m)).length:Int) < _
  omega
 ·show (putG h.log n (gL h m)).length≤_
  omega
theorem GrowFit.le {h:Hrd}{c:Int}{m:Mg}{n:Nat} (k:GrowFit h c m n) (hl:h.log.length≤4294000):c≤h.base+(putG h.log n (gL h m)).length∧gP h m+(gL h m).length≤h.base+(putG h.log n (gL h m)).length:=by
 have hc:=k.right.1.2
 rw [zd9 k.ko.hard (by omega)] at hc
 have h1:=z09 k.ko k.brk hc
 have h2:=zyx h.log (gL h m) k.ko.le
 have h3:=k.ko.at'
 exact ⟨h1,by omega⟩
theorem zjk {h:Hrd}{c:Int}{m:Mg} (hl:h.log.length≤4294000) (e:growE h c m=0):c≤(growO h c m).c∧(growO h c m).c≤lastI (growO h c m).h∧((growO h c m).yes=false→(growO h c m).c=c)∧((growO h c m).c=c∨((growO h c m).c≤m.commit∧(growO h c m).c≤(growO h c m).i)):=by
 obtain ⟨h1,h2⟩:=zg3 e
 cases hf:fits h (gP h m) (gT h m) with
 | false =>
  rw [(zh8 h1 h2 hf).2]
  exact ⟨Int.le_refl _,h2.1.2,fun _=>rfl,.inl rfl⟩
 | true =>
  obtain ⟨n,k⟩:=zre (by omega) e hf
  obtain ⟨k1,k2⟩:=k.le hl
  rw [(k.last hl).1,k.out]
  simp only [z0e,zk1]
  refine ⟨by omega,by omega,(fun x=>by cases x),by omega⟩
theorem zpq {h:Hrd}{c:Int}{m:Mg} (e:growE h c m=0):(growO h c m).h.base=h.base:=by
 unfold growO;split<;>rfl
theorem zyj {h:Hrd}{c:Int}{m:Mg} (e:growE h c m=0):(growO h c m).h.snap=h.snap:=by
 unfold growO;split<;>rfl
theorem zfu {h:Hrd}{c:Int}{m:Mg} (hl:h.log.length≤4294000) (e:growE h c m=0):(growO h c m).h.log.length≤h.log.length+8:=by
 obtain ⟨h1,h2⟩:=zg3 e
 cases hf:fits h (gP h m) (gT h m) with
 | false=>rw [(zh8 h1 h2 hf).2];show h.log.length≤_;omega
 | true =>
  obtain ⟨n,k⟩:=zre (by omega) e hf
  have h8:=k.right.2.2.2.2
  have h3:=zt0 h m
  have h4:=z1c h.log (gL h m) k.ko.le
  rw [k.out]
  show (putG h.log n (gL h m)).length≤_
  omega
abbrev mzv:List PV:=[iv 0,iv 0,iv 0,iv 0,iv 0,iv 0,iv 0,iv 0,bv false,.nl,iv 0,iv 0,iv 0,iv 0,.nl,.nl]
abbrev ansV (yes:Bool) (i:Int):List PV:=[iv 6,iv 0,iv 0,iv 0,iv i,iv 0,iv 0,iv 0,bv yes,.nl,iv 0,iv 0,iv 0,iv 0,.nl,.nl]
def resG (e:Int) (o:GOut):PV:=if e=0 then .tu [.ag (o.h.own 0),iv o.c,.ag (ansV o.yes o.i),iv 0] else .tu [.ag hzv,iv 0,.ag mzv,iv e]
def resGO (e:Int) (o:GOut):List (Nat×List (List PV)):=if e=0 then o.h.obs else []
def resGW (e:Int) (o:GOut):PV:=if e=0 then .tu [.ag o.h.enc,iv o.c,.ag (ansV o.yes o.i),iv 0] else .tu [.ag hzv,iv 0,.ag mzv,iv e]
theorem z3w {f:Nat}{ps:List PV}{e:Int}{o:GOut} (h:Ctr Tryz.prog f ps (resG e o) (resGO e o)):Ctr Tryz.prog f ps (resGW e o) []:=by
 unfold resG resGO at h
 unfold resGW
 by_cases he:e=0
 ·rw [if_pos he,if_pos he] at h
  rw [if_pos he]
  refine h.frz (zat ?_)
  refine ⟨zao ?_,zae _ rfl,zae _ rfl,zae _ rfl,rfl⟩
  conv=>whnf
  repeat' (first | exact rfl | ((with_reducible refine And.intro ?_ ?_)<;>(first | (with_reducible exact zae _ rfl) | exact zba (b:=false) (List.Mem.head _) rfl | exact zba (b:=false) (List.Mem.tail _ (List.Mem.head _)) rfl | (conv=>whnf))))
 ·rw [if_neg he,if_neg he] at h
  rw [if_neg he]
  exact h
theorem zgg {e:Int}{o:GOut} (he:e=0):resG e o=.tu [.ag (o.h.own 0),iv o.c,.ag (ansV o.yes o.i),iv 0]∧resGO e o=o.h.obs∧resGW e o=.tu [.ag o.h.enc,iv o.c,.ag (ansV o.yes o.i),iv 0]:=by
 subst he;exact ⟨rfl,rfl,rfl⟩
theorem zdo {e:Int}{o:GOut} (he:¬ e=0):resG e o=.tu [.ag hzv,iv 0,.ag mzv,iv e]∧resGO e o=[]∧resGW e o=.tu [.ag hzv,iv 0,.ag mzv,iv e]:=by
 unfold resG resGO resGW
 rw [if_neg he,if_neg he,if_neg he];exact ⟨rfl,rfl,rfl⟩
theorem z2g (a:Hrd) (hm:a.log.length≤maxLen) (c:Int) (m:Mg):Ctr Tryz.prog 210 [.ag a.enc,iv c,.ag m.enc] (bv (decide (zeg a c m))) []:=by
 by_cases hg:zeg a c m
 ·rw [decide_eq_true hg]
  obtain ⟨⟨g1,g2⟩,⟨g3,g4⟩,g5,g6,g7⟩:=hg
  refine sBody Tryz.func210 ?_;conv=>whnf
  refine tC (zc1 a hm) ?_
  repeat' (first | (exfalso;(try simp only [List.length_map] at *);omega) | exact zaa rfl rfl | exact zaa rfl (congrArg bv (decide_eq_true (by (try simp only [List.length_map]);omega))) | (refine tS ?_ ?_<;>intro h) | fail)
 ·rw [decide_eq_false hg]
  refine sBody Tryz.func210 ?_;conv=>whnf
  refine tC (zc1 a hm) ?_
  repeat' (first | exact zaa rfl rfl | exact zaa rfl (congrArg bv (decide_eq_false (fun hh=>hg (by (try simp only [List.length_map] at *);unfold zeg;omega)))) | (refine tS ?_ ?_<;>intro h) | fail)
theorem z20 (a:Hrd) (hm:a.log.length≤maxLen) (hb:isI a.base) (c p:Int) (hp:0≤p∧p≤4611686018427387904) (l:List Ent) (hl:l.length≤4294967):Ctr Tryz.prog 212 [.ag a.enc,iv c,iv p,.sl 16 (l.map Ent.enc)] (bv (gBrk a c p l)) []:=by
 refine sBody Tryz.func212 ?_;conv=>whnf
 refine zbe mixed (by kernel_rfl) (fun j:Nat=>j≤l.length∧∀ k (hk:k < l.length),k < j→p+1+k≤c→zau a (p+1+k)=(l[k]'hk).term) (fun j=>[(13,iv j)]) [] (fun j=>l.length - j) 0 ⟨Nat.zero_le _,fun k _ h=>absurd h (Nat.not_lt_zero k)⟩ ?_ ?_
 ·exact wkE
 rintro j ⟨hj,hal⟩
 refine tS ?_ ?_<;>intro h
 ·simp only [List.length_map] at h
  have hlt:j < l.length:=by omega
  have e1:IntKind.i64.wrap (IntKind.i64.wrap (p+(j:Int))+1)=p+1+(j:Int):=by
   rw [show IntKind.i64.wrap (p+(j:Int))=p+j from zaf (by omega) (by omega),zaf (by omega) (by omega)];omega
  have c1:=zm2 a hm hb (p+1+(j:Int)) (by unfold isI;omega)
  have next:(p+1+(j:Int)≤c→zau a (p+1+(j:Int))=(l[j]'hlt).term)→∀ k (hk:k < l.length),k < j+1→p+1+k≤c→zau a (p+1+k)=(l[k]'hk).term:=fun hn k hk hkj hle=>by
   by_cases ek:k=j
   ·subst ek;exact hn hle
   ·exact hal k hk (by omega) hle
  clear h
  refine tAt (za3 hlt) ?_
  rw [e1]
  refine tS ?_ ?_<;>intro h
  ·have h1:=h
   clear h
   rw [e1]
   refine tC c1 ?_
   refine tS ?_ ?_<;>intro h
   ·exact zaa rfl (congrArg bv (zne hlt h1 h).symm)
   ·refine ⟨j+1,⟨⟨by omega,next (fun _=>by first | exact h | exact Classical.byContradiction h)⟩,by omega⟩,?_⟩
    exact wkE
  ·refine ⟨j+1,⟨⟨by omega,next (fun hle=>absurd hle h)⟩,by omega⟩,?_⟩
   exact wkE
 ·simp only [List.length_map] at h
  exact zaa rfl (congrArg bv (gBrk_f (fun k hk hle=>hal k hk (by omega) hle)).symm)
theorem c_grow (a : Hrd) (h1 : a.snap.length ≤ 4294967296) (h2 : a.log.length ≤ 4294967) (hb : isI a.base) (c : Int) (m : Mg) (h3 : m.entries.length ≤ 4294967) :
    Ctr Tryz.prog 187 [.ag a.enc,iv c,.ag m.enc] (resG (growE a c m) (growO a c m)) (resGO (growE a c m) (growO a c m)):=by
 have hm:a.log.length≤maxLen:=zad (by omega)
 have hck:=zgv a hm
 by_cases hB:hardB a=true
 ·rw [hB] at hck
  simp only [if_true] at hck
  have hb0:=(zaq hB).1.b
  have hla:=zd9 hB h2
  have kR:=z2g a hm c m
  by_cases hR:zeg a c m
  ·rw [decide_eq_true hR] at kR
   have hR2:=hR
   obtain ⟨⟨g1,g2⟩,⟨g3,g4⟩,g5,g6,g7⟩:=hR2
   have hPb:gP a m≤1099511627776∧a.base≤gP a m:=by unfold gP;split<;>omega
   have hPI:isI (gP a m):=by unfold isI;omega
   have hLl:=zt0 a m
   -- an empty put first: a twin
   have k0:=c_lPut a h1 h2 hb a.base hb [] (by simp)
   have e0:putHE a a.base []=0:=by
    unfold putHE
    rw [if_pos hB,if_pos ⟨⟨by omega,by omega⟩,rfl⟩]
   have e0h:putH a a.base []=a:=by
    unfold putH
    rw [show (a.base - a.base).toNat=0 by omega]
    show { a with log:=putG a.log 0 [] }=a
    rw [show putG a.log 0 []=a.log from by unfold putG;cases a.log<;>rfl]
   rw [(zdt e0).1,(zdt e0).2.1,e0h] at k0
   have kF:=zs6 a hm hb (gP a m) hPI (gT a m)
   have kK:=z20 a hm hb c (gP a m) (by omega) (gL a m) (by omega)
   have kP:=c_lPut a h1 h2 hb (gP a m) hPI (gL a m) (by omega)
   have hw:∀ x:Int,0≤x∧x≤1099511627776→IntKind.i64.wrap (x - 1)=x - 1:=fun x hx=>zaf (by omega) (by omega)
   have hw2:∀ x:Int,0≤x∧x≤1099511627776→IntKind.i64.wrap (x+((gL a m).length:Int))=x+(gL a m).length:=fun x hx=>zaf (by omega) (by omega)
   have hw3:∀ x:Int,0≤x∧x≤1099511627776→IntKind.i64.wrap (x+(m.entries.length:Int))=x+m.entries.length:=fun x hx=>zaf (by omega) (by omega)
   have hcut:m.index < a.base→∃ q:Nat,(if ((m.entries.map Ent.enc).length:Int) < IntKind.i64.wrap (a.base - m.index) then ((m.entries.map Ent.enc).length:Int) else IntKind.i64.wrap (a.base - m.index))=(q:Int)∧q≤m.entries.length∧List.drop (q:Int).toNat (List.take (((m.entries.map Ent.enc).length:Nat):Int).toNat (m.entries.map Ent.enc))=(gL a m).map Ent.enc:=fun hp=>by
    have ew:IntKind.i64.wrap (a.base - m.index)=a.base - m.index:=zaf (by omega) (by omega)
    refine ⟨min m.entries.length (a.base - m.index).toNat,?_,Nat.min_le_left _ _,?_⟩
    ·rw [ew,List.length_map]
     split<;>omega
    ·rw [Int.toNat_natCast,Int.toNat_natCast,List.take_length,List.map_drop.symm]
     unfold gL
     congr 1
     by_cases hd:(a.base - m.index).toNat≤m.entries.length
     ·rw [Nat.min_eq_right hd]
     ·rw [Nat.min_eq_left (by omega),List.drop_eq_nil_of_le (Nat.le_refl _),List.drop_eq_nil_of_le (by omega)]
   cases hf:fits a (gP a m) (gT a m) with
   | false =>
    obtain ⟨E,O⟩:=zh8 hB hR hf
    rw [(zgg E).1,(zgg E).2.1,O]
    dsimp only
    rw [hf] at kF
    by_cases hp:m.index < a.base
    ·have hP:gP a m=a.base:=by unfold gP;rw [if_pos hp]
     have hT:gT a m=a.baseTerm:=by unfold gT;rw [if_pos hp]
     obtain ⟨q,eq,hq,eL⟩:=hcut hp
     rw [hP,hT] at kF
     rw [hP] at kK kP
     rw [hP]
     refine sBody Tryz.func187 ?_;conv=>whnf
     refine tC hck ?_
     refine tC kR ?_
     refine tS ?_ ?_<;>intro h
     all_goals first | (exfalso;omega) | skip
     clear h
     rw [eq]
     refine ⟨⟨by omega,by rw [List.length_map];omega,Int.le_refl _⟩,?_⟩
     conv=>whnf
     refine Exists.intro none ?_
     conv=>whnf
     rw [eL]
     refine tCD k0 ?_
     refine tN2 ?_
     refine tC kF ?_
     refine tC (zc1 a hm) ?_
     rw [hw _ (by omega)]
     refine zal [(0,976),(1,977)] rfl ⟨rfl,rfl,True.intro⟩ (zat ⟨zao ?_,zae _ rfl,zae _ rfl,zae _ rfl,rfl⟩)
     conv=>whnf
     repeat' (first | exact rfl | ((with_reducible refine And.intro ?_ ?_)<;>(first | (with_reducible exact zae _ rfl) | exact zas rfl rfl rfl | (conv=>whnf))))
    ·have hP:gP a m=m.index:=by unfold gP;rw [if_neg hp]
     have hT:gT a m=m.logTerm:=by unfold gT;rw [if_neg hp]
     have hL:gL a m=m.entries:=by unfold gL;rw [show (a.base - m.index).toNat=0 by omega,List.drop_zero]
     rw [hP,hT] at kF
     rw [hP,hL] at kK kP
     rw [hP]
     refine sBody Tryz.func187 ?_;conv=>whnf
     refine tC hck ?_
     refine tC kR ?_
     refine tS ?_ ?_<;>intro h
     all_goals first | (exfalso;omega) | skip
     clear h
     refine tCD k0 ?_
     refine tN2 ?_
     refine tC kF ?_
     refine tC (zc1 a hm) ?_
     rw [hw _ (by omega)]
     refine zal [(0,976),(1,977)] rfl ⟨rfl,rfl,True.intro⟩ (zat ⟨zao ?_,zae _ rfl,zae _ rfl,zae _ rfl,rfl⟩)
     conv=>whnf
     repeat' (first | exact rfl | ((with_reducible refine And.intro ?_ ?_)<;>(first | (with_reducible exact zae _ rfl) | exact zas rfl rfl rfl | (conv=>whnf))))
   | true =>
    rw [hf] at kF
    cases hk:gBrk a c (gP a m) (gL a m) with
    | true =>
     have E:=zki hB hR hf hk
     rw [hk] at kK
     rw [(zdo (by omega)).1,(zdo (by omega)).2.1,E]
     by_cases hp:m.index < a.base
     ·have hP:gP a m=a.base:=by unfold gP;rw [if_pos hp]
      have hT:gT a m=a.baseTerm:=by unfold gT;rw [if_pos hp]
      obtain ⟨q,eq,hq,eL⟩:=hcut hp
      rw [hP,hT] at kF
      rw [hP] at kK kP
      refine sBody Tryz.func187 ?_;conv=>whnf
      refine tC hck ?_
      refine tC kR ?_
      refine tS ?_ ?_<;>intro h
      all_goals first | (exfalso;omega) | skip
      clear h
      rw [eq]
      refine ⟨⟨by omega,by rw [List.length_map];omega,Int.le_refl _⟩,?_⟩
      conv=>whnf
      refine Exists.intro none ?_
      conv=>whnf
      rw [eL]
      refine tCD k0 ?_
      refine tN2 ?_
      refine tC kF ?_
      refine tC kK ?_
      exact zaa rfl rfl
     ·have hP:gP a m=m.index:=by unfold gP;rw [if_neg hp]
      have hT:gT a m=m.logTerm:=by unfold gT;rw [if_neg hp]
      have hL:gL a m=m.entries:=by unfold gL;rw [show (a.base - m.index).toNat=0 by omega,List.drop_zero]
      rw [hP,hT] at kF
      rw [hP,hL] at kK kP
      refine sBody Tryz.func187 ?_;conv=>whnf
      refine tC hck ?_
      refine tC kR ?_
      refine tS ?_ ?_<;>intro h
      all_goals first | (exfalso;omega) | skip
      clear h
      refine tCD k0 ?_
      refine tN2 ?_
      refine tC kF ?_
      refine tC kK ?_
      exact zaa rfl rfl
    | false =>
     obtain ⟨E,O⟩:=zh2 hB hR hf hk
     rw [hk] at kK
     by_cases e:putHE a (gP a m) (gL a m)=0
     ·rw [(zdt e).1,(zdt e).2.1] at kP
      rw [(zgg (E.trans e)).1,(zgg (E.trans e)).2.1,O]
      dsimp only
      by_cases hp:m.index < a.base
      ·have hP:gP a m=a.base:=by unfold gP;rw [if_pos hp]
       have hT:gT a m=a.baseTerm:=by unfold gT;rw [if_pos hp]
       obtain ⟨q,eq,hq,eL⟩:=hcut hp
       rw [hP,hT] at kF
       rw [hP] at kK kP
       rw [hP]
       refine sBody Tryz.func187 ?_;conv=>whnf
       refine tC hck ?_
       refine tC kR ?_
       refine tS ?_ ?_<;>intro h
       all_goals first | (exfalso;omega) | skip
       clear h
       rw [eq]
       refine ⟨⟨by omega,by rw [List.length_map];omega,Int.le_refl _⟩,?_⟩
       conv=>whnf
       refine Exists.intro none ?_
       conv=>whnf
       rw [eL]
       refine tCD k0 ?_
       refine tN2 ?_
       refine tC kF ?_
       refine tC kK ?_
       refine tC kP ?_
       refine tN2 ?_
       rw [show ((List.map Ent.enc (gL a m)).length:Int)=(gL a m).length from by rw [List.length_map],hw2 _ (by omega)]
       refine zal [(0,1600),(1,1601)] rfl ⟨rfl,rfl,True.intro⟩ (zat ⟨zao ?_,zae _ rfl,zae _ rfl,zae _ rfl,rfl⟩)
       conv=>whnf
       repeat' (first | exact rfl | ((with_reducible refine And.intro ?_ ?_)<;>(first | (with_reducible exact zae _ rfl) | exact zas rfl rfl rfl | (conv=>whnf))))
      ·have hP:gP a m=m.index:=by unfold gP;rw [if_neg hp]
       have hT:gT a m=m.logTerm:=by unfold gT;rw [if_neg hp]
       have hL:gL a m=m.entries:=by unfold gL;rw [show (a.base - m.index).toNat=0 by omega,List.drop_zero]
       rw [hP,hT] at kF
       rw [hP,hL] at kK kP
       rw [hP,hL]
       refine sBody Tryz.func187 ?_;conv=>whnf
       refine tC hck ?_
       refine tC kR ?_
       refine tS ?_ ?_<;>intro h
       all_goals first | (exfalso;omega) | skip
       clear h
       refine tCD k0 ?_
       refine tN2 ?_
       refine tC kF ?_
       refine tC kK ?_
       refine tC kP ?_
       refine tN2 ?_
       rw [show ((List.map Ent.enc m.entries).length:Int)=m.entries.length from by rw [List.length_map],hw3 _ (by omega)]
       refine zal [(0,1600),(1,1601)] rfl ⟨rfl,rfl,True.intro⟩ (zat ⟨zao ?_,zae _ rfl,zae _ rfl,zae _ rfl,rfl⟩)
       conv=>whnf
       repeat' (first | exact rfl | ((with_reducible refine And.intro ?_ ?_)<;>(first | (with_reducible exact zae _ rfl) | exact zas rfl rfl rfl | (conv=>whnf))))
     ·rw [(zb9 e).1,(zb9 e).2.1] at kP
      rw [(zdo (by omega)).1,(zdo (by omega)).2.1,E]
      by_cases hp:m.index < a.base
      ·have hP:gP a m=a.base:=by unfold gP;rw [if_pos hp]
       have hT:gT a m=a.baseTerm:=by unfold gT;rw [if_pos hp]
       obtain ⟨q,eq,hq,eL⟩:=hcut hp
       rw [hP,hT] at kF
       rw [hP] at kK kP e
       rw [hP]
       refine sBody Tryz.func187 ?_;conv=>whnf
       refine tC hck ?_
       refine tC kR ?_
       refine tS ?_ ?_<;>intro h
       all_goals first | (exfalso;omega) | skip
       clear h
       rw [eq]
       refine ⟨⟨by omega,by rw [List.length_map];omega,Int.le_refl _⟩,?_⟩
       conv=>whnf
       refine Exists.intro none ?_
       conv=>whnf
       rw [eL]
       refine tCD k0 ?_
       refine tN2 ?_
       refine tC kF ?_
       refine tC kK ?_
       refine tC kP ?_
       refine tS ?_ ?_<;>intro h
       all_goals first | exact zaa rfl rfl | (exfalso;omega)
      ·have hP:gP a m=m.index:=by unfold gP;rw [if_neg hp]
       have hT:gT a m=m.logTerm:=by unfold gT;rw [if_neg hp]
       have hL:gL a m=m.entries:=by unfold gL;rw [show (a.base - m.index).toNat=0 by omega,List.drop_zero]
       rw [hP,hT] at kF
       rw [hP,hL] at kK kP e
       rw [hP,hL]
       refine sBody Tryz.func187 ?_;conv=>whnf
       refine tC hck ?_
       refine tC kR ?_
       refine tS ?_ ?_<;>intro h
       all_goals first | (exfalso;omega) | skip
       clear h
       refine tCD k0 ?_
       refine tN2 ?_
       refine tC kF ?_
       refine tC kK ?_
       refine tC kP ?_
       refine tS ?_ ?_<;>intro h
       all_goals first | exact zaa rfl rfl | (exfalso;omega)
  ·rw [decide_eq_false hR] at kR
   have E:growE a c m=1:=by unfold growE;rw [if_pos hB,if_neg hR]
   rw [(zdo (by omega)).1,(zdo (by omega)).2.1,E]
   refine sBody Tryz.func187 ?_;conv=>whnf
   refine tC hck ?_
   refine tC kR ?_
   exact zaa rfl rfl
 ·have E:growE a c m=6:=by unfold growE;rw [if_neg hB]
  rw [(zdo (by omega)).1,(zdo (by omega)).2.1,E]
  simp only [Bool.not_eq_true] at hB
  rw [hB] at hck
  simp only [Bool.false_eq_true,if_false] at hck
  refine sBody Tryz.func187 ?_;conv=>whnf
  refine tC hck ?_
  exact zaa rfl rfl
end Go.Proofs
