import Derived.Test.YtbhfokahocgndabGreatC1
import Derived.Test.YtbhfokahocgndabGreatH10
import Derived.Test.YtbhfokahocgndabGreatC60
import Derived.Test.YtbhfokahocgndabGreatC5
import Derived.Test.YtbhfokahocgndabGreatK4
import Derived.Test.YtbhfokahocgndabGreatC24
import Derived.Test.YtbhfokahocgndabGreatC47
import Derived.Test.YtbhfokahocgndabGreatC54
import Derived.Test.YtbhfokahocgndabGreatC59
/- Contracts of functions: the page's replica falls; the others; who is asked; what is sent. -/
set_option linter.unusedSimpArgs false
set_option linter.unusedVariables false
namespace Go.Proofs
open Go.Pv
set_option maxRecDepth 100000
set_option maxHeartbeats 2000000 in
theorem zck (r:Rft) (hm:r.hard.log.length≤maxLen) (term lead:Int):CtrE Tryz.prog 89 [.pt 1000000 0,iv term,iv lead] [(1000000,r.enc)] [] (.tu []) [(1000000,(fallR r term lead).enc)] []:=by
 have kd:=zio (zac r) r.id
 have hc:zac (fallR r term lead)=zac r:=by
  show (force (fallR r term lead).hard (lastI (fallR r term lead).hard)).1=(force r.hard (lastI r.hard)).1
  have e1:(fallR r term lead).hard.base=r.hard.base:=by unfold fallR;split<;>rfl
  have e2:(fallR r term lead).hard.baseConf=r.hard.baseConf:=by unfold fallR;split<;>rfl
  rw [zow e1 e2 (zci r term lead),ztg e1 (zci r term lead)]
 have kc:Ctr Tryz.prog 76 [.ag ({ fallR r term lead with wait:=r.wait }:Rft).enc] (.ag (zac r).enc) []:=by rw [← hc];exact zb7 { fallR r term lead with wait:=r.wait } (by show (fallR r term lead).hard.log.length≤_;rw [zci];exact hm)
 clear hc
 unfold fallR at kc ⊢
 refine za1 Tryz.func89 ?_;conv=>whnf
 (refine tSp (fun h=>?_) (fun h=>?_)<;>conv=>whnf)
 ·rw [if_pos (by omega)] at kc ⊢
  ((try ((refine Exists.intro none ?_);(conv=>whnf)));refine zaw (kc) (by (repeat' (first | exact zav | exact zau | refine zar ?_ ?_ | refine zaq ?_ ?_ | exact SubV.refl _ | exact za2 | (with_reducible exact za7 rfl) | refine za6 ?_ | refine za8 ?_ | refine za5 ?_))) ?_;conv=>whnf)
  ((try (refine Exists.intro none ?_;conv=>whnf));(with_reducible refine zaa (kd) ?_);conv=>whnf)
  (refine zae [] [] ?_;(conv=>whnf);exact wkD)
 ·rw [if_neg (by omega)] at kc ⊢
  ((try ((refine Exists.intro none ?_);(conv=>whnf)));refine zaw (kc) (by (repeat' (first | exact zav | exact zau | refine zar ?_ ?_ | refine zaq ?_ ?_ | exact SubV.refl _ | exact za2 | (with_reducible exact za7 rfl) | refine za6 ?_ | refine za8 ?_ | refine za5 ?_))) ?_;conv=>whnf)
  ((try (refine Exists.intro none ?_;conv=>whnf));(with_reducible refine zaa (kd) ?_);conv=>whnf)
  (refine zae [] [] ?_;(conv=>whnf);exact wkD)
set_option maxHeartbeats 4000000 in
theorem zvo (r:Rft) (bits:Int):Ctr Tryz.prog 153 [.ag r.enc,iv bits] (.ow 0 0 ((othN r.id bits 7).map encI).length) [(1,(othN r.id bits 7).map encI)]:=by
 refine sBody Tryz.func153 ?_;conv=>whnf
 refine zgp 5 1000 1 rfl rfl ?_
 conv=>whnf
 refine tFor (fun i:Nat=>i≤7) (fun i=>[(6,iv i),(5,.ow 1000 0 ((othN r.id bits i).map encI).length)]) (fun _=>[(2,r.enc)]) (fun i=>[(1000,some (false,1,(othN r.id bits i).map encI))]) [(1000,1000)] (fun i=>7 - i) 0 (Nat.zero_le _) ?_ ?_
 ·conv=>whnf
  exact wkD
 intro i hi
 have hl:=zc4 r.id bits i
 have hlm:((othN r.id bits i).map encI).length=(othN r.id bits i).length:=List.length_map ..
 conv=>whnf
 (refine tSp (fun h=>?_) (fun h=>?_)<;>conv=>whnf)
 ·have hlt:i < 7:=by omega
  clear h
  have kh:=c_Has bits (i:Int)
  rw [zcv bits i (by omega)] at kh
  cases ht:tb bits i with
  | false =>
   rw [ht] at kh
   have hn:=zfl (id:=r.id) (i:=i) (.inr ht)
   ((try (refine Exists.intro none ?_;conv=>whnf));(with_reducible refine zaa (kh) ?_);conv=>whnf)
   refine ⟨i+1,[(1000,1000)],⟨by omega,by omega⟩,?_⟩
   rw [hn]
   conv=>whnf
   exact wkD
  | true =>
   rw [ht] at kh
   ((try (refine Exists.intro none ?_;conv=>whnf));(with_reducible refine zaa (kh) ?_);conv=>whnf)
   (refine tSp (fun h=>?_) (fun h=>?_)<;>conv=>whnf)
   ·have hne:¬ (i:Int)=r.id:=h
    clear h
    have hy:=zfu hne ht
    have hy:(othN r.id bits (i+1)).map encI=(othN r.id bits i).map encI++[encI (i:Int)]:=by rw [hy,List.map_append];rfl
    have b1:(((othN r.id bits i).map encI).length+1) * 8≤140737488355328:=by omega
    have b2:((othN r.id bits i).map encI).length+1≤maxLen:=zak (by omega)
    (refine And.intro rfl ?_;(conv=>whnf);refine And.intro (And.intro (And.intro (by kernel_rfl) (And.intro (Nat.le_refl _) (And.intro (b1) (And.intro (b2) (by intro r hr;rw [List.mem_singleton.1 hr];rfl))))) (And.intro (by decide) rfl)) ?_;conv=>whnf)
    refine ⟨i+1,[(1000,368)],⟨by omega,by omega⟩,?_⟩
    rw [hy]
    conv=>whnf
    (refine wkx ?_;refine ⟨?_,?_,?_⟩<;>(conv=>whnf)<;>repeat' first | exact wkc | (with_reducible refine And.intro ?_ ?_)<;>first | exact wks | refine wko ?_ | refine wki ?_ | refine wkb ?_ | (refine zan ?_;conv=>whnf) | (refine zah ?_;conv=>whnf) | (refine zag ?_;conv=>whnf) | conv=>whnf)
    all_goals first | exact w1 (by omega) | (refine zaz (by kernel_rfl) ?_;rw [List.take_of_length_le (Nat.le_refl _)];done) | (refine zaz (by kernel_rfl) ?_;rw [List.take_of_length_le (Nat.le_refl _)];rfl) | exact List.length_append.symm | rfl | trace_state
   ·have he:(i:Int)=r.id:=by first | exact h | exact Classical.byContradiction h
    have hn:=zfl (bits:=bits) (i:=i) (.inl he)
    clear h
    refine ⟨i+1,[(1000,1000)],⟨by omega,by omega⟩,?_⟩
    rw [hn]
    conv=>whnf
    exact wkD
 ·have ei:i=7:=by omega
  subst ei
  exact zbd [(0,1000)] rfl ⟨rfl,True.intro⟩ (zbj rfl rfl rfl)
theorem zhj (r:Rft) (bits:Int):Ctr Tryz.prog 153 [.ag r.enc,iv bits] (.sl 1 ((othN r.id bits 7).map encI)) [] :=
 Ctr.frz (zvo r bits) (zbw (b:=false) (List.Mem.head _) rfl)
set_option maxHeartbeats 4000000 in
theorem c_zask (r:Rft) (hm:r.hard.log.length≤maxLen) (kind term:Int):Ctr Tryz.prog 81 [.ag r.enc,iv kind,iv term] (.sl 16 ((votL r).map (askM r kind term))) []:=by
 refine Ctr.frz (os:=[(16,(votL r).map (askM r kind term))]) (r:=.ow 0 0 ((votL r).map (askM r kind term)).length) ?_ (zbw (b:=false) (List.Mem.head _) rfl)
 have kl:=zb0 r.hard hm
 have kc:=zb7 r hm
 have kv:=zi4 (zac r)
 have ko:=zhj r (bor (zac r).full (zac r).wit)
 have hlen:(votL r).length≤7:=zc4 _ _ _
 unfold votL at hlen ⊢
 generalize othN r.id (bor (zac r).full (zac r).wit) 7=vs at *
 have hvm:(vs.map encI).length=vs.length:=List.length_map ..
 refine sBody Tryz.func81 ?_;conv=>whnf
 ((try (refine Exists.intro none ?_;conv=>whnf));(with_reducible refine zaa (kl) ?_);conv=>whnf)
 ((try (refine Exists.intro none ?_;conv=>whnf));(with_reducible refine zaa (kc) ?_);conv=>whnf)
 ((try (refine Exists.intro none ?_;conv=>whnf));(with_reducible refine zaa (kv) ?_);conv=>whnf)
 ((try (refine Exists.intro none ?_;conv=>whnf));(with_reducible refine zaa (ko) ?_);conv=>whnf)
 (refine tNew0 ?_;conv=>whnf)
 refine zgp 7 1000 16 rfl rfl ?_
 conv=>whnf
 refine tFor (fun i:Nat=>i≤vs.length) (fun i=>[(11,iv i),(7,.ow 1000 0 ((vs.take i).map (askM r kind term)).length)]) (fun _=>[(3,r.enc)]) (fun i=>[(1000,some (false,16,(vs.take i).map (askM r kind term)))]) [(1000,1000)] (fun i=>vs.length - i) 0 (Nat.zero_le _) ?_ ?_
 ·conv=>whnf
  exact wkD
 intro i hi
 have hil:((vs.take i).map (askM r kind term)).length≤7:=by rw [List.length_map,List.length_take];omega
 conv=>whnf
 (refine tSp (fun h=>?_) (fun h=>?_)<;>conv=>whnf)
 ·have hlt:i < vs.length:=by omega
  clear h
  have hsucc:(vs.take (i+1)).map (askM r kind term)=(vs.take i).map (askM r kind term)++[askM r kind term (vs[i]'hlt)]:=by
   rw [List.take_succ_eq_append_getElem hlt,List.map_append];rfl
  (first | ((with_reducible refine And.intro (by omega) (Exists.intro _ (And.intro (zbn hlt) ?_)));conv=>whnf))
  generalize vs[i]'hlt=v at *
  have b1:(((vs.take i).map (askM r kind term)).length+1) * 176≤140737488355328:=by omega
  have b2:((vs.take i).map (askM r kind term)).length+1≤maxLen:=zak (by omega)
  generalize (vs.take i).map (askM r kind term)=ot at *
  (refine And.intro rfl ?_;(conv=>whnf);refine And.intro (And.intro (And.intro (by kernel_rfl) (And.intro (Nat.le_refl _) (And.intro (b1) (And.intro (b2) (by intro r hr;rw [List.mem_singleton.1 hr];rfl))))) (And.intro (by decide) rfl)) ?_;conv=>whnf)
  refine ⟨i+1,[(1000,672)],⟨by omega,by omega⟩,?_⟩
  rw [hsucc]
  conv=>whnf
  (refine wkx ?_;refine ⟨?_,?_,?_⟩<;>(conv=>whnf)<;>repeat' first | exact wkc | (with_reducible refine And.intro ?_ ?_)<;>first | exact wks | refine wko ?_ | refine wki ?_ | refine wkb ?_ | (refine zan ?_;conv=>whnf) | (refine zah ?_;conv=>whnf) | (refine zag ?_;conv=>whnf) | conv=>whnf)
  all_goals first | exact w1 (by omega) | (refine zaz (by kernel_rfl) ?_;rw [List.take_of_length_le (Nat.le_refl _)];done) | (refine zaz (by kernel_rfl) ?_;rw [List.take_of_length_le (Nat.le_refl _)];rfl) | exact List.length_append.symm | rfl | trace_state
 ·have ei:i=vs.length:=by omega
  subst ei
  rw [List.take_length]
  exact zbd [(0,1000)] rfl ⟨rfl,True.intro⟩ (zbj rfl rfl rfl)
set_option maxHeartbeats 16000000 in
theorem zqz (r:Rft) (hok:SendOk r):Ctr Tryz.prog 156 [.ag r.enc] (.ow 0 0 ((allL r).map (zba r)).length) [(16,(allL r).map (zba r))]:=by
 have hm:r.hard.log.length≤maxLen:=zak (by have:=hok.log;omega)
 have kc:=zb7 r hm
 have ka:=zum (zac r)
 have ko:=zhj r (bor (bor (bor (zac r).full (zac r).wit) (zac r).learn) (zac r).lwit)
 have hlen:(allL r).length≤7:=zc4 _ _ _
 have hin:∀ v ∈ allL r,0≤v∧v < 7:=fun v hv=>zex hv
 unfold allL at hlen hin ⊢
 have kfS:=fun (nx:Int) (h:nx≤r.hard.base)=>zxm r.hard hok.snap nx h
 have kfA:=fun (nx:Int) (h:r.hard.base < nx) (hI:isI nx)=>zz3 r.hard hok.log (by have:=hok.base;unfold isI;omega) nx h hI hok.base
 generalize othN r.id (bor (bor (bor (zac r).full (zac r).wit) (zac r).learn) (zac r).lwit) 7=vs at *
 have hvm:(vs.map encI).length=vs.length:=List.length_map ..
 refine sBody Tryz.func156 ?_;conv=>whnf
 ((try (refine Exists.intro none ?_;conv=>whnf));(with_reducible refine zaa (kc) ?_);conv=>whnf)
 ((try (refine Exists.intro none ?_;conv=>whnf));(with_reducible refine zaa (ka) ?_);conv=>whnf)
 ((try (refine Exists.intro none ?_;conv=>whnf));(with_reducible refine zaa (ko) ?_);conv=>whnf)
 (refine tNew0 ?_;conv=>whnf)
 refine zgp 3 1000 16 rfl rfl ?_
 conv=>whnf
 refine tFor (fun i:Nat=>i≤vs.length) (fun i=>[(5,iv i),(3,.ow 1000 0 ((vs.take i).map (zba r)).length)]) (fun _=>[(1,r.enc)]) (fun i=>[(1000,some (false,16,(vs.take i).map (zba r)))]) [(1000,1000)] (fun i=>vs.length - i) 0 (Nat.zero_le _) ?_ ?_
 ·conv=>whnf
  exact wkD
 intro i hi
 have hil:((vs.take i).map (zba r)).length≤7:=by rw [List.length_map,List.length_take];omega
 conv=>whnf
 (refine tSp (fun h=>?_) (fun h=>?_)<;>conv=>whnf)
 ·have hlt:i < vs.length:=by omega
  clear h
  have hsucc:(vs.take (i+1)).map (zba r)=(vs.take i).map (zba r)++[zba r (vs[i]'hlt)]:=by
   rw [List.take_succ_eq_append_getElem hlt,List.map_append];rfl
  have hv:=hin _ (List.getElem_mem hlt)
  have hrow:(vs.map encI)[((i:Nat):Int).toNat]?=some (encI (vs[i]'hlt)):=zbn hlt
  generalize vs[i]'hlt=v at *
  have b1:(((vs.take i).map (zba r)).length+1) * 176≤140737488355328:=by omega
  have b2:((vs.take i).map (zba r)).length+1≤maxLen:=zak (by omega)
  generalize (vs.take i).map (zba r)=ot at *
  refine ⟨by omega,_,hrow,?_⟩
  conv=>whnf
  refine ⟨⟨hv.1,hv.2⟩,?_⟩
  have hnx:=hok.next v.toNat (by omega)
  have hfr:zba r v=if r.next.at v.toNat≤r.hard.base then msgV 7 r.id v r.hard.term r.hard.base r.hard.baseTerm r.commit r.round false .nl r.hard.baseConf (.sl 1 (r.hard.snap.map encB)) else msgV 5 r.id v r.hard.term (feedP r.hard (r.next.at v.toNat)) (zbh r.hard (feedP r.hard (r.next.at v.toNat))) r.commit r.round false (.sl 16 ((feedL r.hard (r.next.at v.toNat)).map Ent.enc)) cz .nl:=rfl
  rcases zcm hv with e | e | e | e | e | e | e
  ·have en:r.next.at v.toNat=r.next.a0:=by rw [e];rfl
   rw [en] at hnx hfr
   rw [e]
   by_cases hle:r.next.a0≤r.hard.base
   ·rw [if_pos hle] at hfr
    rw [hfr] at hsucc
    have kf:=kfS _ hle
    conv=>whnf
    ((try (refine Exists.intro none ?_;conv=>whnf));(with_reducible refine zaa (kf) ?_);conv=>whnf)
    (refine tNew0 ?_;conv=>whnf)
    refine ⟨by omega,_,hrow,?_⟩
    conv=>whnf
    (refine And.intro rfl ?_;(conv=>whnf);refine And.intro (And.intro (And.intro (by kernel_rfl) (And.intro (Nat.le_refl _) (And.intro (b1) (And.intro (b2) (by intro r hr;rw [List.mem_singleton.1 hr];rfl))))) (And.intro (by decide) rfl)) ?_;conv=>whnf)
    refine ⟨i+1,[(1000,784)],⟨by omega,by omega⟩,?_⟩
    rw [hsucc]
    conv=>whnf
    (refine wkx ?_;refine ⟨?_,?_,?_⟩<;>(conv=>whnf)<;>repeat' first | exact wkc | (with_reducible refine And.intro ?_ ?_)<;>first | exact wks | refine wko ?_ | refine wki ?_ | refine wkb ?_ | (refine zan ?_;conv=>whnf) | (refine zah ?_;conv=>whnf) | (refine zag ?_;conv=>whnf) | conv=>whnf)
    all_goals first | exact w1 (by omega) | (refine zaz (by kernel_rfl) ?_;rw [List.take_of_length_le (Nat.le_refl _)];done) | (refine zaz (by kernel_rfl) ?_;rw [List.take_of_length_le (Nat.le_refl _)];rfl) | exact List.length_append.symm | rfl | trace_state
   ·rw [if_neg hle] at hfr
    rw [hfr] at hsucc
    have kf:=kfA r.next.a0 (by omega) hnx
    conv=>whnf
    ((try (refine Exists.intro none ?_;conv=>whnf));(with_reducible refine zaa (kf) ?_);conv=>whnf)
    (refine tNew0 ?_;conv=>whnf)
    refine ⟨by omega,_,hrow,?_⟩
    conv=>whnf
    (refine And.intro rfl ?_;(conv=>whnf);refine And.intro (And.intro (And.intro (by kernel_rfl) (And.intro (Nat.le_refl _) (And.intro (b1) (And.intro (b2) (by intro r hr;rw [List.mem_singleton.1 hr];rfl))))) (And.intro (by decide) rfl)) ?_;conv=>whnf)
    refine ⟨i+1,[(1000,784)],⟨by omega,by omega⟩,?_⟩
    rw [hsucc]
    conv=>whnf
    (refine wkx ?_;refine ⟨?_,?_,?_⟩<;>(conv=>whnf)<;>repeat' first | exact wkc | (with_reducible refine And.intro ?_ ?_)<;>first | exact wks | refine wko ?_ | refine wki ?_ | refine wkb ?_ | (refine zan ?_;conv=>whnf) | (refine zah ?_;conv=>whnf) | (refine zag ?_;conv=>whnf) | conv=>whnf)
    all_goals first | exact w1 (by omega) | (refine zaz (by kernel_rfl) ?_;rw [List.take_of_length_le (Nat.le_refl _)];done) | (refine zaz (by kernel_rfl) ?_;rw [List.take_of_length_le (Nat.le_refl _)];rfl) | exact List.length_append.symm | rfl | trace_state
  ·have en:r.next.at v.toNat=r.next.a1:=by rw [e];rfl
   rw [en] at hnx hfr
   rw [e]
   by_cases hle:r.next.a1≤r.hard.base
   ·rw [if_pos hle] at hfr
    rw [hfr] at hsucc
    have kf:=kfS _ hle
    conv=>whnf
    ((try (refine Exists.intro none ?_;conv=>whnf));(with_reducible refine zaa (kf) ?_);conv=>whnf)
    (refine tNew0 ?_;conv=>whnf)
    refine ⟨by omega,_,hrow,?_⟩
    conv=>whnf
    (refine And.intro rfl ?_;(conv=>whnf);refine And.intro (And.intro (And.intro (by kernel_rfl) (And.intro (Nat.le_refl _) (And.intro (b1) (And.intro (b2) (by intro r hr;rw [List.mem_singleton.1 hr];rfl))))) (And.intro (by decide) rfl)) ?_;conv=>whnf)
    refine ⟨i+1,[(1000,784)],⟨by omega,by omega⟩,?_⟩
    rw [hsucc]
    conv=>whnf
    (refine wkx ?_;refine ⟨?_,?_,?_⟩<;>(conv=>whnf)<;>repeat' first | exact wkc | (with_reducible refine And.intro ?_ ?_)<;>first | exact wks | refine wko ?_ | refine wki ?_ | refine wkb ?_ | (refine zan ?_;conv=>whnf) | (refine zah ?_;conv=>whnf) | (refine zag ?_;conv=>whnf) | conv=>whnf)
    all_goals first | exact w1 (by omega) | (refine zaz (by kernel_rfl) ?_;rw [List.take_of_length_le (Nat.le_refl _)];done) | (refine zaz (by kernel_rfl) ?_;rw [List.take_of_length_le (Nat.le_refl _)];rfl) | exact List.length_append.symm | rfl | trace_state
   ·rw [if_neg hle] at hfr
    rw [hfr] at hsucc
    have kf:=kfA r.next.a1 (by omega) hnx
    conv=>whnf
    ((try (refine Exists.intro none ?_;conv=>whnf));(with_reducible refine zaa (kf) ?_);conv=>whnf)
    (refine tNew0 ?_;conv=>whnf)
    refine ⟨by omega,_,hrow,?_⟩
    conv=>whnf
    (refine And.intro rfl ?_;(conv=>whnf);refine And.intro (And.intro (And.intro (by kernel_rfl) (And.intro (Nat.le_refl _) (And.intro (b1) (And.intro (b2) (by intro r hr;rw [List.mem_singleton.1 hr];rfl))))) (And.intro (by decide) rfl)) ?_;conv=>whnf)
    refine ⟨i+1,[(1000,784)],⟨by omega,by omega⟩,?_⟩
    rw [hsucc]
    conv=>whnf
    (refine wkx ?_;refine ⟨?_,?_,?_⟩<;>(conv=>whnf)<;>repeat' first | exact wkc | (with_reducible refine And.intro ?_ ?_)<;>first | exact wks | refine wko ?_ | refine wki ?_ | refine wkb ?_ | (refine zan ?_;conv=>whnf) | (refine zah ?_;conv=>whnf) | (refine zag ?_;conv=>whnf) | conv=>whnf)
    all_goals first | exact w1 (by omega) | (refine zaz (by kernel_rfl) ?_;rw [List.take_of_length_le (Nat.le_refl _)];done) | (refine zaz (by kernel_rfl) ?_;rw [List.take_of_length_le (Nat.le_refl _)];rfl) | exact List.length_append.symm | rfl | trace_state
  ·have en:r.next.at v.toNat=r.next.a2:=by rw [e];rfl
   rw [en] at hnx hfr
   rw [e]
   by_cases hle:r.next.a2≤r.hard.base
   ·rw [if_pos hle] at hfr
    rw [hfr] at hsucc
    have kf:=kfS _ hle
    conv=>whnf
    ((try (refine Exists.intro none ?_;conv=>whnf));(with_reducible refine zaa (kf) ?_);conv=>whnf)
    (refine tNew0 ?_;conv=>whnf)
    refine ⟨by omega,_,hrow,?_⟩
    conv=>whnf
    (refine And.intro rfl ?_;(conv=>whnf);refine And.intro (And.intro (And.intro (by kernel_rfl) (And.intro (Nat.le_refl _) (And.intro (b1) (And.intro (b2) (by intro r hr;rw [List.mem_singleton.1 hr];rfl))))) (And.intro (by decide) rfl)) ?_;conv=>whnf)
    refine ⟨i+1,[(1000,784)],⟨by omega,by omega⟩,?_⟩
    rw [hsucc]
    conv=>whnf
    (refine wkx ?_;refine ⟨?_,?_,?_⟩<;>(conv=>whnf)<;>repeat' first | exact wkc | (with_reducible refine And.intro ?_ ?_)<;>first | exact wks | refine wko ?_ | refine wki ?_ | refine wkb ?_ | (refine zan ?_;conv=>whnf) | (refine zah ?_;conv=>whnf) | (refine zag ?_;conv=>whnf) | conv=>whnf)
    all_goals first | exact w1 (by omega) | (refine zaz (by kernel_rfl) ?_;rw [List.take_of_length_le (Nat.le_refl _)];done) | (refine zaz (by kernel_rfl) ?_;rw [List.take_of_length_le (Nat.le_refl _)];rfl) | exact List.length_append.symm | rfl | trace_state
   ·rw [if_neg hle] at hfr
    rw [hfr] at hsucc
    have kf:=kfA r.next.a2 (by omega) hnx
    conv=>whnf
    ((try (refine Exists.intro none ?_;conv=>whnf));(with_reducible refine zaa (kf) ?_);conv=>whnf)
    (refine tNew0 ?_;conv=>whnf)
    refine ⟨by omega,_,hrow,?_⟩
    conv=>whnf
    (refine And.intro rfl ?_;(conv=>whnf);refine And.intro (And.intro (And.intro (by kernel_rfl) (And.intro (Nat.le_refl _) (And.intro (b1) (And.intro (b2) (by intro r hr;rw [List.mem_singleton.1 hr];rfl))))) (And.intro (by decide) rfl)) ?_;conv=>whnf)
    refine ⟨i+1,[(1000,784)],⟨by omega,by omega⟩,?_⟩
    rw [hsucc]
    conv=>whnf
    (refine wkx ?_;refine ⟨?_,?_,?_⟩<;>(conv=>whnf)<;>repeat' first | exact wkc | (with_reducible refine And.intro ?_ ?_)<;>first | exact wks | refine wko ?_ | refine wki ?_ | refine wkb ?_ | (refine zan ?_;conv=>whnf) | (refine zah ?_;conv=>whnf) | (refine zag ?_;conv=>whnf) | conv=>whnf)
    all_goals first | exact w1 (by omega) | (refine zaz (by kernel_rfl) ?_;rw [List.take_of_length_le (Nat.le_refl _)];done) | (refine zaz (by kernel_rfl) ?_;rw [List.take_of_length_le (Nat.le_refl _)];rfl) | exact List.length_append.symm | rfl | trace_state
  ·have en:r.next.at v.toNat=r.next.a3:=by rw [e];rfl
   rw [en] at hnx hfr
   rw [e]
   by_cases hle:r.next.a3≤r.hard.base
   ·rw [if_pos hle] at hfr
    rw [hfr] at hsucc
    have kf:=kfS _ hle
    conv=>whnf
    ((try (refine Exists.intro none ?_;conv=>whnf));(with_reducible refine zaa (kf) ?_);conv=>whnf)
    (refine tNew0 ?_;conv=>whnf)
    refine ⟨by omega,_,hrow,?_⟩
    conv=>whnf
    (refine And.intro rfl ?_;(conv=>whnf);refine And.intro (And.intro (And.intro (by kernel_rfl) (And.intro (Nat.le_refl _) (And.intro (b1) (And.intro (b2) (by intro r hr;rw [List.mem_singleton.1 hr];rfl))))) (And.intro (by decide) rfl)) ?_;conv=>whnf)
    refine ⟨i+1,[(1000,784)],⟨by omega,by omega⟩,?_⟩
    rw [hsucc]
    conv=>whnf
    (refine wkx ?_;refine ⟨?_,?_,?_⟩<;>(conv=>whnf)<;>repeat' first | exact wkc | (with_reducible refine And.intro ?_ ?_)<;>first | exact wks | refine wko ?_ | refine wki ?_ | refine wkb ?_ | (refine zan ?_;conv=>whnf) | (refine zah ?_;conv=>whnf) | (refine zag ?_;conv=>whnf) | conv=>whnf)
    all_goals first | exact w1 (by omega) | (refine zaz (by kernel_rfl) ?_;rw [List.take_of_length_le (Nat.le_refl _)];done) | (refine zaz (by kernel_rfl) ?_;rw [List.take_of_length_le (Nat.le_refl _)];rfl) | exact List.length_append.symm | rfl | trace_state
   ·rw [if_neg hle] at hfr
    rw [hfr] at hsucc
    have kf:=kfA r.next.a3 (by omega) hnx
    conv=>whnf
    ((try (refine Exists.intro none ?_;conv=>whnf));(with_reducible refine zaa (kf) ?_);conv=>whnf)
    (refine tNew0 ?_;conv=>whnf)
    refine ⟨by omega,_,hrow,?_⟩
    conv=>whnf
    (refine And.intro rfl ?_;(conv=>whnf);refine And.intro (And.intro (And.intro (by kernel_rfl) (And.intro (Nat.le_refl _) (And.intro (b1) (And.intro (b2) (by intro r hr;rw [List.mem_singleton.1 hr];rfl))))) (And.intro (by decide) rfl)) ?_;conv=>whnf)
    refine ⟨i+1,[(1000,784)],⟨by omega,by omega⟩,?_⟩
    rw [hsucc]
    conv=>whnf
    (refine wkx ?_;refine ⟨?_,?_,?_⟩<;>(conv=>whnf)<;>repeat' first | exact wkc | (with_reducible refine And.intro ?_ ?_)<;>first | exact wks | refine wko ?_ | refine wki ?_ | refine wkb ?_ | (refine zan ?_;conv=>whnf) | (refine zah ?_;conv=>whnf) | (refine zag ?_;conv=>whnf) | conv=>whnf)
    all_goals first | exact w1 (by omega) | (refine zaz (by kernel_rfl) ?_;rw [List.take_of_length_le (Nat.le_refl _)];done) | (refine zaz (by kernel_rfl) ?_;rw [List.take_of_length_le (Nat.le_refl _)];rfl) | exact List.length_append.symm | rfl | trace_state
  ·have en:r.next.at v.toNat=r.next.a4:=by rw [e];rfl
   rw [en] at hnx hfr
   rw [e]
   by_cases hle:r.next.a4≤r.hard.base
   ·rw [if_pos hle] at hfr
    rw [hfr] at hsucc
    have kf:=kfS _ hle
    conv=>whnf
    ((try (refine Exists.intro none ?_;conv=>whnf));(with_reducible refine zaa (kf) ?_);conv=>whnf)
    (refine tNew0 ?_;conv=>whnf)
    refine ⟨by omega,_,hrow,?_⟩
    conv=>whnf
    (refine And.intro rfl ?_;(conv=>whnf);refine And.intro (And.intro (And.intro (by kernel_rfl) (And.intro (Nat.le_refl _) (And.intro (b1) (And.intro (b2) (by intro r hr;rw [List.mem_singleton.1 hr];rfl))))) (And.intro (by decide) rfl)) ?_;conv=>whnf)
    refine ⟨i+1,[(1000,784)],⟨by omega,by omega⟩,?_⟩
    rw [hsucc]
    conv=>whnf
    (refine wkx ?_;refine ⟨?_,?_,?_⟩<;>(conv=>whnf)<;>repeat' first | exact wkc | (with_reducible refine And.intro ?_ ?_)<;>first | exact wks | refine wko ?_ | refine wki ?_ | refine wkb ?_ | (refine zan ?_;conv=>whnf) | (refine zah ?_;conv=>whnf) | (refine zag ?_;conv=>whnf) | conv=>whnf)
    all_goals first | exact w1 (by omega) | (refine zaz (by kernel_rfl) ?_;rw [List.take_of_length_le (Nat.le_refl _)];done) | (refine zaz (by kernel_rfl) ?_;rw [List.take_of_length_le (Nat.le_refl _)];rfl) | exact List.length_append.symm | rfl | trace_state
   ·rw [if_neg hle] at hfr
    rw [hfr] at hsucc
    have kf:=kfA r.next.a4 (by omega) hnx
    conv=>whnf
    ((try (refine Exists.intro none ?_;conv=>whnf));(with_reducible refine zaa (kf) ?_);conv=>whnf)
    (refine tNew0 ?_;conv=>whnf)
    refine ⟨by omega,_,hrow,?_⟩
    conv=>whnf
    (refine And.intro rfl ?_;(conv=>whnf);refine And.intro (And.intro (And.intro (by kernel_rfl) (And.intro (Nat.le_refl _) (And.intro (b1) (And.intro (b2) (by intro r hr;rw [List.mem_singleton.1 hr];rfl))))) (And.intro (by decide) rfl)) ?_;conv=>whnf)
    refine ⟨i+1,[(1000,784)],⟨by omega,by omega⟩,?_⟩
    rw [hsucc]
    conv=>whnf
    (refine wkx ?_;refine ⟨?_,?_,?_⟩<;>(conv=>whnf)<;>repeat' first | exact wkc | (with_reducible refine And.intro ?_ ?_)<;>first | exact wks | refine wko ?_ | refine wki ?_ | refine wkb ?_ | (refine zan ?_;conv=>whnf) | (refine zah ?_;conv=>whnf) | (refine zag ?_;conv=>whnf) | conv=>whnf)
    all_goals first | exact w1 (by omega) | (refine zaz (by kernel_rfl) ?_;rw [List.take_of_length_le (Nat.le_refl _)];done) | (refine zaz (by kernel_rfl) ?_;rw [List.take_of_length_le (Nat.le_refl _)];rfl) | exact List.length_append.symm | rfl | trace_state
  ·have en:r.next.at v.toNat=r.next.a5:=by rw [e];rfl
   rw [en] at hnx hfr
   rw [e]
   by_cases hle:r.next.a5≤r.hard.base
   ·rw [if_pos hle] at hfr
    rw [hfr] at hsucc
    have kf:=kfS _ hle
    conv=>whnf
    ((try (refine Exists.intro none ?_;conv=>whnf));(with_reducible refine zaa (kf) ?_);conv=>whnf)
    (refine tNew0 ?_;conv=>whnf)
    refine ⟨by omega,_,hrow,?_⟩
    conv=>whnf
    (refine And.intro rfl ?_;(conv=>whnf);refine And.intro (And.intro (And.intro (by kernel_rfl) (And.intro (Nat.le_refl _) (And.intro (b1) (And.intro (b2) (by intro r hr;rw [List.mem_singleton.1 hr];rfl))))) (And.intro (by decide) rfl)) ?_;conv=>whnf)
    refine ⟨i+1,[(1000,784)],⟨by omega,by omega⟩,?_⟩
    rw [hsucc]
    conv=>whnf
    (refine wkx ?_;refine ⟨?_,?_,?_⟩<;>(conv=>whnf)<;>repeat' first | exact wkc | (with_reducible refine And.intro ?_ ?_)<;>first | exact wks | refine wko ?_ | refine wki ?_ | refine wkb ?_ | (refine zan ?_;conv=>whnf) | (refine zah ?_;conv=>whnf) | (refine zag ?_;conv=>whnf) | conv=>whnf)
    all_goals first | exact w1 (by omega) | (refine zaz (by kernel_rfl) ?_;rw [List.take_of_length_le (Nat.le_refl _)];done) | (refine zaz (by kernel_rfl) ?_;rw [List.take_of_length_le (Nat.le_refl _)];rfl) | exact List.length_append.symm | rfl | trace_state
   ·rw [if_neg hle] at hfr
    rw [hfr] at hsucc
    have kf:=kfA r.next.a5 (by omega) hnx
    conv=>whnf
    ((try (refine Exists.intro none ?_;conv=>whnf));(with_reducible refine zaa (kf) ?_);conv=>whnf)
    (refine tNew0 ?_;conv=>whnf)
    refine ⟨by omega,_,hrow,?_⟩
    conv=>whnf
    (refine And.intro rfl ?_;(conv=>whnf);refine And.intro (And.intro (And.intro (by kernel_rfl) (And.intro (Nat.le_refl _) (And.intro (b1) (And.intro (b2) (by intro r hr;rw [List.mem_singleton.1 hr];rfl))))) (And.intro (by decide) rfl)) ?_;conv=>whnf)
    refine ⟨i+1,[(1000,784)],⟨by omega,by omega⟩,?_⟩
    rw [hsucc]
    conv=>whnf
    (refine wkx ?_;refine ⟨?_,?_,?_⟩<;>(conv=>whnf)<;>repeat' first | exact wkc | (with_reducible refine And.intro ?_ ?_)<;>first | exact wks | refine wko ?_ | refine wki ?_ | refine wkb ?_ | (refine zan ?_;conv=>whnf) | (refine zah ?_;conv=>whnf) | (refine zag ?_;conv=>whnf) | conv=>whnf)
    all_goals first | exact w1 (by omega) | (refine zaz (by kernel_rfl) ?_;rw [List.take_of_length_le (Nat.le_refl _)];done) | (refine zaz (by kernel_rfl) ?_;rw [List.take_of_length_le (Nat.le_refl _)];rfl) | exact List.length_append.symm | rfl | trace_state
  ·have en:r.next.at v.toNat=r.next.a6:=by rw [e];rfl
   rw [en] at hnx hfr
   rw [e]
   by_cases hle:r.next.a6≤r.hard.base
   ·rw [if_pos hle] at hfr
    rw [hfr] at hsucc
    have kf:=kfS _ hle
    conv=>whnf
    ((try (refine Exists.intro none ?_;conv=>whnf));(with_reducible refine zaa (kf) ?_);conv=>whnf)
    (refine tNew0 ?_;conv=>whnf)
    refine ⟨by omega,_,hrow,?_⟩
    conv=>whnf
    (refine And.intro rfl ?_;(conv=>whnf);refine And.intro (And.intro (And.intro (by kernel_rfl) (And.intro (Nat.le_refl _) (And.intro (b1) (And.intro (b2) (by intro r hr;rw [List.mem_singleton.1 hr];rfl))))) (And.intro (by decide) rfl)) ?_;conv=>whnf)
    refine ⟨i+1,[(1000,784)],⟨by omega,by omega⟩,?_⟩
    rw [hsucc]
    conv=>whnf
    (refine wkx ?_;refine ⟨?_,?_,?_⟩<;>(conv=>whnf)<;>repeat' first | exact wkc | (with_reducible refine And.intro ?_ ?_)<;>first | exact wks | refine wko ?_ | refine wki ?_ | refine wkb ?_ | (refine zan ?_;conv=>whnf) | (refine zah ?_;conv=>whnf) | (refine zag ?_;conv=>whnf) | conv=>whnf)
    all_goals first | exact w1 (by omega) | (refine zaz (by kernel_rfl) ?_;rw [List.take_of_length_le (Nat.le_refl _)];done) | (refine zaz (by kernel_rfl) ?_;rw [List.take_of_length_le (Nat.le_refl _)];rfl) | exact List.length_append.symm | rfl | trace_state
   ·rw [if_neg hle] at hfr
    rw [hfr] at hsucc
    have kf:=kfA r.next.a6 (by omega) hnx
    conv=>whnf
    ((try (refine Exists.intro none ?_;conv=>whnf));(with_reducible refine zaa (kf) ?_);conv=>whnf)
    (refine tNew0 ?_;conv=>whnf)
    refine ⟨by omega,_,hrow,?_⟩
    conv=>whnf
    (refine And.intro rfl ?_;(conv=>whnf);refine And.intro (And.intro (And.intro (by kernel_rfl) (And.intro (Nat.le_refl _) (And.intro (b1) (And.intro (b2) (by intro r hr;rw [List.mem_singleton.1 hr];rfl))))) (And.intro (by decide) rfl)) ?_;conv=>whnf)
    refine ⟨i+1,[(1000,784)],⟨by omega,by omega⟩,?_⟩
    rw [hsucc]
    conv=>whnf
    (refine wkx ?_;refine ⟨?_,?_,?_⟩<;>(conv=>whnf)<;>repeat' first | exact wkc | (with_reducible refine And.intro ?_ ?_)<;>first | exact wks | refine wko ?_ | refine wki ?_ | refine wkb ?_ | (refine zan ?_;conv=>whnf) | (refine zah ?_;conv=>whnf) | (refine zag ?_;conv=>whnf) | conv=>whnf)
    all_goals first | exact w1 (by omega) | (refine zaz (by kernel_rfl) ?_;rw [List.take_of_length_le (Nat.le_refl _)];done) | (refine zaz (by kernel_rfl) ?_;rw [List.take_of_length_le (Nat.le_refl _)];rfl) | exact List.length_append.symm | rfl | trace_state
 ·have ei:i=vs.length:=by omega
  subst ei
  rw [List.take_length]
  exact zbd [(0,1000)] rfl ⟨rfl,True.intro⟩ (zbj rfl rfl rfl)
theorem c_zsend (r:Rft) (hok:SendOk r):Ctr Tryz.prog 156 [.ag r.enc] (.sl 16 ((allL r).map (zba r))) []:=Ctr.frz (zqz r hok) (zbw (b:=false) (List.Mem.head _) rfl)
abbrev encK (x:Rft) (rd:PV):List PV:=[iv x.id,iv x.hard.term,iv x.hard.vote,iv x.hard.base,iv x.hard.baseTerm,iv x.hard.baseConf.full,iv x.hard.baseConf.wit,iv x.hard.baseConf.learn,iv x.hard.baseConf.lwit,.sl 1 (x.hard.snap.map encB),.sl 16 (x.hard.log.map Ent.enc),iv x.commit,iv x.role,iv x.lead,iv x.wait,iv x.quiet,iv x.votes,iv x.round,iv x.next.a0,iv x.next.a1,iv x.next.a2,iv x.next.a3,iv x.next.a4,iv x.next.a5,iv x.next.a6,iv x.mtch.a0,iv x.mtch.a1,iv x.mtch.a2,iv x.mtch.a3,iv x.mtch.a4,iv x.mtch.a5,iv x.mtch.a6,iv x.silent.a0,iv x.silent.a1,iv x.silent.a2,iv x.silent.a3,iv x.silent.a4,iv x.silent.a5,iv x.silent.a6,rd]
set_option maxHeartbeats 8000000 in
theorem c_zadd (r : Rft) (hid : 0 ≤ r.id ∧ r.id < 7) (hm : r.hard.log.length ≤ 4294967) (x : Ent) :
    CtrE Tryz.prog 160 [.pt 1000000 0,.ag x.enc] [(1000000,encK r .nl)] [] (iv (lastI (logR r x))) [(1000000,encK (radR r x) .nl)] []:=by
 have hmap:(logR r x).log.map Ent.enc=r.hard.log.map Ent.enc++[x.enc]:=by rw [List.map_append];rfl
 have hlen:(logR r x).log.length=r.hard.log.length+1:=by rw [List.length_append];rfl
 have kt:=zcu r.hard.log (by omega)
 have kl:=zb0 (logR r x) (zak (by omega))
 have b1:((r.hard.log.map Ent.enc).length+1) * 152≤140737488355328:=by rw [List.length_map];omega
 have b2:(r.hard.log.map Ent.enc).length+1≤maxLen:=zak (by rw [List.length_map];omega)
 unfold radR
 generalize hh:logR r x=H at *
 have e1:H.term=r.hard.term:=by rw [← hh]
 have e2:H.vote=r.hard.vote:=by rw [← hh]
 have e3:H.base=r.hard.base:=by rw [← hh]
 have e4:H.baseTerm=r.hard.baseTerm:=by rw [← hh]
 have e5:H.baseConf=r.hard.baseConf:=by rw [← hh]
 have e6:H.snap=r.hard.snap:=by rw [← hh]
 refine zbe mixed Tryz.func160 rfl (by kernel_rfl) (by kernel_rfl) ?_
 refine tSeq ?_
 conv=>whnf
 refine tCut (fun _:Unit=>True) (fun _=>[]) (fun _=>[(1000000,repV { r with hard:=H } (.sl 1 (H.snap.map encB)) (lgW { r with hard:=H } 2000) .nl .bad |>.dropLast),(3,x.enc)]) (fun _=>[(2000,lgO { r with hard:=H })]) ?_ ?_
 ·conv=>whnf
  ((try (refine Exists.intro none ?_;conv=>whnf));(with_reducible refine zaa (kt) ?_);conv=>whnf)
  (refine Exists.intro _ (And.intro rfl (And.intro (by intro q hq;first | (cases hq;done) | (simp only [List.mem_cons,List.not_mem_nil,or_false] at hq;rcases hq with rfl | rfl<;>(simp only [List.length_cons,List.length_nil];omega)) | (simp only [List.mem_cons,List.not_mem_nil,or_false] at hq;subst hq;simp only [List.length_cons,List.length_nil];omega)) (And.intro (by intro i hi;simp only [List.length_cons,List.length_nil,Nat.lt_one_iff,Nat.zero_add] at hi;subst hi;rfl) ?_)));conv=>whnf)
  (refine And.intro rfl ?_;(conv=>whnf);refine And.intro (And.intro (And.intro (by kernel_rfl) (And.intro (Nat.le_refl _) (And.intro (b1) (And.intro (b2) (by intro r hr;rw [List.mem_singleton.1 hr];rfl))))) (And.intro (by decide) rfl)) ?_;conv=>whnf)
  refine ⟨(),[(2000,256)],trivial,?_⟩
  conv=>whnf
  (refine wkx ?_;refine ⟨?_,?_,?_⟩<;>(conv=>whnf)<;>repeat' first | exact wkc | (with_reducible refine And.intro ?_ ?_)<;>first | exact wks | refine wko ?_ | refine wki ?_ | refine wkb ?_ | (refine zan ?_;conv=>whnf) | (refine zah ?_;conv=>whnf) | (refine zag ?_;conv=>whnf) | conv=>whnf)
  all_goals first | rfl | (rw [e1];done) | (rw [e2];done) | (rw [e3];done) | (rw [e4];done) | (rw [e5];done) | (rw [e6];done) | exact .inl (by rw [e6]) | (rw [hmap];done) | (rw [hmap];exact List.length_append.symm) | (refine zaz (by kernel_rfl) ?_;rw [hmap,List.take_of_length_le (Nat.le_refl _)];done) | (refine zaz (by kernel_rfl) ?_;rw [hmap,List.take_of_length_le (Nat.le_refl _)];rfl) | trace_state
 rintro _ _
 refine pwS ?_
 conv=>whnf
 ((try (refine Exists.intro none ?_;conv=>whnf));refine tOwn0 ?_;conv=>whnf)
 ((try ((refine Exists.intro none ?_);(conv=>whnf)));first | (refine zai (kl) (by simp only [List.drop_zero,List.take_length]) ?_;conv=>whnf))
 refine ⟨⟨hid.1,hid.2⟩,?_⟩
 rcases zcm hid with e | e | e | e | e | e | e
 ·rw [e]
  conv=>whnf
  (refine zad 1000000 10 2000 _ _ rfl rfl rfl rfl ?_;refine zae [] [] ?_;(conv=>whnf);exact wkD)
 ·rw [e]
  conv=>whnf
  (refine zad 1000000 10 2000 _ _ rfl rfl rfl rfl ?_;refine zae [] [] ?_;(conv=>whnf);exact wkD)
 ·rw [e]
  conv=>whnf
  (refine zad 1000000 10 2000 _ _ rfl rfl rfl rfl ?_;refine zae [] [] ?_;(conv=>whnf);exact wkD)
 ·rw [e]
  conv=>whnf
  (refine zad 1000000 10 2000 _ _ rfl rfl rfl rfl ?_;refine zae [] [] ?_;(conv=>whnf);exact wkD)
 ·rw [e]
  conv=>whnf
  (refine zad 1000000 10 2000 _ _ rfl rfl rfl rfl ?_;refine zae [] [] ?_;(conv=>whnf);exact wkD)
 ·rw [e]
  conv=>whnf
  (refine zad 1000000 10 2000 _ _ rfl rfl rfl rfl ?_;refine zae [] [] ?_;(conv=>whnf);exact wkD)
 ·rw [e]
  conv=>whnf
  (refine zad 1000000 10 2000 _ _ rfl rfl rfl rfl ?_;refine zae [] [] ?_;(conv=>whnf);exact wkD)
set_option maxHeartbeats 8000000 in
theorem zwl (r : Rft) (hid : 0 ≤ r.id ∧ r.id < 7) (hm : r.hard.log.length < 4294967) (hsn : r.hard.snap.length ≤ 4294967296) (hb : 0 ≤ r.hard.base ∧ r.hard.base ≤ 1099511627776) (hr : 0 ≤ r.round ∧ r.round ≤ 1099511627776) :
    CtrE Tryz.prog 94 [.pt 1000000 0] [(1000000,r.enc)] [] (.sl 16 ((allL (leadR r)).map (zba (leadR r)))) [(1000000,(leadR r).enc)] []:=by
 have ka:=c_zadd (led0 r) hid (by show r.hard.log.length≤_;omega) (et r.hard.term)
 have hlen:(logR r (et r.hard.term)).log.length=r.hard.log.length+1:=by rw [List.length_append];rfl
 have hlast:lastI (logR r (et r.hard.term))=r.hard.base+r.hard.log.length+1:=by
  rw [zbk (h:=logR r (et r.hard.term)) hb.1 (by show r.hard.base+((logR r (et r.hard.term)).log.length:Int) < _;omega)]
  show r.hard.base+((logR r (et r.hard.term)).log.length:Int)=_
  omega
 have kc:=zg9 (logR r (et r.hard.term)) (zak (by omega)) hb.1 (by show r.hard.base+((logR r (et r.hard.term)).log.length:Int) < _;omega) r.commit (zA.put r.id.toNat (lastI (logR r (et r.hard.term))))
 have ks:=c_zsend (leadR r) ⟨by rw [zma,List.length_append];show r.hard.log.length+1≤_;omega,hsn,hb,fun i hi=>by
  have:(leadR r).next.at i=lastI (logR r (et r.hard.term)):=by
   rcases (by omega:i=0∨i=1∨i=2∨i=3∨i=4∨i=5∨i=6) with rfl | rfl | rfl | rfl | rfl | rfl | rfl<;>rfl
  rw [this,hlast];unfold isI;omega⟩
 have ks2:Ctr Tryz.prog 156 [.ag (encK (leadR r) .nl)] (.sl 16 ((allL (leadR r)).map (zba (leadR r)))) []:=ks.deep (by (repeat' (first | exact zav | exact zau | refine zar ?_ ?_ | refine zaq ?_ ?_ | exact SubV.refl _ | exact za2 | (with_reducible exact za7 rfl) | refine za6 ?_ | refine za8 ?_ | refine za5 ?_)))
 have ew:IntKind.i64.wrap (r.round+1)=r.round+1:=zal (by omega) (by omega)
 refine za1 Tryz.func94 ?_;conv=>whnf
 rw [ew]
 conv=>whnf
 ((refine Exists.intro (some ([(1000000,1000000)],[],[])) ?_);(conv=>whnf);refine zax (ka) (by kernel_rfl) (by kernel_rfl) (by kernel_rfl) ?_;conv=>whnf)
 refine zcd mixed (by kernel_rfl) 8 ?_
 conv=>whnf
 refine ⟨⟨by decide,by decide⟩,?_⟩
 conv=>whnf
 refine ⟨⟨by decide,by decide⟩,?_⟩
 conv=>whnf
 refine ⟨⟨by decide,by decide⟩,?_⟩
 conv=>whnf
 refine ⟨⟨by decide,by decide⟩,?_⟩
 conv=>whnf
 refine ⟨⟨by decide,by decide⟩,?_⟩
 conv=>whnf
 refine ⟨⟨by decide,by decide⟩,?_⟩
 conv=>whnf
 refine ⟨⟨by decide,by decide⟩,?_⟩
 conv=>whnf
 ((try ((refine Exists.intro none ?_);(conv=>whnf)));refine zai (kc) (by kernel_rfl) ?_;conv=>whnf)
 ((try ((refine Exists.intro none ?_);(conv=>whnf)));refine zai (ks2) (by kernel_rfl) ?_;conv=>whnf)
 (refine tNew0 ?_;conv=>whnf)
 (refine zae [] [] ?_;(conv=>whnf);exact wkD)
set_option maxHeartbeats 8000000 in
theorem zg8 (r:Rft) (hf:Fit r):CtrE Tryz.prog 80 [.pt 1000000 0] [(1000000,r.enc)] [] (.sl 16 (zgv r)) [(1000000,(ze3 r).enc)] []:=by
 have hm:r.hard.log.length≤maxLen:=zak (by have:=hf.log;omega)
 have hid:=hf.id
 have kf:=zck r hm r.hard.term (-1)
 have kc:=zb7 (std0 r) hm
 have kd:=zio (zac (std0 r)) r.id
 have kw:=zjw (stdR r) hm
 have kl:=zwl (stdR r) hf.id hf.log hf.snap hf.base hf.round
 have ka:=c_zask (stdR r) hm 3 (r.hard.term+1)
 unfold ze3 zgv
 have hT:=hf.term
 have eu:IntKind.u64.wrap r.id=r.id:=zb4 (by omega) (by omega)
 refine za1 Tryz.func80 ?_;conv=>whnf
 (refine tSp (fun h=>?_) (fun h=>?_)<;>conv=>whnf)
 ·have h:r.hard.term=1099511627776:=h
  rw [if_pos h,if_pos h]
  ((refine Exists.intro (some ([(1000000,1000000)],[],[])) ?_);(conv=>whnf);first | ((with_reducible refine zam (kf) ?_);conv=>whnf))
  (refine zae [] [] ?_;(conv=>whnf);exact wkD)
 ·have h:¬ r.hard.term=1099511627776:=h
  rw [if_neg h,if_neg h]
  have ew:IntKind.i64.wrap (r.hard.term+1)=r.hard.term+1:=zal (by omega) (by omega)
  rw [ew]
  conv=>whnf
  refine ⟨⟨by decide,by rw [eu];exact hid.1⟩,?_⟩
  rw [eu]
  conv=>whnf
  ((try ((refine Exists.intro none ?_);(conv=>whnf)));refine zai (kc) (by kernel_rfl) ?_;conv=>whnf)
  ((try (refine Exists.intro none ?_;conv=>whnf));(with_reducible refine zaa (kd) ?_);conv=>whnf)
  cases hq:zbb (zac (stdR r)) (shl 1 r.id) with
  | true =>
   rw [if_pos rfl,if_pos rfl]
   rw [show zbb (zac (stdR r)) (stdR r).votes=true from hq] at kw
   ((try ((refine Exists.intro none ?_);(conv=>whnf)));refine zai (kw) (by kernel_rfl) ?_;conv=>whnf)
   ((refine Exists.intro (some ([(1000000,1000000)],[],[])) ?_);(conv=>whnf);refine zax (kl) (by kernel_rfl) (by kernel_rfl) (by kernel_rfl) ?_;conv=>whnf)
   (refine zae [] [] ?_;(conv=>whnf);exact wkD)
  | false =>
   rw [if_neg (show ¬ false=true by decide),if_neg (show ¬ false=true by decide)]
   rw [show zbb (zac (stdR r)) (stdR r).votes=false from hq] at kw
   ((try ((refine Exists.intro none ?_);(conv=>whnf)));refine zai (kw) (by kernel_rfl) ?_;conv=>whnf)
   ((try ((refine Exists.intro none ?_);(conv=>whnf)));refine zai (ka) (by kernel_rfl) ?_;conv=>whnf)
   (refine tNew0 ?_;conv=>whnf)
   (refine zae [] [] ?_;(conv=>whnf);exact wkD)
set_option maxHeartbeats 8000000 in
theorem c_zTick (r:Rft) (hf:Fit r) (hn:r.role ≠ 3):Ctr Tryz.prog 33 [.ag r.enc] (.tu [.ag (tickR r).enc,.sl 16 (tickO r)]) []:=by
 have hm:r.hard.log.length≤maxLen:=zak (by have:=hf.log;omega)
 have hid:=hf.id
 have kt:=zao r hf.small
 have kv:=zin (tq r) hm
 have kc:=zb7 (ta r) hm
 have kd:=zio (zac (ta r)) r.id
 have kw:=zjw (taR r) hm
 have hq1:0≤farM (r.quiet+1)∧farM (r.quiet+1)≤1099511627776:=by have:=hf.quiet;unfold farM;split<;>omega
 have kst:=zg8 (taR r) { id:=hf.id,log:=hf.log,snap:=hf.snap,base:=hf.base,term:=hf.term,round:=hf.round,quiet:=hq1,wait:=by have:=zdo (zac (ta r)) hf.id;show 0≤delay (zac (ta r)) r.id∧delay (zac (ta r)) r.id≤1099511627776;omega,next:=hf.next,silent:=hf.silent,reads:=hf.reads }
 have kca:=c_zask (taR r) hm 1 (r.hard.term+1)
 have hT:=hf.term
 have hQ:=hf.quiet
 have hW:=hf.wait
 have eu:IntKind.u64.wrap r.id=r.id:=zb4 (by omega) (by omega)
 have ew1:IntKind.i64.wrap (r.quiet+1)=r.quiet+1:=zal (by omega) (by omega)
 have ew2:IntKind.i64.wrap (r.wait - 1)=r.wait - 1:=zal (by omega) (by omega)
 have ew3:IntKind.i64.wrap (r.hard.term+1)=r.hard.term+1:=zal (by omega) (by omega)
 unfold tickR tickO
 refine sBody Tryz.func33 ?_;conv=>whnf
 ((try (refine Exists.intro none ?_;conv=>whnf));(with_reducible refine zaa (kt) ?_);conv=>whnf)
 (refine tNew0 ?_;conv=>whnf)
 (refine tSp (fun h=>?_) (fun h=>?_)<;>conv=>whnf)
 ·exact absurd h hn
 clear h
 rw [ew1]
 conv=>whnf
 cases hv:zcf r with
 | false =>
  rw [if_pos rfl,if_pos rfl]
  rw [show bitB (bor (zac (tq r)).full (zac (tq r)).wit) (tq r).id=false from hv] at kv
  ((try ((refine Exists.intro none ?_);(conv=>whnf)));refine zai (kv) (by kernel_rfl) ?_;conv=>whnf)
  exact zat [] (by intro q hq;cases hq) (zah ⟨zag (by (conv=>whnf);repeat' (first | exact rfl | ((with_reducible refine And.intro ?_ ?_)<;>(first | (with_reducible exact zaj _ rfl) | (conv=>whnf))))),(by (conv=>whnf);exact .inr (.inl ⟨rfl,rfl⟩)),rfl⟩)
 | true =>
  rw [if_neg (show ¬ true=false by decide),if_neg (show ¬ true=false by decide)]
  rw [show bitB (bor (zac (tq r)).full (zac (tq r)).wit) (tq r).id=true from hv] at kv
  ((try ((refine Exists.intro none ?_);(conv=>whnf)));refine zai (kv) (by kernel_rfl) ?_;conv=>whnf)
  rw [ew2]
  conv=>whnf
  (refine tSp (fun h=>?_) (fun h=>?_)<;>conv=>whnf)
  ·have h:0 < zeroM (r.wait - 1):=h
   rw [if_pos h,if_pos h]
   exact zat [] (by intro q hq;cases hq) (zah ⟨zag (by (conv=>whnf);repeat' (first | exact rfl | ((with_reducible refine And.intro ?_ ?_)<;>(first | (with_reducible exact zaj _ rfl) | (conv=>whnf))))),(by (conv=>whnf);exact .inr (.inl ⟨rfl,rfl⟩)),rfl⟩)
  ·have h:¬ 0 < zeroM (r.wait - 1):=h
   rw [if_neg h,if_neg h]
   refine ⟨⟨by decide,by rw [eu];exact hid.1⟩,?_⟩
   rw [eu]
   conv=>whnf
   ((try ((refine Exists.intro none ?_);(conv=>whnf)));refine zai (kc) (by kernel_rfl) ?_;conv=>whnf)
   ((try (refine Exists.intro none ?_;conv=>whnf));(with_reducible refine zaa (kd) ?_);conv=>whnf)
   cases hq:zbb (zac (taR r)) (shl 1 r.id) with
   | true =>
    rw [if_pos rfl,if_pos rfl]
    rw [show zbb (zac (taR r)) (taR r).votes=true from hq] at kw
    ((try ((refine Exists.intro none ?_);(conv=>whnf)));refine zai (kw) (by kernel_rfl) ?_;conv=>whnf)
    ((refine Exists.intro (some ([(1000000,1)],[],[])) ?_);(conv=>whnf);refine zax (kst) (by kernel_rfl) (by kernel_rfl) (by kernel_rfl) ?_;conv=>whnf)
    exact zat [] (by intro q hq;cases hq) (zah ⟨zag (by (conv=>whnf);repeat' (first | exact rfl | ((with_reducible refine And.intro ?_ ?_)<;>(first | (with_reducible exact zaj _ rfl) | (conv=>whnf))))),zaj _ rfl,rfl⟩)
   | false =>
    rw [if_neg (show ¬ false=true by decide),if_neg (show ¬ false=true by decide)]
    rw [show zbb (zac (taR r)) (taR r).votes=false from hq] at kw
    ((try ((refine Exists.intro none ?_);(conv=>whnf)));refine zai (kw) (by kernel_rfl) ?_;conv=>whnf)
    (refine tSp (fun h=>?_) (fun h=>?_)<;>conv=>whnf)
    ·have h:r.hard.term=1099511627776:=h
     rw [if_neg (show ¬ r.hard.term < 1099511627776 by omega)]
     exact zat [] (by intro q hq;cases hq) (zah ⟨zag (by (conv=>whnf);repeat' (first | exact rfl | ((with_reducible refine And.intro ?_ ?_)<;>(first | (with_reducible exact zaj _ rfl) | (conv=>whnf))))),(by (conv=>whnf);exact .inr (.inl ⟨rfl,rfl⟩)),rfl⟩)
    ·have h:¬ r.hard.term=1099511627776:=h
     rw [if_pos (show r.hard.term < 1099511627776 by omega)]
     rw [ew3]
     conv=>whnf
     ((try ((refine Exists.intro none ?_);(conv=>whnf)));refine zai (kca) (by kernel_rfl) ?_;conv=>whnf)
     (refine tNew0 ?_;conv=>whnf)
     exact zat [] (by intro q hq;cases hq) (zah ⟨zag (by (conv=>whnf);repeat' (first | exact rfl | ((with_reducible refine And.intro ?_ ?_)<;>(first | (with_reducible exact zaj _ rfl) | (conv=>whnf))))),zaj _ rfl,rfl⟩)
theorem zju (r:Rft) (m:Mg) (k:Int):Ctr Tryz.prog 90 [.ag r.enc,.ag m.enc,iv k] (.ag (msgV k r.id m.frm r.hard.term 0 0 0 0 false .nl cz .nl)) []:=by
 refine sBody Tryz.func90 ?_;conv=>whnf
 exact zab rfl rfl
theorem c_zNew (id:Int) (a:Hrd) (h1:a.snap.length≤4294967296) (h2:a.log.length≤4294967296):Ctr Tryz.prog 30 [iv id,.ag a.enc] (.ag (newR id a).enc) []:=by
 have kt:=ze0 a h1 h2
 have kc:=zb7 (rNew0 id a) (zak h2)
 have kd:=zio (zac (rNew0 id a)) id
 refine sBody Tryz.func30 ?_;conv=>whnf
 ((try (refine Exists.intro none ?_;conv=>whnf));(with_reducible refine zaa (kt) ?_);conv=>whnf)
 (refine tNew0 ?_;conv=>whnf)
 ((try ((refine Exists.intro none ?_);(conv=>whnf)));refine zaw (kc) (by (repeat' (first | exact zav | exact zau | refine zar ?_ ?_ | refine zaq ?_ ?_ | exact SubV.refl _ | exact za2 | (with_reducible exact za7 rfl) | refine za6 ?_ | refine za8 ?_ | refine za5 ?_))) ?_;conv=>whnf)
 ((try (refine Exists.intro none ?_;conv=>whnf));(with_reducible refine zaa (kd) ?_);conv=>whnf)
 refine zat [] (by intro q hq;cases hq) (zag ?_)
 conv=>whnf
 repeat' (first | exact rfl | ((with_reducible refine And.intro ?_ ?_)<;>(first | (with_reducible exact zaj _ rfl) | exact .inr (.inl ⟨rfl,rfl⟩) | (conv=>whnf))))
theorem c_zlate (r:Rft) (m:Mg):Ctr Tryz.prog 92 [.ag r.enc,.ag m.enc] (.sl 16 (zh8 r m)) []:=by
 have k4:=zju r m 4
 have k6:=zju r m 6
 unfold zh8
 refine sBody Tryz.func92 ?_;conv=>whnf
 (refine tSp (fun h=>?_) (fun h=>?_)<;>conv=>whnf)
 ·have h:m.kind=3:=h
  rw [if_pos h]
  ((try (refine Exists.intro none ?_;conv=>whnf));(with_reducible refine zaa (k4) ?_);conv=>whnf)
  exact zat [] (by intro q hq;cases hq) (by (conv=>whnf);exact .inl (by kernel_rfl))
 ·have h:¬ m.kind=3:=h
  rw [if_neg h]
  (refine tSp (fun h=>?_) (fun h=>?_)<;>conv=>whnf)
  ·have h5:m.kind=5:=h
   rw [if_pos (.inl h5)]
   (first | refine tYes ?_ | refine tNo ?_)
   conv=>whnf
   ((try (refine Exists.intro none ?_;conv=>whnf));(with_reducible refine zaa (k6) ?_);conv=>whnf)
   exact zat [] (by intro q hq;cases hq) (by (conv=>whnf);exact .inl (by kernel_rfl))
  ·have h5:¬ m.kind=5:=h
   clear h
   (refine tSp (fun h=>?_) (fun h=>?_)<;>conv=>whnf)
   ·have h7:m.kind=7:=h
    rw [if_pos (.inr h7)]
    ((try (refine Exists.intro none ?_;conv=>whnf));(with_reducible refine zaa (k6) ?_);conv=>whnf)
    exact zat [] (by intro q hq;cases hq) (by (conv=>whnf);exact .inl (by kernel_rfl))
   ·have h7:¬ m.kind=7:=h
    rw [if_neg (by rintro (h | h);exact h5 h;exact h7 h)]
    exact zat [] (by intro q hq;cases hq) (by (conv=>whnf);exact .inr (.inl ⟨rfl,rfl⟩))
set_option maxHeartbeats 16000000 in
theorem zmw (r : Rft) (hf : Fit r) (hro : r.role = 3) (m : Mg) (hfr : 0 ≤ m.frm ∧ m.frm < 7) (hi : 0 ≤ m.index ∧ m.index ≤ 1099511627776)
    (hmt:∀ i,i < 7→0≤r.mtch.at i∧r.mtch.at i≤lastI r.hard) :
    CtrE Tryz.prog 96 [.pt 1000000 0,.ag m.enc] [(1000000,r.enc)] [] (.tu []) [(1000000,(zcj r m).enc)] []:=by
 have hb:=hf.base
 have hl0:=hf.log
 have hm:r.hard.log.length≤maxLen:=zak (by omega)
 have hla:lastI r.hard=r.hard.base+r.hard.log.length:=zbk hb.1 (by omega)
 have kl:=zb0 r.hard hm
 have hn:=hf.next
 have hix:-1152921504606846976≤lrnI r m∧lrnI r m≤1152921504606846976:=by unfold lrnI;split<;>omega
 have kn:=fun (nx mt:Int) h1 h2=>c_rNext nx mt { m with index:=lrnI r m } h1 h2 hix
 have kk:Ctr Tryz.prog 165 [.sl 13 (r.reads.map Rd.enc),iv m.frm,iv m.round] (.sl 13 ((r.reads.map (ack1 m.frm m.round)).map Rd.enc)) [] :=
  Ctr.frz (c_rAck r.reads (by have:=hf.reads;omega) m.frm m.round) (zbw (b:=false) (List.Mem.head _) rfl)
 have kc:=fun a:Arr=>zg9 r.hard hm hb.1 (by omega) r.commit a
 unfold zcj
 rw [if_pos hro]
 unfold lrnNx lrnMt
 refine za1 Tryz.func96 ?_;conv=>whnf
 ((try (refine Exists.intro none ?_;conv=>whnf));(with_reducible refine zaa (kl) ?_);conv=>whnf)
 refine ⟨⟨hfr.1,hfr.2⟩,?_⟩
 have hnx:=hn m.frm.toNat (by omega)
 have hmx:=hmt m.frm.toNat (by omega)
 rcases zcm hfr with e | e | e | e | e | e | e
 ·have kn:=kn r.next.a0 r.mtch.a0 (by rw [e] at hnx;have hnx:0≤r.next.a0∧r.next.a0≤1099511627776:=hnx;omega) (by rw [e] at hmx;have hmx:0≤r.mtch.a0∧r.mtch.a0≤lastI r.hard:=hmx;omega)
  rw [e]
  conv=>whnf
  refine ⟨⟨hfr.1,hfr.2⟩,?_⟩
  rw [e]
  conv=>whnf
  refine ⟨⟨hfr.1,hfr.2⟩,?_⟩
  rw [e]
  conv=>whnf
  ((try ((refine Exists.intro none ?_);(conv=>whnf)));refine zai (kn) (by kernel_rfl) ?_;conv=>whnf)
  refine ⟨⟨hfr.1,hfr.2⟩,?_⟩
  rw [e]
  conv=>whnf
  refine ⟨⟨hfr.1,hfr.2⟩,?_⟩
  rw [e]
  conv=>whnf
  ((try (refine Exists.intro none ?_;conv=>whnf));(with_reducible refine zaa (kk) ?_);conv=>whnf)
  (refine tNew0 ?_;conv=>whnf)
  ((try ((refine Exists.intro none ?_);(conv=>whnf)));refine zai (kc ⟨nxM r.mtch.a0 m.yes (lrnI r m),r.mtch.a1,r.mtch.a2,r.mtch.a3,r.mtch.a4,r.mtch.a5,r.mtch.a6⟩) (by kernel_rfl) ?_;conv=>whnf)
  (refine zae [] [] ?_;(conv=>whnf);exact wkD)
 ·have kn:=kn r.next.a1 r.mtch.a1 (by rw [e] at hnx;have hnx:0≤r.next.a1∧r.next.a1≤1099511627776:=hnx;omega) (by rw [e] at hmx;have hmx:0≤r.mtch.a1∧r.mtch.a1≤lastI r.hard:=hmx;omega)
  rw [e]
  conv=>whnf
  refine ⟨⟨hfr.1,hfr.2⟩,?_⟩
  rw [e]
  conv=>whnf
  refine ⟨⟨hfr.1,hfr.2⟩,?_⟩
  rw [e]
  conv=>whnf
  ((try ((refine Exists.intro none ?_);(conv=>whnf)));refine zai (kn) (by kernel_rfl) ?_;conv=>whnf)
  refine ⟨⟨hfr.1,hfr.2⟩,?_⟩
  rw [e]
  conv=>whnf
  refine ⟨⟨hfr.1,hfr.2⟩,?_⟩
  rw [e]
  conv=>whnf
  ((try (refine Exists.intro none ?_;conv=>whnf));(with_reducible refine zaa (kk) ?_);conv=>whnf)
  (refine tNew0 ?_;conv=>whnf)
  ((try ((refine Exists.intro none ?_);(conv=>whnf)));refine zai (kc ⟨r.mtch.a0,nxM r.mtch.a1 m.yes (lrnI r m),r.mtch.a2,r.mtch.a3,r.mtch.a4,r.mtch.a5,r.mtch.a6⟩) (by kernel_rfl) ?_;conv=>whnf)
  (refine zae [] [] ?_;(conv=>whnf);exact wkD)
 ·have kn:=kn r.next.a2 r.mtch.a2 (by rw [e] at hnx;have hnx:0≤r.next.a2∧r.next.a2≤1099511627776:=hnx;omega) (by rw [e] at hmx;have hmx:0≤r.mtch.a2∧r.mtch.a2≤lastI r.hard:=hmx;omega)
  rw [e]
  conv=>whnf
  refine ⟨⟨hfr.1,hfr.2⟩,?_⟩
  rw [e]
  conv=>whnf
  refine ⟨⟨hfr.1,hfr.2⟩,?_⟩
  rw [e]
  conv=>whnf
  ((try ((refine Exists.intro none ?_);(conv=>whnf)));refine zai (kn) (by kernel_rfl) ?_;conv=>whnf)
  refine ⟨⟨hfr.1,hfr.2⟩,?_⟩
  rw [e]
  conv=>whnf
  refine ⟨⟨hfr.1,hfr.2⟩,?_⟩
  rw [e]
  conv=>whnf
  ((try (refine Exists.intro none ?_;conv=>whnf));(with_reducible refine zaa (kk) ?_);conv=>whnf)
  (refine tNew0 ?_;conv=>whnf)
  ((try ((refine Exists.intro none ?_);(conv=>whnf)));refine zai (kc ⟨r.mtch.a0,r.mtch.a1,nxM r.mtch.a2 m.yes (lrnI r m),r.mtch.a3,r.mtch.a4,r.mtch.a5,r.mtch.a6⟩) (by kernel_rfl) ?_;conv=>whnf)
  (refine zae [] [] ?_;(conv=>whnf);exact wkD)
 ·have kn:=kn r.next.a3 r.mtch.a3 (by rw [e] at hnx;have hnx:0≤r.next.a3∧r.next.a3≤1099511627776:=hnx;omega) (by rw [e] at hmx;have hmx:0≤r.mtch.a3∧r.mtch.a3≤lastI r.hard:=hmx;omega)
  rw [e]
  conv=>whnf
  refine ⟨⟨hfr.1,hfr.2⟩,?_⟩
  rw [e]
  conv=>whnf
  refine ⟨⟨hfr.1,hfr.2⟩,?_⟩
  rw [e]
  conv=>whnf
  ((try ((refine Exists.intro none ?_);(conv=>whnf)));refine zai (kn) (by kernel_rfl) ?_;conv=>whnf)
  refine ⟨⟨hfr.1,hfr.2⟩,?_⟩
  rw [e]
  conv=>whnf
  refine ⟨⟨hfr.1,hfr.2⟩,?_⟩
  rw [e]
  conv=>whnf
  ((try (refine Exists.intro none ?_;conv=>whnf));(with_reducible refine zaa (kk) ?_);conv=>whnf)
  (refine tNew0 ?_;conv=>whnf)
  ((try ((refine Exists.intro none ?_);(conv=>whnf)));refine zai (kc ⟨r.mtch.a0,r.mtch.a1,r.mtch.a2,nxM r.mtch.a3 m.yes (lrnI r m),r.mtch.a4,r.mtch.a5,r.mtch.a6⟩) (by kernel_rfl) ?_;conv=>whnf)
  (refine zae [] [] ?_;(conv=>whnf);exact wkD)
 ·have kn:=kn r.next.a4 r.mtch.a4 (by rw [e] at hnx;have hnx:0≤r.next.a4∧r.next.a4≤1099511627776:=hnx;omega) (by rw [e] at hmx;have hmx:0≤r.mtch.a4∧r.mtch.a4≤lastI r.hard:=hmx;omega)
  rw [e]
  conv=>whnf
  refine ⟨⟨hfr.1,hfr.2⟩,?_⟩
  rw [e]
  conv=>whnf
  refine ⟨⟨hfr.1,hfr.2⟩,?_⟩
  rw [e]
  conv=>whnf
  ((try ((refine Exists.intro none ?_);(conv=>whnf)));refine zai (kn) (by kernel_rfl) ?_;conv=>whnf)
  refine ⟨⟨hfr.1,hfr.2⟩,?_⟩
  rw [e]
  conv=>whnf
  refine ⟨⟨hfr.1,hfr.2⟩,?_⟩
  rw [e]
  conv=>whnf
  ((try (refine Exists.intro none ?_;conv=>whnf));(with_reducible refine zaa (kk) ?_);conv=>whnf)
  (refine tNew0 ?_;conv=>whnf)
  ((try ((refine Exists.intro none ?_);(conv=>whnf)));refine zai (kc ⟨r.mtch.a0,r.mtch.a1,r.mtch.a2,r.mtch.a3,nxM r.mtch.a4 m.yes (lrnI r m),r.mtch.a5,r.mtch.a6⟩) (by kernel_rfl) ?_;conv=>whnf)
  (refine zae [] [] ?_;(conv=>whnf);exact wkD)
 ·have kn:=kn r.next.a5 r.mtch.a5 (by rw [e] at hnx;have hnx:0≤r.next.a5∧r.next.a5≤1099511627776:=hnx;omega) (by rw [e] at hmx;have hmx:0≤r.mtch.a5∧r.mtch.a5≤lastI r.hard:=hmx;omega)
  rw [e]
  conv=>whnf
  refine ⟨⟨hfr.1,hfr.2⟩,?_⟩
  rw [e]
  conv=>whnf
  refine ⟨⟨hfr.1,hfr.2⟩,?_⟩
  rw [e]
  conv=>whnf
  ((try ((refine Exists.intro none ?_);(conv=>whnf)));refine zai (kn) (by kernel_rfl) ?_;conv=>whnf)
  refine ⟨⟨hfr.1,hfr.2⟩,?_⟩
  rw [e]
  conv=>whnf
  refine ⟨⟨hfr.1,hfr.2⟩,?_⟩
  rw [e]
  conv=>whnf
  ((try (refine Exists.intro none ?_;conv=>whnf));(with_reducible refine zaa (kk) ?_);conv=>whnf)
  (refine tNew0 ?_;conv=>whnf)
  ((try ((refine Exists.intro none ?_);(conv=>whnf)));refine zai (kc ⟨r.mtch.a0,r.mtch.a1,r.mtch.a2,r.mtch.a3,r.mtch.a4,nxM r.mtch.a5 m.yes (lrnI r m),r.mtch.a6⟩) (by kernel_rfl) ?_;conv=>whnf)
  (refine zae [] [] ?_;(conv=>whnf);exact wkD)
 ·have kn:=kn r.next.a6 r.mtch.a6 (by rw [e] at hnx;have hnx:0≤r.next.a6∧r.next.a6≤1099511627776:=hnx;omega) (by rw [e] at hmx;have hmx:0≤r.mtch.a6∧r.mtch.a6≤lastI r.hard:=hmx;omega)
  rw [e]
  conv=>whnf
  refine ⟨⟨hfr.1,hfr.2⟩,?_⟩
  rw [e]
  conv=>whnf
  refine ⟨⟨hfr.1,hfr.2⟩,?_⟩
  rw [e]
  conv=>whnf
  ((try ((refine Exists.intro none ?_);(conv=>whnf)));refine zai (kn) (by kernel_rfl) ?_;conv=>whnf)
  refine ⟨⟨hfr.1,hfr.2⟩,?_⟩
  rw [e]
  conv=>whnf
  refine ⟨⟨hfr.1,hfr.2⟩,?_⟩
  rw [e]
  conv=>whnf
  ((try (refine Exists.intro none ?_;conv=>whnf));(with_reducible refine zaa (kk) ?_);conv=>whnf)
  (refine tNew0 ?_;conv=>whnf)
  ((try ((refine Exists.intro none ?_);(conv=>whnf)));refine zai (kc ⟨r.mtch.a0,r.mtch.a1,r.mtch.a2,r.mtch.a3,r.mtch.a4,r.mtch.a5,nxM r.mtch.a6 m.yes (lrnI r m)⟩) (by kernel_rfl) ?_;conv=>whnf)
  (refine zae [] [] ?_;(conv=>whnf);exact wkD)
abbrev errM:List PV:=msgV 6 0 0 0 0 0 0 0 true .nl cz .nl
set_option maxHeartbeats 8000000 in
theorem zkd (r : Rft) (hf : Fit r) (m : Mg) (hk : m.kind = 5) (hm : m.entries.length ≤ 4294967) (hl : growE r.hard r.commit m = 0 → (growO r.hard r.commit m).h.log.length ≤ maxLen) (he : growE r.hard r.commit m = 0) :
    CtrE Tryz.prog 95 [.pt 1000000 0,.ag m.enc] [(1000000,r.enc)] [] (.tu [.ag (folM (setH r (growO r.hard r.commit m).h (growO r.hard r.commit m).c) m (growO r.hard r.commit m).i (growO r.hard r.commit m).yes),iv 0]) [(1000000,(folR (setH r (growO r.hard r.commit m).h (growO r.hard r.commit m).c) m).enc)] []:=by
 have hb:=hf.base
 have hl0:=hf.log
 have kg:=zuz r.hard hf.snap (by omega) (by unfold isI;omega) r.commit m hm
 have kf:=zck (setH r (growO r.hard r.commit m).h (growO r.hard r.commit m).c) (hl he) (growO r.hard r.commit m).h.term m.frm
 rw [(zfg he).2.2] at kg
 generalize growO r.hard r.commit m=g at *
 unfold folM
 unfold folR at *
 rw [show (setH r g.h g.c).hard.term=g.h.term from rfl]
 generalize fallR (setH r g.h g.c) g.h.term m.frm=x at *
 refine za1 Tryz.func95 ?_;conv=>whnf
 (first | refine tYes ?_ | refine tNo ?_)
 conv=>whnf
 ((try (refine Exists.intro none ?_;conv=>whnf));(with_reducible refine zaa (kg) ?_);conv=>whnf)
 (refine tNew0 ?_;conv=>whnf)
 ((refine Exists.intro (some ([(1000000,1000000)],[],[])) ?_);(conv=>whnf);refine zax (kf) (by kernel_rfl) (by kernel_rfl) (by kernel_rfl) ?_;conv=>whnf)
 (refine zae [] [] ?_;(conv=>whnf);exact wkD)
set_option maxHeartbeats 8000000 in
theorem zj9 (r : Rft) (hf : Fit r) (m : Mg) (hk : m.kind = 5) (hm : m.entries.length ≤ 4294967) (he : ¬ growE r.hard r.commit m = 0) :
    CtrE Tryz.prog 95 [.pt 1000000 0,.ag m.enc] [(1000000,r.enc)] [] (.tu [.ag errM,iv (growE r.hard r.commit m)]) [(1000000,r.enc)] []:=by
 have hb:=hf.base
 have hl0:=hf.log
 have kg:=zuz r.hard hf.snap (by omega) (by unfold isI;omega) r.commit m hm
 rw [(zc9 he).2.2] at kg
 generalize growE r.hard r.commit m=e at *
 refine za1 Tryz.func95 ?_;conv=>whnf
 (first | refine tYes ?_ | refine tNo ?_)
 conv=>whnf
 ((try (refine Exists.intro none ?_;conv=>whnf));(with_reducible refine zaa (kg) ?_);conv=>whnf)
 (refine tSp (fun h=>?_) (fun h=>?_)<;>conv=>whnf)
 ·(refine zae [] [] ?_;(conv=>whnf);exact wkD)
 ·exact absurd (by first | exact h | (simpa using h)) he
set_option maxHeartbeats 8000000 in
theorem zk8 (r : Rft) (hf : Fit r) (m : Mg) (hk : ¬ m.kind = 5) (hlt : r.commit < m.index) (hs : m.snap.length ≤ 4294967296) (hi : isI m.index) (hl : (insHH r m).log.length ≤ maxLen) (he : insEE r m = 0) :
    CtrE Tryz.prog 95 [.pt 1000000 0,.ag m.enc] [(1000000,r.enc)] [] (.tu [.ag (folM (setH r (insHH r m) m.index) m m.index true),iv 0]) [(1000000,(folR (setH r (insHH r m) m.index) m).enc)] []:=by
 have hb:=hf.base
 have hl0:=hf.log
 have kg:=zj6 r.hard (by omega) (by unfold isI;omega) m.index hi m.logTerm m.conf m.snap hs
 have kf:=zck (setH r (insHH r m) m.index) hl (insHH r m).term m.frm
 rw [(zea he).2.2] at kg
 unfold insHH at kf hl ⊢
 generalize hH:instH r.hard m.index m.logTerm m.conf m.snap=H at *
 unfold folM
 unfold folR at *
 rw [show (setH r H m.index).hard.term=H.term from rfl]
 generalize fallR (setH r H m.index) H.term m.frm=x at *
 refine za1 Tryz.func95 ?_;conv=>whnf
 (first | refine tYes ?_ | refine tNo ?_)
 conv=>whnf
 (refine tSp (fun h=>?_) (fun h=>?_)<;>conv=>whnf)
 ·exact absurd h (by omega)
 clear h
 ((try (refine Exists.intro none ?_;conv=>whnf));(with_reducible refine zaa (kg) ?_);conv=>whnf)
 (refine tNew0 ?_;conv=>whnf)
 ((refine Exists.intro (some ([(1000000,1000000)],[],[])) ?_);(conv=>whnf);refine zax (kf) (by kernel_rfl) (by kernel_rfl) (by kernel_rfl) ?_;conv=>whnf)
 (refine zae [] [] ?_;(conv=>whnf);exact wkD)
set_option maxHeartbeats 8000000 in
theorem zj4 (r : Rft) (hf : Fit r) (m : Mg) (hk : ¬ m.kind = 5) (hlt : r.commit < m.index) (hs : m.snap.length ≤ 4294967296) (hi : isI m.index) (he : ¬ insEE r m = 0) :
    CtrE Tryz.prog 95 [.pt 1000000 0,.ag m.enc] [(1000000,r.enc)] [] (.tu [.ag errM,iv (insEE r m)]) [(1000000,r.enc)] []:=by
 have hb:=hf.base
 have hl0:=hf.log
 have kg:=zj6 r.hard (by omega) (by unfold isI;omega) m.index hi m.logTerm m.conf m.snap hs
 rw [(zc0 he).2.2] at kg
 unfold insEE at he kg ⊢
 generalize instE r.hard m.index m.logTerm m.conf m.snap=e at *
 refine za1 Tryz.func95 ?_;conv=>whnf
 (first | refine tYes ?_ | refine tNo ?_)
 conv=>whnf
 (refine tSp (fun h=>?_) (fun h=>?_)<;>conv=>whnf)
 ·exact absurd h (by omega)
 clear h
 ((try (refine Exists.intro none ?_;conv=>whnf));(with_reducible refine zaa (kg) ?_);conv=>whnf)
 (refine tSp (fun h=>?_) (fun h=>?_)<;>conv=>whnf)
 ·(refine zae [] [] ?_;(conv=>whnf);exact wkD)
 ·exact absurd (by first | exact h | (simpa using h)) he
set_option maxHeartbeats 8000000 in
theorem zki (r : Rft) (hf : Fit r) (m : Mg) (hk : ¬ m.kind = 5) (hlt : ¬ r.commit < m.index) :
    CtrE Tryz.prog 95 [.pt 1000000 0,.ag m.enc] [(1000000,r.enc)] [] (.tu [.ag (folM r m r.commit true),iv 0]) [(1000000,(folR r m).enc)] []:=by
 have hl0:=hf.log
 have kf:=zck r (zak (by omega)) r.hard.term m.frm
 unfold folM
 unfold folR at *
 generalize fallR r r.hard.term m.frm=x at *
 refine za1 Tryz.func95 ?_;conv=>whnf
 (first | refine tYes ?_ | refine tNo ?_)
 conv=>whnf
 (refine tSp (fun h=>?_) (fun h=>?_)<;>conv=>whnf)
 ·clear h
  ((refine Exists.intro (some ([(1000000,1000000)],[],[])) ?_);(conv=>whnf);refine zax (kf) (by kernel_rfl) (by kernel_rfl) (by kernel_rfl) ?_;conv=>whnf)
  (refine zae [] [] ?_;(conv=>whnf);exact wkD)
 ·exact absurd (by omega) hlt
end Go.Proofs
