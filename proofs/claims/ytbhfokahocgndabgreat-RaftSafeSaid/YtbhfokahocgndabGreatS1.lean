import Derived.Test.YtbhfokahocgndabGreatPvQ3
import Derived.Test.YtbhfokahocgndabGreatH10
import Derived.Test.YtbhfokahocgndabGreatC60
import Derived.Test.YtbhfokahocgndabGreatY2
import Derived.Test.YtbhfokahocgndabGreatI8
import Derived.Test.YtbhfokahocgndabGreatQ3
import Derived.Test.YtbhfokahocgndabGreatC12
import Derived.Test.YtbhfokahocgndabGreatC48
import Derived.Test.YtbhfokahocgndabGreatC57
import Derived.Test.YtbhfokahocgndabGreatC59
import Derived.Test.YtbhfokahocgndabGreatC1
/- Contracts of functions: the page's replica falls; the others; who is asked; what is sent. -/
set_option linter.unusedSimpArgs false
set_option linter.unusedVariables false
set_option maxHeartbeats 16000000
namespace Go.Proofs
open Go.Pv
set_option maxRecDepth 100000
theorem zcq (r:Rft) (hm:r.hard.log.length≤maxLen) (term lead:Int):CtrE Tryz.prog 89 [.pt 9990 0,iv term,iv lead] [(9990,r.enc)] [] (.tu []) [(9990,(fallR r term lead).enc)] []:=by
 have kd:=zj6 (zab r) r.id
 have hc:zab (fallR r term lead)=zab r:=by
  show (force (fallR r term lead).hard (lastI (fallR r term lead).hard)).1=(force r.hard (lastI r.hard)).1
  have e1:(fallR r term lead).hard.base=r.hard.base:=by unfold fallR;split<;>rfl
  have e2:(fallR r term lead).hard.baseConf=r.hard.baseConf:=by unfold fallR;split<;>rfl
  rw [zse e1 e2 (zce r term lead),zwl e1 (zce r term lead)]
 have kc:Ctr Tryz.prog 76 [.ag ({ fallR r term lead with wait:=r.wait }:Rft).enc] (.ag (zab r).enc) []:=by rw [← hc];exact zb6 { fallR r term lead with wait:=r.wait } (by show (fallR r term lead).hard.log.length≤_;rw [zce];exact hm)
 clear hc
 unfold fallR at kc ⊢
 refine zaj Tryz.func89 ?_;conv=>whnf
 refine tS ?_ ?_<;>intro h
 ·rw [if_pos (by omega)] at kc ⊢
  refine tCD kc ?_
  refine tC kd ?_
  exact eX []
 ·rw [if_neg (by omega)] at kc ⊢
  refine tCD kc ?_
  refine tC kd ?_
  exact eX []
theorem z0i (r:Rft) (bits:Int):Ctr Tryz.prog 153 [.ag r.enc,iv bits] (.ow 0 0 ((othN r.id bits 7).map encI).length) [(1,(othN r.id bits 7).map encI)]:=by
 refine sBody Tryz.func153 ?_;conv=>whnf
 refine zfx 5 1000 1 rfl rfl ?_
 conv=>whnf
 refine tFor (fun i:Nat=>i≤7) (fun i=>[(6,iv i),(5,.ow 1000 0 ((othN r.id bits i).map encI).length)]) (fun _=>[(2,r.enc)]) (fun i=>[(1000,some (false,1,(othN r.id bits i).map encI))]) [(1000,1000)] (fun i=>7 - i) 0 (Nat.zero_le _) ?_ ?_
 ·exact wkE
 intro i hi
 have hl:=zc5 r.id bits i
 have hlm:((othN r.id bits i).map encI).length=(othN r.id bits i).length:=List.length_map ..
 refine tS ?_ ?_<;>intro h
 ·have hlt:i < 7:=by omega
  clear h
  have kh:=c_Has bits (i:Int)
  rw [zcz bits i (by omega)] at kh
  cases ht:tb bits i with
  | false =>
   rw [ht] at kh
   have hn:=zf1 (id:=r.id) (i:=i) (.inr ht)
   refine tC kh ?_
   refine ⟨i+1,[(1000,1000)],⟨by omega,by omega⟩,?_⟩
   rw [hn]
   exact wkE
  | true =>
   rw [ht] at kh
   refine tC kh ?_
   refine tS ?_ ?_<;>intro h
   ·have hne:¬ (i:Int)=r.id:=h
    clear h
    have hy:=zgq hne ht
    have hy:(othN r.id bits (i+1)).map encI=(othN r.id bits i).map encI++[encI (i:Int)]:=by rw [hy,List.map_append];rfl
    have b1:(((othN r.id bits i).map encI).length+1) * 8≤140737488355328:=by omega
    have b2:((othN r.id bits i).map encI).length+1≤maxLen:=zad (by omega)
    refine tAB b1 b2 ?_
    refine ⟨i+1,[(1000,368)],⟨by omega,by omega⟩,?_⟩
    rw [hy]
    exact wkB
   ·have he:(i:Int)=r.id:=by first | exact h | exact Classical.byContradiction h
    have hn:=zf1 (bits:=bits) (i:=i) (.inl he)
    clear h
    refine ⟨i+1,[(1000,1000)],⟨by omega,by omega⟩,?_⟩
    rw [hn]
    exact wkE
 ·have ei:i=7:=by omega
  subst ei
  exact zal [(0,1000)] rfl ⟨rfl,True.intro⟩ (zas rfl rfl rfl)
theorem zjb (r:Rft) (bits:Int):Ctr Tryz.prog 153 [.ag r.enc,iv bits] (.sl 1 ((othN r.id bits 7).map encI)) [] :=
 Ctr.frz (z0i r bits) (zba (b:=false) (List.Mem.head _) rfl)
theorem c_zask (r:Rft) (hm:r.hard.log.length≤maxLen) (kind term:Int):Ctr Tryz.prog 81 [.ag r.enc,iv kind,iv term] (.sl 16 ((votL r).map (askM r kind term))) []:=by
 refine Ctr.frz (os:=[(16,(votL r).map (askM r kind term))]) (r:=.ow 0 0 ((votL r).map (askM r kind term)).length) ?_ (zba (b:=false) (List.Mem.head _) rfl)
 have kl:=zbr r.hard hm
 have kc:=zb6 r hm
 have kv:=zk3 (zab r)
 have ko:=zjb r (bor (zab r).full (zab r).wit)
 have hlen:(votL r).length≤7:=zc5 _ _ _
 unfold votL at hlen ⊢
 generalize othN r.id (bor (zab r).full (zab r).wit) 7=vs at *
 have hvm:(vs.map encI).length=vs.length:=List.length_map ..
 refine sBody Tryz.func81 ?_;conv=>whnf
 refine tC kl ?_
 refine tC kc ?_
 refine tC kv ?_
 refine tC ko ?_
 refine tN0 ?_
 refine zfx 7 1000 16 rfl rfl ?_
 conv=>whnf
 refine tFor (fun i:Nat=>i≤vs.length) (fun i=>[(11,iv i),(7,.ow 1000 0 ((vs.take i).map (askM r kind term)).length)]) (fun _=>[(3,r.enc)]) (fun i=>[(1000,some (false,16,(vs.take i).map (askM r kind term)))]) [(1000,1000)] (fun i=>vs.length - i) 0 (Nat.zero_le _) ?_ ?_
 ·exact wkE
 intro i hi
 have hil:((vs.take i).map (askM r kind term)).length≤7:=by rw [List.length_map,List.length_take];omega
 refine tS ?_ ?_<;>intro h
 ·have hlt:i < vs.length:=by omega
  clear h
  have hsucc:(vs.take (i+1)).map (askM r kind term)=(vs.take i).map (askM r kind term)++[askM r kind term (vs[i]'hlt)]:=by
   rw [List.take_succ_eq_append_getElem hlt,List.map_append];rfl
  refine tAt (za3 hlt) ?_
  generalize vs[i]'hlt=v at *
  have b1:(((vs.take i).map (askM r kind term)).length+1) * 176≤140737488355328:=by omega
  have b2:((vs.take i).map (askM r kind term)).length+1≤maxLen:=zad (by omega)
  generalize (vs.take i).map (askM r kind term)=ot at *
  refine tAB b1 b2 ?_
  refine ⟨i+1,[(1000,672)],⟨by omega,by omega⟩,?_⟩
  rw [hsucc]
  exact wkB
 ·have ei:i=vs.length:=by omega
  subst ei
  rw [List.take_length]
  exact zal [(0,1000)] rfl ⟨rfl,True.intro⟩ (zas rfl rfl rfl)
theorem zuv (r:Rft) (hok:SendOk r):Ctr Tryz.prog 156 [.ag r.enc] (.ow 0 0 ((allL r).map (zar r)).length) [(16,(allL r).map (zar r))]:=by
 have hm:r.hard.log.length≤maxLen:=zad (by have:=hok.log;omega)
 have kc:=zb6 r hm
 have ka:=zyv (zab r)
 have ko:=zjb r (bor (bor (bor (zab r).full (zab r).wit) (zab r).learn) (zab r).lwit)
 have hlen:(allL r).length≤7:=zc5 _ _ _
 have hin:∀ v ∈ allL r,0≤v∧v < 7:=fun v hv=>zfl hv
 unfold allL at hlen hin ⊢
 have kfS:=fun (nx:Int) (h:nx≤r.hard.base)=>z2f r.hard hok.snap nx h
 have kfA:=fun (nx:Int) (h:r.hard.base < nx) (hI:isI nx)=>z3z r.hard hok.log (by have:=hok.base;unfold isI;omega) nx h hI hok.base
 generalize othN r.id (bor (bor (bor (zab r).full (zab r).wit) (zab r).learn) (zab r).lwit) 7=vs at *
 have hvm:(vs.map encI).length=vs.length:=List.length_map ..
 refine sBody Tryz.func156 ?_;conv=>whnf
 refine tC kc ?_
 refine tC ka ?_
 refine tC ko ?_
 refine tN0 ?_
 refine zfx 3 1000 16 rfl rfl ?_
 conv=>whnf
 refine tFor (fun i:Nat=>i≤vs.length) (fun i=>[(5,iv i),(3,.ow 1000 0 ((vs.take i).map (zar r)).length)]) (fun _=>[(1,r.enc)]) (fun i=>[(1000,some (false,16,(vs.take i).map (zar r)))]) [(1000,1000)] (fun i=>vs.length - i) 0 (Nat.zero_le _) ?_ ?_
 ·exact wkE
 intro i hi
 have hil:((vs.take i).map (zar r)).length≤7:=by rw [List.length_map,List.length_take];omega
 refine tS ?_ ?_<;>intro h
 ·have hlt:i < vs.length:=by omega
  clear h
  have hsucc:(vs.take (i+1)).map (zar r)=(vs.take i).map (zar r)++[zar r (vs[i]'hlt)]:=by
   rw [List.take_succ_eq_append_getElem hlt,List.map_append];rfl
  have hv:=hin _ (List.getElem_mem hlt)
  have hrow:(vs.map encI)[((i:Nat):Int).toNat]?=some (encI (vs[i]'hlt)):=za3 hlt
  generalize vs[i]'hlt=v at *
  have b1:(((vs.take i).map (zar r)).length+1) * 176≤140737488355328:=by omega
  have b2:((vs.take i).map (zar r)).length+1≤maxLen:=zad (by omega)
  generalize (vs.take i).map (zar r)=ot at *
  refine ⟨by omega,_,hrow,?_⟩
  conv=>whnf
  refine ⟨⟨hv.1,hv.2⟩,?_⟩
  have hnx:=hok.next v.toNat (by omega)
  have hfr:zar r v=if r.next.at v.toNat≤r.hard.base then msgV 7 r.id v r.hard.term r.hard.base r.hard.baseTerm r.commit r.round false .nl r.hard.baseConf (.sl 1 (r.hard.snap.map encB)) else msgV 5 r.id v r.hard.term (feedP r.hard (r.next.at v.toNat)) (zau r.hard (feedP r.hard (r.next.at v.toNat))) r.commit r.round false (.sl 16 ((feedL r.hard (r.next.at v.toNat)).map Ent.enc)) cz .nl:=rfl
  rcases zct hv with e | e | e | e | e | e | e
  ·have en:r.next.at v.toNat=r.next.a0:=by rw [e];rfl
   rw [en] at hnx hfr
   rw [e]
   by_cases hle:r.next.a0≤r.hard.base
   ·rw [if_pos hle] at hfr
    rw [hfr] at hsucc
    have kf:=kfS _ hle
    refine tC kf ?_
    refine tN0 ?_
    refine ⟨by omega,_,hrow,?_⟩
    conv=>whnf
    refine tAB b1 b2 ?_
    refine ⟨i+1,[(1000,784)],⟨by omega,by omega⟩,?_⟩
    rw [hsucc]
    exact wkB
   ·rw [if_neg hle] at hfr
    rw [hfr] at hsucc
    have kf:=kfA r.next.a0 (by omega) hnx
    refine tC kf ?_
    refine tN0 ?_
    refine ⟨by omega,_,hrow,?_⟩
    conv=>whnf
    refine tAB b1 b2 ?_
    refine ⟨i+1,[(1000,784)],⟨by omega,by omega⟩,?_⟩
    rw [hsucc]
    exact wkB
  ·have en:r.next.at v.toNat=r.next.a1:=by rw [e];rfl
   rw [en] at hnx hfr
   rw [e]
   by_cases hle:r.next.a1≤r.hard.base
   ·rw [if_pos hle] at hfr
    rw [hfr] at hsucc
    have kf:=kfS _ hle
    refine tC kf ?_
    refine tN0 ?_
    refine ⟨by omega,_,hrow,?_⟩
    conv=>whnf
    refine tAB b1 b2 ?_
    refine ⟨i+1,[(1000,784)],⟨by omega,by omega⟩,?_⟩
    rw [hsucc]
    exact wkB
   ·rw [if_neg hle] at hfr
    rw [hfr] at hsucc
    have kf:=kfA r.next.a1 (by omega) hnx
    refine tC kf ?_
    refine tN0 ?_
    refine ⟨by omega,_,hrow,?_⟩
    conv=>whnf
    refine tAB b1 b2 ?_
    refine ⟨i+1,[(1000,784)],⟨by omega,by omega⟩,?_⟩
    rw [hsucc]
    exact wkB
  ·have en:r.next.at v.toNat=r.next.a2:=by rw [e];rfl
   rw [en] at hnx hfr
   rw [e]
   by_cases hle:r.next.a2≤r.hard.base
   ·rw [if_pos hle] at hfr
    rw [hfr] at hsucc
    have kf:=kfS _ hle
    refine tC kf ?_
    refine tN0 ?_
    refine ⟨by omega,_,hrow,?_⟩
    conv=>whnf
    refine tAB b1 b2 ?_
    refine ⟨i+1,[(1000,784)],⟨by omega,by omega⟩,?_⟩
    rw [hsucc]
    exact wkB
   ·rw [if_neg hle] at hfr
    rw [hfr] at hsucc
    have kf:=kfA r.next.a2 (by omega) hnx
    refine tC kf ?_
    refine tN0 ?_
    refine ⟨by omega,_,hrow,?_⟩
    conv=>whnf
    refine tAB b1 b2 ?_
    refine ⟨i+1,[(1000,784)],⟨by omega,by omega⟩,?_⟩
    rw [hsucc]
    exact wkB
  ·have en:r.next.at v.toNat=r.next.a3:=by rw [e];rfl
   rw [en] at hnx hfr
   rw [e]
   by_cases hle:r.next.a3≤r.hard.base
   ·rw [if_pos hle] at hfr
    rw [hfr] at hsucc
    have kf:=kfS _ hle
    refine tC kf ?_
    refine tN0 ?_
    refine ⟨by omega,_,hrow,?_⟩
    conv=>whnf
    refine tAB b1 b2 ?_
    refine ⟨i+1,[(1000,784)],⟨by omega,by omega⟩,?_⟩
    rw [hsucc]
    exact wkB
   ·rw [if_neg hle] at hfr
    rw [hfr] at hsucc
    have kf:=kfA r.next.a3 (by omega) hnx
    refine tC kf ?_
    refine tN0 ?_
    refine ⟨by omega,_,hrow,?_⟩
    conv=>whnf
    refine tAB b1 b2 ?_
    refine ⟨i+1,[(1000,784)],⟨by omega,by omega⟩,?_⟩
    rw [hsucc]
    exact wkB
  ·have en:r.next.at v.toNat=r.next.a4:=by rw [e];rfl
   rw [en] at hnx hfr
   rw [e]
   by_cases hle:r.next.a4≤r.hard.base
   ·rw [if_pos hle] at hfr
    rw [hfr] at hsucc
    have kf:=kfS _ hle
    refine tC kf ?_
    refine tN0 ?_
    refine ⟨by omega,_,hrow,?_⟩
    conv=>whnf
    refine tAB b1 b2 ?_
    refine ⟨i+1,[(1000,784)],⟨by omega,by omega⟩,?_⟩
    rw [hsucc]
    exact wkB
   ·rw [if_neg hle] at hfr
    rw [hfr] at hsucc
    have kf:=kfA r.next.a4 (by omega) hnx
    refine tC kf ?_
    refine tN0 ?_
    refine ⟨by omega,_,hrow,?_⟩
    conv=>whnf
    refine tAB b1 b2 ?_
    refine ⟨i+1,[(1000,784)],⟨by omega,by omega⟩,?_⟩
    rw [hsucc]
    exact wkB
  ·have en:r.next.at v.toNat=r.next.a5:=by rw [e];rfl
   rw [en] at hnx hfr
   rw [e]
   by_cases hle:r.next.a5≤r.hard.base
   ·rw [if_pos hle] at hfr
    rw [hfr] at hsucc
    have kf:=kfS _ hle
    refine tC kf ?_
    refine tN0 ?_
    refine ⟨by omega,_,hrow,?_⟩
    conv=>whnf
    refine tAB b1 b2 ?_
    refine ⟨i+1,[(1000,784)],⟨by omega,by omega⟩,?_⟩
    rw [hsucc]
    exact wkB
   ·rw [if_neg hle] at hfr
    rw [hfr] at hsucc
    have kf:=kfA r.next.a5 (by omega) hnx
    refine tC kf ?_
    refine tN0 ?_
    refine ⟨by omega,_,hrow,?_⟩
    conv=>whnf
    refine tAB b1 b2 ?_
    refine ⟨i+1,[(1000,784)],⟨by omega,by omega⟩,?_⟩
    rw [hsucc]
    exact wkB
  ·have en:r.next.at v.toNat=r.next.a6:=by rw [e];rfl
   rw [en] at hnx hfr
   rw [e]
   by_cases hle:r.next.a6≤r.hard.base
   ·rw [if_pos hle] at hfr
    rw [hfr] at hsucc
    have kf:=kfS _ hle
    refine tC kf ?_
    refine tN0 ?_
    refine ⟨by omega,_,hrow,?_⟩
    conv=>whnf
    refine tAB b1 b2 ?_
    refine ⟨i+1,[(1000,784)],⟨by omega,by omega⟩,?_⟩
    rw [hsucc]
    exact wkB
   ·rw [if_neg hle] at hfr
    rw [hfr] at hsucc
    have kf:=kfA r.next.a6 (by omega) hnx
    refine tC kf ?_
    refine tN0 ?_
    refine ⟨by omega,_,hrow,?_⟩
    conv=>whnf
    refine tAB b1 b2 ?_
    refine ⟨i+1,[(1000,784)],⟨by omega,by omega⟩,?_⟩
    rw [hsucc]
    exact wkB
 ·have ei:i=vs.length:=by omega
  subst ei
  rw [List.take_length]
  exact zal [(0,1000)] rfl ⟨rfl,True.intro⟩ (zas rfl rfl rfl)
theorem c_zsend (r:Rft) (hok:SendOk r):Ctr Tryz.prog 156 [.ag r.enc] (.sl 16 ((allL r).map (zar r))) []:=Ctr.frz (zuv r hok) (zba (b:=false) (List.Mem.head _) rfl)
abbrev encK (x:Rft) (rd:PV):List PV:=[iv x.id,iv x.hard.term,iv x.hard.vote,iv x.hard.base,iv x.hard.baseTerm,iv x.hard.baseConf.full,iv x.hard.baseConf.wit,iv x.hard.baseConf.learn,iv x.hard.baseConf.lwit,.sl 1 (x.hard.snap.map encB),.sl 16 (x.hard.log.map Ent.enc),iv x.commit,iv x.role,iv x.lead,iv x.wait,iv x.quiet,iv x.votes,iv x.round,iv x.next.a0,iv x.next.a1,iv x.next.a2,iv x.next.a3,iv x.next.a4,iv x.next.a5,iv x.next.a6,iv x.mtch.a0,iv x.mtch.a1,iv x.mtch.a2,iv x.mtch.a3,iv x.mtch.a4,iv x.mtch.a5,iv x.mtch.a6,iv x.silent.a0,iv x.silent.a1,iv x.silent.a2,iv x.silent.a3,iv x.silent.a4,iv x.silent.a5,iv x.silent.a6,rd]
theorem c_zadd (r : Rft) (hid : 0 ≤ r.id ∧ r.id < 7) (hm : r.hard.log.length ≤ 4294967) (x : Ent) :
    CtrE Tryz.prog 160 [.pt 9990 0,.ag x.enc] [(9990,encK r .nl)] [] (iv (lastI (logR r x))) [(9990,encK (radR r x) .nl)] []:=by
 have hmap:(logR r x).log.map Ent.enc=r.hard.log.map Ent.enc++[x.enc]:=by rw [List.map_append];rfl
 have hlen:(logR r x).log.length=r.hard.log.length+1:=by rw [List.length_append];rfl
 have kt:=zch r.hard.log (by omega)
 have kl:=zbr (logR r x) (zad (by omega))
 have b1:((r.hard.log.map Ent.enc).length+1) * 152≤140737488355328:=by rw [List.length_map];omega
 have b2:(r.hard.log.map Ent.enc).length+1≤maxLen:=zad (by rw [List.length_map];omega)
 unfold radR
 generalize hh:logR r x=H at *
 have e1:H.term=r.hard.term:=by rw [← hh]
 have e2:H.vote=r.hard.vote:=by rw [← hh]
 have e3:H.base=r.hard.base:=by rw [← hh]
 have e4:H.baseTerm=r.hard.baseTerm:=by rw [← hh]
 have e5:H.baseConf=r.hard.baseConf:=by rw [← hh]
 have e6:H.snap=r.hard.snap:=by rw [← hh]
 refine zay mixed Tryz.func160 rfl (by kernel_rfl) (by kernel_rfl) ?_
 refine tQ ?_
 refine tCut (fun _:Unit=>True) (fun _=>[]) (fun _=>[(9990,repV { r with hard:=H } (.sl 1 (H.snap.map encB)) (lgW { r with hard:=H } 2000) .nl .bad |>.dropLast),(3,x.enc)]) (fun _=>[(2000,lgO { r with hard:=H })]) ?_ ?_
 ·refine tC kt ?_
  refine tN1 ?_
  refine tAB b1 b2 ?_
  refine ⟨(),[(2000,256)],trivial,?_⟩
  (refine tWK ?_;and_intros<;>try exact ⟨⟩)
  all_goals first | rfl | (rw [e1];done) | (rw [e2];done) | (rw [e3];done) | (rw [e4];done) | (rw [e5];done) | (rw [e6];done) | exact .inl (by rw [e6]) | (rw [hmap];done) | (rw [hmap];exact List.length_append.symm) | (refine zbi (by kernel_rfl) ?_;rw [hmap,List.take_of_length_le (Nat.le_refl _)];done) | (refine zbi (by kernel_rfl) ?_;rw [hmap,List.take_of_length_le (Nat.le_refl _)];rfl) | trace_state
 rintro _ _
 refine tZ ?_
 refine tO ?_
 refine tCE kl ?_
 refine ⟨⟨hid.1,hid.2⟩,?_⟩
 rcases zct hid with e | e | e | e | e | e | e
 ·rw [e]
  conv=>whnf
  (refine tV 10 2000 ?_;exact eX [])
 ·rw [e]
  conv=>whnf
  (refine tV 10 2000 ?_;exact eX [])
 ·rw [e]
  conv=>whnf
  (refine tV 10 2000 ?_;exact eX [])
 ·rw [e]
  conv=>whnf
  (refine tV 10 2000 ?_;exact eX [])
 ·rw [e]
  conv=>whnf
  (refine tV 10 2000 ?_;exact eX [])
 ·rw [e]
  conv=>whnf
  (refine tV 10 2000 ?_;exact eX [])
 ·rw [e]
  conv=>whnf
  (refine tV 10 2000 ?_;exact eX [])
theorem z1h (r : Rft) (hid : 0 ≤ r.id ∧ r.id < 7) (hm : r.hard.log.length < 4294967) (hsn : r.hard.snap.length ≤ 4294967296) (hb : 0 ≤ r.hard.base ∧ r.hard.base ≤ 1099511627776) (hr : 0 ≤ r.round ∧ r.round ≤ 1099511627776) :
    CtrE Tryz.prog 94 [.pt 9990 0] [(9990,r.enc)] [] (.sl 16 ((allL (leadR r)).map (zar (leadR r)))) [(9990,(leadR r).enc)] []:=by
 have ka:=c_zadd (led0 r) hid (by show r.hard.log.length≤_;omega) (et r.hard.term)
 have hlen:(logR r (et r.hard.term)).log.length=r.hard.log.length+1:=by rw [List.length_append];rfl
 have hlast:lastI (logR r (et r.hard.term))=r.hard.base+r.hard.log.length+1:=by
  rw [zax (h:=logR r (et r.hard.term)) hb.1 (by show r.hard.base+((logR r (et r.hard.term)).log.length:Int) < _;omega)]
  show r.hard.base+((logR r (et r.hard.term)).log.length:Int)=_
  omega
 have kc:=zio (logR r (et r.hard.term)) (zad (by omega)) hb.1 (by show r.hard.base+((logR r (et r.hard.term)).log.length:Int) < _;omega) r.commit (zA.put r.id.toNat (lastI (logR r (et r.hard.term))))
 have ks:=c_zsend (leadR r) ⟨by rw [zoz,List.length_append];show r.hard.log.length+1≤_;omega,hsn,hb,fun i hi=>by
  have:(leadR r).next.at i=lastI (logR r (et r.hard.term)):=by
   rcases (by omega:i=0∨i=1∨i=2∨i=3∨i=4∨i=5∨i=6) with rfl | rfl | rfl | rfl | rfl | rfl | rfl<;>rfl
  rw [this,hlast];unfold isI;omega⟩
 have ks2:Ctr Tryz.prog 156 [.ag (encK (leadR r) .nl)] (.sl 16 ((allL (leadR r)).map (zar (leadR r)))) []:=ks.deep (by (repeat' (first | exact zb1 | exact zb5 | refine zbo ?_ ?_ | refine zbn ?_ ?_ | exact SubV.refl _ | exact zcl | (with_reducible exact zdk rfl) | refine zdd ?_ | refine zdf ?_ | refine zde ?_)))
 have ew:IntKind.i64.wrap (r.round+1)=r.round+1:=zaf (by omega) (by omega)
 refine zaj Tryz.func94 ?_;conv=>whnf
 rw [ew]
 conv=>whnf
 refine tER ([(9990,9990)],[],[]) ka ?_
 refine zby mixed (by kernel_rfl) 8 ?_
 conv=>whnf
 refine tK2 ?_
 refine tK2 ?_
 refine tK2 ?_
 refine tK2 ?_
 refine tK2 ?_
 refine tK2 ?_
 refine tK2 ?_
 refine tCR kc ?_
 refine tCR ks2 ?_
 refine tN0 ?_
 exact eX []
theorem zhy (r:Rft) (hf:Fit r):CtrE Tryz.prog 80 [.pt 9990 0] [(9990,r.enc)] [] (.sl 16 (zf6 r)) [(9990,(ze2 r).enc)] []:=by
 have hm:r.hard.log.length≤maxLen:=zad (by have:=hf.log;omega)
 have hid:=hf.id
 have kf:=zcq r hm r.hard.term (-1)
 have kc:=zb6 (std0 r) hm
 have kd:=zj6 (zab (std0 r)) r.id
 have kw:=zkw (stdR r) hm
 have kl:=z1h (stdR r) hf.id hf.log hf.snap hf.base hf.round
 have ka:=c_zask (stdR r) hm 3 (r.hard.term+1)
 unfold ze2 zf6
 have hT:=hf.term
 have eu:IntKind.u64.wrap r.id=r.id:=zbz (by omega) (by omega)
 refine zaj Tryz.func80 ?_;conv=>whnf
 refine tS ?_ ?_<;>intro h
 ·have h:r.hard.term=1099511627776:=h
  rw [if_pos h,if_pos h]
  refine tE ([(9990,9990)],[],[]) kf ?_
  exact eX []
 ·have h:¬ r.hard.term=1099511627776:=h
  rw [if_neg h,if_neg h]
  have ew:IntKind.i64.wrap (r.hard.term+1)=r.hard.term+1:=zaf (by omega) (by omega)
  rw [ew]
  conv=>whnf
  refine ⟨⟨by decide,by rw [eu];exact hid.1⟩,?_⟩
  rw [eu]
  refine tCR kc ?_
  refine tC kd ?_
  cases hq:zak (zab (stdR r)) (shl 1 r.id) with
  | true =>
   rw [if_pos rfl,if_pos rfl]
   rw [show zak (zab (stdR r)) (stdR r).votes=true from hq] at kw
   refine tCR kw ?_
   refine tER ([(9990,9990)],[],[]) kl ?_
   exact eX []
  | false =>
   rw [if_neg (show ¬ false=true by decide),if_neg (show ¬ false=true by decide)]
   rw [show zak (zab (stdR r)) (stdR r).votes=false from hq] at kw
   refine tCR kw ?_
   refine tCR ka ?_
   refine tN0 ?_
   exact eX []
theorem c_zTick (r:Rft) (hf:Fit r) (hn:r.role ≠ 3):Ctr Tryz.prog 33 [.ag r.enc] (.tu [.ag (tickR r).enc,.sl 16 (tickO r)]) []:=by
 have hm:r.hard.log.length≤maxLen:=zad (by have:=hf.log;omega)
 have hid:=hf.id
 have kt:=za4 r hf.small
 have kv:=zj1 (tq r) hm
 have kc:=zb6 (ta r) hm
 have kd:=zj6 (zab (ta r)) r.id
 have kw:=zkw (taR r) hm
 have hq1:0≤farM (r.quiet+1)∧farM (r.quiet+1)≤1099511627776:=by have:=hf.quiet;unfold farM;split<;>omega
 have kst:=zhy (taR r) { id:=hf.id,log:=hf.log,snap:=hf.snap,base:=hf.base,term:=hf.term,round:=hf.round,quiet:=hq1,wait:=by have:=zd6 (zab (ta r)) hf.id;show 0≤delay (zab (ta r)) r.id∧delay (zab (ta r)) r.id≤1099511627776;omega,next:=hf.next,silent:=hf.silent,reads:=hf.reads }
 have kca:=c_zask (taR r) hm 1 (r.hard.term+1)
 have hT:=hf.term
 have hQ:=hf.quiet
 have hW:=hf.wait
 have eu:IntKind.u64.wrap r.id=r.id:=zbz (by omega) (by omega)
 have ew1:IntKind.i64.wrap (r.quiet+1)=r.quiet+1:=zaf (by omega) (by omega)
 have ew2:IntKind.i64.wrap (r.wait - 1)=r.wait - 1:=zaf (by omega) (by omega)
 have ew3:IntKind.i64.wrap (r.hard.term+1)=r.hard.term+1:=zaf (by omega) (by omega)
 unfold tickR tickO
 refine sBody Tryz.func33 ?_;conv=>whnf
 refine tC kt ?_
 refine tN0 ?_
 refine tS ?_ ?_<;>intro h
 ·exact absurd h hn
 clear h
 rw [ew1]
 conv=>whnf
 cases hv:zbx r with
 | false =>
  rw [if_pos rfl,if_pos rfl]
  rw [show bitB (bor (zab (tq r)).full (zab (tq r)).wit) (tq r).id=false from hv] at kv
  refine tCR kv ?_
  exact za7 [] (by intro q hq;cases hq) (zat ⟨zao (by (conv=>whnf);repeat' (first | exact rfl | ((with_reducible refine And.intro ?_ ?_)<;>(first | (with_reducible exact zae _ rfl) | (conv=>whnf))))),(by (conv=>whnf);exact .inr (.inl ⟨rfl,rfl⟩)),rfl⟩)
 | true =>
  rw [if_neg (show ¬ true=false by decide),if_neg (show ¬ true=false by decide)]
  rw [show bitB (bor (zab (tq r)).full (zab (tq r)).wit) (tq r).id=true from hv] at kv
  refine tCR kv ?_
  rw [ew2]
  refine tS ?_ ?_<;>intro h
  ·have h:0 < zeroM (r.wait - 1):=h
   rw [if_pos h,if_pos h]
   exact za7 [] (by intro q hq;cases hq) (zat ⟨zao (by (conv=>whnf);repeat' (first | exact rfl | ((with_reducible refine And.intro ?_ ?_)<;>(first | (with_reducible exact zae _ rfl) | (conv=>whnf))))),(by (conv=>whnf);exact .inr (.inl ⟨rfl,rfl⟩)),rfl⟩)
  ·have h:¬ 0 < zeroM (r.wait - 1):=h
   rw [if_neg h,if_neg h]
   refine ⟨⟨by decide,by rw [eu];exact hid.1⟩,?_⟩
   rw [eu]
   refine tCR kc ?_
   refine tC kd ?_
   cases hq:zak (zab (taR r)) (shl 1 r.id) with
   | true =>
    rw [if_pos rfl,if_pos rfl]
    rw [show zak (zab (taR r)) (taR r).votes=true from hq] at kw
    refine tCR kw ?_
    refine tER ([(9990,1)],[],[]) kst ?_
    exact za7 [] (by intro q hq;cases hq) (zat ⟨zao (by (conv=>whnf);repeat' (first | exact rfl | ((with_reducible refine And.intro ?_ ?_)<;>(first | (with_reducible exact zae _ rfl) | (conv=>whnf))))),zae _ rfl,rfl⟩)
   | false =>
    rw [if_neg (show ¬ false=true by decide),if_neg (show ¬ false=true by decide)]
    rw [show zak (zab (taR r)) (taR r).votes=false from hq] at kw
    refine tCR kw ?_
    refine tS ?_ ?_<;>intro h
    ·have h:r.hard.term=1099511627776:=h
     rw [if_neg (show ¬ r.hard.term < 1099511627776 by omega)]
     exact za7 [] (by intro q hq;cases hq) (zat ⟨zao (by (conv=>whnf);repeat' (first | exact rfl | ((with_reducible refine And.intro ?_ ?_)<;>(first | (with_reducible exact zae _ rfl) | (conv=>whnf))))),(by (conv=>whnf);exact .inr (.inl ⟨rfl,rfl⟩)),rfl⟩)
    ·have h:¬ r.hard.term=1099511627776:=h
     rw [if_pos (show r.hard.term < 1099511627776 by omega)]
     rw [ew3]
     refine tCR kca ?_
     refine tN0 ?_
     exact za7 [] (by intro q hq;cases hq) (zat ⟨zao (by (conv=>whnf);repeat' (first | exact rfl | ((with_reducible refine And.intro ?_ ?_)<;>(first | (with_reducible exact zae _ rfl) | (conv=>whnf))))),zae _ rfl,rfl⟩)
theorem zka (r:Rft) (m:Mg) (k:Int):Ctr Tryz.prog 90 [.ag r.enc,.ag m.enc,iv k] (.ag (msgV k r.id m.frm r.hard.term 0 0 0 0 false .nl cz .nl)) []:=by
 refine sBody Tryz.func90 ?_;conv=>whnf
 exact zaa rfl rfl
theorem c_zNew (id:Int) (a:Hrd) (h1:a.snap.length≤4294967296) (h2:a.log.length≤4294967296):Ctr Tryz.prog 30 [iv id,.ag a.enc] (.ag (newR id a).enc) []:=by
 have kt:=zft a h1 h2
 have kc:=zb6 (rNew0 id a) (zad h2)
 have kd:=zj6 (zab (rNew0 id a)) id
 refine sBody Tryz.func30 ?_;conv=>whnf
 refine tC kt ?_
 refine tN0 ?_
 refine tCD kc ?_
 refine tC kd ?_
 refine za7 [] (by intro q hq;cases hq) (zao ?_)
 conv=>whnf
 repeat' (first | exact rfl | ((with_reducible refine And.intro ?_ ?_)<;>(first | (with_reducible exact zae _ rfl) | exact .inr (.inl ⟨rfl,rfl⟩) | (conv=>whnf))))
theorem c_zlate (r:Rft) (m:Mg):Ctr Tryz.prog 92 [.ag r.enc,.ag m.enc] (.sl 16 (zhb r m)) []:=by
 have k4:=zka r m 4
 have k6:=zka r m 6
 unfold zhb
 refine sBody Tryz.func92 ?_;conv=>whnf
 refine tS ?_ ?_<;>intro h
 ·have h:m.kind=3:=h
  rw [if_pos h]
  refine tC k4 ?_
  exact za7 [] (by intro q hq;cases hq) (by (conv=>whnf);exact .inl (by kernel_rfl))
 ·have h:¬ m.kind=3:=h
  rw [if_neg h]
  refine tS ?_ ?_<;>intro h
  ·have h5:m.kind=5:=h
   rw [if_pos (.inl h5)]
   refine tK ?_
   refine tC k6 ?_
   exact za7 [] (by intro q hq;cases hq) (by (conv=>whnf);exact .inl (by kernel_rfl))
  ·have h5:¬ m.kind=5:=h
   clear h
   refine tS ?_ ?_<;>intro h
   ·have h7:m.kind=7:=h
    rw [if_pos (.inr h7)]
    refine tC k6 ?_
    exact za7 [] (by intro q hq;cases hq) (by (conv=>whnf);exact .inl (by kernel_rfl))
   ·have h7:¬ m.kind=7:=h
    rw [if_neg (by rintro (h | h);exact h5 h;exact h7 h)]
    exact za7 [] (by intro q hq;cases hq) (by (conv=>whnf);exact .inr (.inl ⟨rfl,rfl⟩))
theorem zo5 (r : Rft) (hf : Fit r) (hro : r.role = 3) (m : Mg) (hfr : 0 ≤ m.frm ∧ m.frm < 7) (hi : 0 ≤ m.index ∧ m.index ≤ 1099511627776)
    (hmt:∀ i,i < 7→0≤r.mtch.at i∧r.mtch.at i≤lastI r.hard) :
    CtrE Tryz.prog 96 [.pt 9990 0,.ag m.enc] [(9990,r.enc)] [] (.tu []) [(9990,(zb8 r m).enc)] []:=by
 have hb:=hf.base
 have hl0:=hf.log
 have hm:r.hard.log.length≤maxLen:=zad (by omega)
 have hla:lastI r.hard=r.hard.base+r.hard.log.length:=zax hb.1 (by omega)
 have kl:=zbr r.hard hm
 have hn:=hf.next
 have hix:-1152921504606846976≤lrnI r m∧lrnI r m≤1152921504606846976:=by unfold lrnI;split<;>omega
 have kn:=fun (nx mt:Int) h1 h2=>c_rNext nx mt { m with index:=lrnI r m } h1 h2 hix
 have kk:Ctr Tryz.prog 165 [.sl 13 (r.reads.map Rd.enc),iv m.frm,iv m.round] (.sl 13 ((r.reads.map (ack1 m.frm m.round)).map Rd.enc)) [] :=
  Ctr.frz (c_rAck r.reads (by have:=hf.reads;omega) m.frm m.round) (zba (b:=false) (List.Mem.head _) rfl)
 have kc:=fun a:Arr=>zio r.hard hm hb.1 (by omega) r.commit a
 unfold zb8
 rw [if_pos hro]
 unfold lrnNx lrnMt
 refine zaj Tryz.func96 ?_;conv=>whnf
 refine tC kl ?_
 refine ⟨⟨hfr.1,hfr.2⟩,?_⟩
 have hnx:=hn m.frm.toNat (by omega)
 have hmx:=hmt m.frm.toNat (by omega)
 rcases zct hfr with e | e | e | e | e | e | e
 ·have kn:=kn r.next.a0 r.mtch.a0 (by rw [e] at hnx;have hnx:0≤r.next.a0∧r.next.a0≤1099511627776:=hnx;omega) (by rw [e] at hmx;have hmx:0≤r.mtch.a0∧r.mtch.a0≤lastI r.hard:=hmx;omega)
  rw [e]
  conv=>whnf
  refine ⟨⟨hfr.1,hfr.2⟩,?_⟩
  rw [e]
  conv=>whnf
  refine ⟨⟨hfr.1,hfr.2⟩,?_⟩
  rw [e]
  refine tCR kn ?_
  refine ⟨⟨hfr.1,hfr.2⟩,?_⟩
  rw [e]
  conv=>whnf
  refine ⟨⟨hfr.1,hfr.2⟩,?_⟩
  rw [e]
  refine tC kk ?_
  refine tN0 ?_
  refine tCR (kc ⟨nxM r.mtch.a0 m.yes (lrnI r m),r.mtch.a1,r.mtch.a2,r.mtch.a3,r.mtch.a4,r.mtch.a5,r.mtch.a6⟩) ?_
  exact eX []
 ·have kn:=kn r.next.a1 r.mtch.a1 (by rw [e] at hnx;have hnx:0≤r.next.a1∧r.next.a1≤1099511627776:=hnx;omega) (by rw [e] at hmx;have hmx:0≤r.mtch.a1∧r.mtch.a1≤lastI r.hard:=hmx;omega)
  rw [e]
  conv=>whnf
  refine ⟨⟨hfr.1,hfr.2⟩,?_⟩
  rw [e]
  conv=>whnf
  refine ⟨⟨hfr.1,hfr.2⟩,?_⟩
  rw [e]
  refine tCR kn ?_
  refine ⟨⟨hfr.1,hfr.2⟩,?_⟩
  rw [e]
  conv=>whnf
  refine ⟨⟨hfr.1,hfr.2⟩,?_⟩
  rw [e]
  refine tC kk ?_
  refine tN0 ?_
  refine tCR (kc ⟨r.mtch.a0,nxM r.mtch.a1 m.yes (lrnI r m),r.mtch.a2,r.mtch.a3,r.mtch.a4,r.mtch.a5,r.mtch.a6⟩) ?_
  exact eX []
 ·have kn:=kn r.next.a2 r.mtch.a2 (by rw [e] at hnx;have hnx:0≤r.next.a2∧r.next.a2≤1099511627776:=hnx;omega) (by rw [e] at hmx;have hmx:0≤r.mtch.a2∧r.mtch.a2≤lastI r.hard:=hmx;omega)
  rw [e]
  conv=>whnf
  refine ⟨⟨hfr.1,hfr.2⟩,?_⟩
  rw [e]
  conv=>whnf
  refine ⟨⟨hfr.1,hfr.2⟩,?_⟩
  rw [e]
  refine tCR kn ?_
  refine ⟨⟨hfr.1,hfr.2⟩,?_⟩
  rw [e]
  conv=>whnf
  refine ⟨⟨hfr.1,hfr.2⟩,?_⟩
  rw [e]
  refine tC kk ?_
  refine tN0 ?_
  refine tCR (kc ⟨r.mtch.a0,r.mtch.a1,nxM r.mtch.a2 m.yes (lrnI r m),r.mtch.a3,r.mtch.a4,r.mtch.a5,r.mtch.a6⟩) ?_
  exact eX []
 ·have kn:=kn r.next.a3 r.mtch.a3 (by rw [e] at hnx;have hnx:0≤r.next.a3∧r.next.a3≤1099511627776:=hnx;omega) (by rw [e] at hmx;have hmx:0≤r.mtch.a3∧r.mtch.a3≤lastI r.hard:=hmx;omega)
  rw [e]
  conv=>whnf
  refine ⟨⟨hfr.1,hfr.2⟩,?_⟩
  rw [e]
  conv=>whnf
  refine ⟨⟨hfr.1,hfr.2⟩,?_⟩
  rw [e]
  refine tCR kn ?_
  refine ⟨⟨hfr.1,hfr.2⟩,?_⟩
  rw [e]
  conv=>whnf
  refine ⟨⟨hfr.1,hfr.2⟩,?_⟩
  rw [e]
  refine tC kk ?_
  refine tN0 ?_
  refine tCR (kc ⟨r.mtch.a0,r.mtch.a1,r.mtch.a2,nxM r.mtch.a3 m.yes (lrnI r m),r.mtch.a4,r.mtch.a5,r.mtch.a6⟩) ?_
  exact eX []
 ·have kn:=kn r.next.a4 r.mtch.a4 (by rw [e] at hnx;have hnx:0≤r.next.a4∧r.next.a4≤1099511627776:=hnx;omega) (by rw [e] at hmx;have hmx:0≤r.mtch.a4∧r.mtch.a4≤lastI r.hard:=hmx;omega)
  rw [e]
  conv=>whnf
  refine ⟨⟨hfr.1,hfr.2⟩,?_⟩
  rw [e]
  conv=>whnf
  refine ⟨⟨hfr.1,hfr.2⟩,?_⟩
  rw [e]
  refine tCR kn ?_
  refine ⟨⟨hfr.1,hfr.2⟩,?_⟩
  rw [e]
  conv=>whnf
  refine ⟨⟨hfr.1,hfr.2⟩,?_⟩
  rw [e]
  refine tC kk ?_
  refine tN0 ?_
  refine tCR (kc ⟨r.mtch.a0,r.mtch.a1,r.mtch.a2,r.mtch.a3,nxM r.mtch.a4 m.yes (lrnI r m),r.mtch.a5,r.mtch.a6⟩) ?_
  exact eX []
 ·have kn:=kn r.next.a5 r.mtch.a5 (by rw [e] at hnx;have hnx:0≤r.next.a5∧r.next.a5≤1099511627776:=hnx;omega) (by rw [e] at hmx;have hmx:0≤r.mtch.a5∧r.mtch.a5≤lastI r.hard:=hmx;omega)
  rw [e]
  conv=>whnf
  refine ⟨⟨hfr.1,hfr.2⟩,?_⟩
  rw [e]
  conv=>whnf
  refine ⟨⟨hfr.1,hfr.2⟩,?_⟩
  rw [e]
  refine tCR kn ?_
  refine ⟨⟨hfr.1,hfr.2⟩,?_⟩
  rw [e]
  conv=>whnf
  refine ⟨⟨hfr.1,hfr.2⟩,?_⟩
  rw [e]
  refine tC kk ?_
  refine tN0 ?_
  refine tCR (kc ⟨r.mtch.a0,r.mtch.a1,r.mtch.a2,r.mtch.a3,r.mtch.a4,nxM r.mtch.a5 m.yes (lrnI r m),r.mtch.a6⟩) ?_
  exact eX []
 ·have kn:=kn r.next.a6 r.mtch.a6 (by rw [e] at hnx;have hnx:0≤r.next.a6∧r.next.a6≤1099511627776:=hnx;omega) (by rw [e] at hmx;have hmx:0≤r.mtch.a6∧r.mtch.a6≤lastI r.hard:=hmx;omega)
  rw [e]
  conv=>whnf
  refine ⟨⟨hfr.1,hfr.2⟩,?_⟩
  rw [e]
  conv=>whnf
  refine ⟨⟨hfr.1,hfr.2⟩,?_⟩
  rw [e]
  refine tCR kn ?_
  refine ⟨⟨hfr.1,hfr.2⟩,?_⟩
  rw [e]
  conv=>whnf
  refine ⟨⟨hfr.1,hfr.2⟩,?_⟩
  rw [e]
  refine tC kk ?_
  refine tN0 ?_
  refine tCR (kc ⟨r.mtch.a0,r.mtch.a1,r.mtch.a2,r.mtch.a3,r.mtch.a4,r.mtch.a5,nxM r.mtch.a6 m.yes (lrnI r m)⟩) ?_
  exact eX []
abbrev errM:List PV:=msgV 6 0 0 0 0 0 0 0 true .nl cz .nl
theorem znm (r : Rft) (hf : Fit r) (m : Mg) (hk : m.kind = 5) (hm : m.entries.length ≤ 4294967) (hl : growE r.hard r.commit m = 0 → (growO r.hard r.commit m).h.log.length ≤ maxLen) (he : growE r.hard r.commit m = 0) :
    CtrE Tryz.prog 95 [.pt 9990 0,.ag m.enc] [(9990,r.enc)] [] (.tu [.ag (folM (setH r (growO r.hard r.commit m).h (growO r.hard r.commit m).c) m (growO r.hard r.commit m).i (growO r.hard r.commit m).yes),iv 0]) [(9990,(folR (setH r (growO r.hard r.commit m).h (growO r.hard r.commit m).c) m).enc)] []:=by
 have hb:=hf.base
 have hl0:=hf.log
 have kg:=zxq r.hard hf.snap (by omega) (by unfold isI;omega) r.commit m hm
 have kf:=zcq (setH r (growO r.hard r.commit m).h (growO r.hard r.commit m).c) (hl he) (growO r.hard r.commit m).h.term m.frm
 rw [(zgg he).2.2] at kg
 generalize growO r.hard r.commit m=g at *
 unfold folM
 unfold folR at *
 rw [show (setH r g.h g.c).hard.term=g.h.term from rfl]
 generalize fallR (setH r g.h g.c) g.h.term m.frm=x at *
 refine zaj Tryz.func95 ?_;conv=>whnf
 refine tK ?_
 refine tC kg ?_
 refine tN0 ?_
 refine tER ([(9990,9990)],[],[]) kf ?_
 exact eX []
theorem zlx (r : Rft) (hf : Fit r) (m : Mg) (hk : m.kind = 5) (hm : m.entries.length ≤ 4294967) (he : ¬ growE r.hard r.commit m = 0) :
    CtrE Tryz.prog 95 [.pt 9990 0,.ag m.enc] [(9990,r.enc)] [] (.tu [.ag errM,iv (growE r.hard r.commit m)]) [(9990,r.enc)] []:=by
 have hb:=hf.base
 have hl0:=hf.log
 have kg:=zxq r.hard hf.snap (by omega) (by unfold isI;omega) r.commit m hm
 rw [(zdo he).2.2] at kg
 generalize growE r.hard r.commit m=e at *
 refine zaj Tryz.func95 ?_;conv=>whnf
 refine tK ?_
 refine tC kg ?_
 refine tS ?_ ?_<;>intro h
 ·exact eX []
 ·exact absurd (by first | exact h | (simpa using h)) he
theorem znj (r : Rft) (hf : Fit r) (m : Mg) (hk : ¬ m.kind = 5) (hlt : r.commit < m.index) (hs : m.snap.length ≤ 4294967296) (hi : isI m.index) (hl : (insHH r m).log.length ≤ maxLen) (he : insEE r m = 0) :
    CtrE Tryz.prog 95 [.pt 9990 0,.ag m.enc] [(9990,r.enc)] [] (.tu [.ag (folM (setH r (insHH r m) m.index) m m.index true),iv 0]) [(9990,(folR (setH r (insHH r m) m.index) m).enc)] []:=by
 have hb:=hf.base
 have hl0:=hf.log
 have kg:=zlu r.hard (by omega) (by unfold isI;omega) m.index hi m.logTerm m.conf m.snap hs
 have kf:=zcq (setH r (insHH r m) m.index) hl (insHH r m).term m.frm
 rw [(zdt he).2.2] at kg
 unfold insHH at kf hl ⊢
 generalize hH:instH r.hard m.index m.logTerm m.conf m.snap=H at *
 unfold folM
 unfold folR at *
 rw [show (setH r H m.index).hard.term=H.term from rfl]
 generalize fallR (setH r H m.index) H.term m.frm=x at *
 refine zaj Tryz.func95 ?_;conv=>whnf
 refine tK ?_
 refine tS ?_ ?_<;>intro h
 ·exact absurd h (by omega)
 clear h
 refine tC kg ?_
 refine tN0 ?_
 refine tER ([(9990,9990)],[],[]) kf ?_
 exact eX []
theorem zkq (r : Rft) (hf : Fit r) (m : Mg) (hk : ¬ m.kind = 5) (hlt : r.commit < m.index) (hs : m.snap.length ≤ 4294967296) (hi : isI m.index) (he : ¬ insEE r m = 0) :
    CtrE Tryz.prog 95 [.pt 9990 0,.ag m.enc] [(9990,r.enc)] [] (.tu [.ag errM,iv (insEE r m)]) [(9990,r.enc)] []:=by
 have hb:=hf.base
 have hl0:=hf.log
 have kg:=zlu r.hard (by omega) (by unfold isI;omega) m.index hi m.logTerm m.conf m.snap hs
 rw [(zb9 he).2.2] at kg
 unfold insEE at he kg ⊢
 generalize instE r.hard m.index m.logTerm m.conf m.snap=e at *
 refine zaj Tryz.func95 ?_;conv=>whnf
 refine tK ?_
 refine tS ?_ ?_<;>intro h
 ·exact absurd h (by omega)
 clear h
 refine tC kg ?_
 refine tS ?_ ?_<;>intro h
 ·exact eX []
 ·exact absurd (by first | exact h | (simpa using h)) he
theorem zmp (r : Rft) (hf : Fit r) (m : Mg) (hk : ¬ m.kind = 5) (hlt : ¬ r.commit < m.index) :
    CtrE Tryz.prog 95 [.pt 9990 0,.ag m.enc] [(9990,r.enc)] [] (.tu [.ag (folM r m r.commit true),iv 0]) [(9990,(folR r m).enc)] []:=by
 have hl0:=hf.log
 have kf:=zcq r (zad (by omega)) r.hard.term m.frm
 unfold folM
 unfold folR at *
 generalize fallR r r.hard.term m.frm=x at *
 refine zaj Tryz.func95 ?_;conv=>whnf
 refine tK ?_
 refine tS ?_ ?_<;>intro h
 ·clear h
  refine tER ([(9990,9990)],[],[]) kf ?_
  exact eX []
 ·exact absurd (by omega) hlt
theorem zwj (x g:Int):zav x 0 g=inR g x:=by
 unfold zav inR
 rw [Bool.eq_iff_iff]
 simp only [Bool.and_eq_true,decide_eq_true_eq]
theorem kind_in (x:Int):decide (1≤x∧x≤8)=(decide (1≤x) && decide (x≤8)):=by
 rw [Bool.eq_iff_iff]
 simp only [Bool.and_eq_true,decide_eq_true_eq]
theorem zrk (r:Rft) (m:Mg) (hm:zfg r m=false):Ctr Tryz.prog 40 [.ag r.enc,.ag m.enc] (.tu [.ag rzv,.nl,iv 1]) []:=by
 have k1:=zqs m.frm
 rw [zwj] at k1
 have k2:=zai m.kind 1 8
 rw [kind_in] at k2
 have k3:Ctr Tryz.prog 88 [iv m.term,iv 0,iv far] (bv (inR far m.term)) []:=zai m.term 0 far
 have k4:Ctr Tryz.prog 88 [iv m.index,iv 0,iv far] (bv (inR far m.index)) []:=zai m.index 0 far
 have k5:Ctr Tryz.prog 88 [iv m.logTerm,iv 0,iv far] (bv (inR far m.logTerm)) []:=zai m.logTerm 0 far
 have k6:Ctr Tryz.prog 88 [iv m.round,iv 0,iv far] (bv (inR far m.round)) []:=zai m.round 0 far
 unfold zfg at hm
 generalize inR 6 m.frm=b1 at *
 generalize decide (1≤m.kind)=z1 at *
 generalize decide (m.kind≤8)=z2 at *
 generalize inR far m.term=b3 at *
 generalize inR far m.index=b4 at *
 generalize inR far m.logTerm=b5 at *
 generalize inR far m.round=b6 at *
 cases b1 with
 | false =>
  refine sBody Tryz.func40 ?_;conv=>whnf
  refine tC k1 ?_
  exact zaa rfl rfl
 | true =>
 by_cases h1:m.frm=r.id
 ·refine sBody Tryz.func40 ?_;conv=>whnf
  refine tC k1 ?_
  refine tK ?_
  exact zaa rfl rfl
 by_cases h2:m.to=r.id
 case neg =>
  refine sBody Tryz.func40 ?_;conv=>whnf
  refine tC k1 ?_
  refine tK ?_
  refine tK ?_
  exact zaa rfl rfl
 cases hk:(z1 && z2) with
 | false =>
  rw [hk] at k2
  refine sBody Tryz.func40 ?_;conv=>whnf
  refine tC k1 ?_
  refine tK ?_
  refine tK ?_
  refine tC k2 ?_
  exact zaa rfl rfl
 | true =>
 rw [hk] at k2
 cases b3 with
 | false =>
  refine sBody Tryz.func40 ?_;conv=>whnf
  refine tC k1 ?_
  refine tK ?_
  refine tK ?_
  refine tC k2 ?_
  refine tC k3 ?_
  exact zaa rfl rfl
 | true =>
 cases b4 with
 | false =>
  refine sBody Tryz.func40 ?_;conv=>whnf
  refine tC k1 ?_
  refine tK ?_
  refine tK ?_
  refine tC k2 ?_
  refine tC k3 ?_
  refine tC k4 ?_
  exact zaa rfl rfl
 | true =>
 cases b5 with
 | false =>
  refine sBody Tryz.func40 ?_;conv=>whnf
  refine tC k1 ?_
  refine tK ?_
  refine tK ?_
  refine tC k2 ?_
  refine tC k3 ?_
  refine tC k4 ?_
  refine tC k5 ?_
  exact zaa rfl rfl
 | true =>
 cases b6 with
 | false =>
  refine sBody Tryz.func40 ?_;conv=>whnf
  refine tC k1 ?_
  refine tK ?_
  refine tK ?_
  refine tC k2 ?_
  refine tC k3 ?_
  refine tC k4 ?_
  refine tC k5 ?_
  refine tC k6 ?_
  exact zaa rfl rfl
 | true =>
  rw [Bool.and_eq_true] at hk
  rw [hk.1,hk.2,decide_eq_true h1,decide_eq_true h2] at hm
  cases hm
theorem za6 {r : Rft} {m : Mg} (hf : Fit r) (hM : RightM r m) (hL : 0 ≤ m.logTerm ∧ m.logTerm ≤ far) (hR : 0 ≤ m.round ∧ m.round ≤ far) :
    Ctr Tryz.prog 57 [iv m.frm] (bv true) []∧Ctr Tryz.prog 88 [iv m.term,iv 0,iv far] (bv true) []∧Ctr Tryz.prog 88 [iv m.index,iv 0,iv far] (bv true) []∧Ctr Tryz.prog 88 [iv m.logTerm,iv 0,iv far] (bv true) []∧Ctr Tryz.prog 88 [iv m.round,iv 0,iv far] (bv true) []∧Ctr Tryz.prog 32 [.ag r.enc] (.ag r.enc) []∧m.frm ≠ r.id∧m.to=r.id:=by
 have k:=zqs m.frm
 rw [show zav m.frm 0 6=true from by unfold zav;rw [Bool.and_eq_true,decide_eq_true_eq,decide_eq_true_eq];have:=hM.frm;omega] at k
 exact ⟨k,far_k hM.term,far_k hM.index,far_k hL,far_k hR,za4 r hf.small,hM.ne,hM.to⟩
theorem eF1 {c:CSt}{p r:PV} (h:ExitOk c p r []:=by exact za7 [] (by intro q hq;cases hq) (zat ⟨zao agD,(by (conv=>whnf);exact .inr (.inl ⟨rfl,rfl⟩)),zae _ rfl,rfl⟩)):ExitOk c p r []:=h
theorem eF2 {c:CSt}{p r:PV} (h:ExitOk c p r []:=by exact za7 [] (by intro q hq;cases hq) (zat ⟨zao agD,(by (conv=>whnf);exact .inl (by kernel_rfl)),zae _ rfl,rfl⟩)):ExitOk c p r []:=h
theorem zyz (r:Rft) (hf:Fit r) (m:Mg) (hM:RightM r m) (hL:0≤m.logTerm∧m.logTerm≤far) (hR:0≤m.round∧m.round≤far):Ctr Tryz.prog 40 [.ag r.enc,.ag (mkM m 1).enc] (.tu [.ag (r).enc,.sl 16 (zij r (mkM m 1)),iv 0]) []:=by
 obtain ⟨k1,k3,k4,k5,k6,kt,hne,hto⟩:=za6 hf hM hL hR
 have hl0:=hf.log
 have hT0:=hf.term
 have k2:Ctr Tryz.prog 88 [iv 1,iv 1,iv 8] (bv true) []:=by
  have:=zai 1 1 8
  rwa [decide_eq_true (show 1≤(1:Int)∧(1:Int)≤8 from by decide)] at this
 have kb:=zka r (mkM m 1) 2
 have ka:=z4i r (zad (by omega)) (mkM m 1)
 unfold zij
 refine sBody Tryz.func40 ?_;conv=>whnf
 refine tC k1 ?_
 refine tK ?_
 refine tK ?_
 refine tC k2 ?_
 refine tC k3 ?_
 refine tC k4 ?_
 refine tC k5 ?_
 refine tC k6 ?_
 refine tC kt ?_
 refine tN0 ?_
 refine (show _ from ?_)
 by_cases hgt:r.hard.term < m.term
 all_goals
  refine tK ?_
  refine tC kb ?_
  refine tCR ka ?_
  cases hq:asked r (mkM m 1) with
  | true =>
   rw [if_pos rfl]
   exact eF2
  | false =>
   rw [if_neg (show ¬ false=true by decide)]
   exact eF2
theorem zrz (r:Rft) (hf:Fit r) (m:Mg) (hM:RightM r m) (hL:0≤m.logTerm∧m.logTerm≤far) (hR:0≤m.round∧m.round≤far) (hk:¬ m.kind=1) (hlt:m.term < r.hard.term):Ctr Tryz.prog 40 [.ag r.enc,.ag m.enc] (.tu [.ag (r).enc,.sl 16 (zhb r m),iv 0]) []:=by
 obtain ⟨k1,k3,k4,k5,k6,kt,hne,hto⟩:=za6 hf hM hL hR
 have hl0:=hf.log
 have hT0:=hf.term
 have k2:Ctr Tryz.prog 88 [iv m.kind,iv 1,iv 8] (bv true) []:=by
  have:=zai m.kind 1 8
  rwa [decide_eq_true (show 1≤m.kind∧m.kind≤8 from hM.kind)] at this
 have hng:¬ m.term > r.hard.term:=by omega
 have ke:=c_zlate r m
 refine sBody Tryz.func40 ?_;conv=>whnf
 refine tC k1 ?_
 refine tK ?_
 refine tK ?_
 refine tC k2 ?_
 refine tC k3 ?_
 refine tC k4 ?_
 refine tC k5 ?_
 refine tC k6 ?_
 refine tC kt ?_
 refine tN0 ?_
 refine tK ?_
 refine tK ?_
 refine tK ?_
 refine tCR ke ?_
 refine tN0 ?_
 exact za7 [] (by intro q hq;cases hq) (zat ⟨zao agD,zae _ rfl,zae _ rfl,rfl⟩)
theorem zxf (r:Rft) (hf:Fit r) (m:Mg) (hM:RightM r m) (hL:0≤m.logTerm∧m.logTerm≤far) (hR:0≤m.round∧m.round≤far) (heq:m.term=r.hard.term)  : Ctr Tryz.prog 40 [.ag r.enc,.ag (mkY m 2 false).enc] (.tu [.ag (r).enc,.sl 16 ([]),iv 0]) []:=by
 obtain ⟨k1,k3,k4,k5,k6,kt,hne,hto⟩:=za6 hf hM hL hR
 have hl0:=hf.log
 have hT0:=hf.term
 have k2:Ctr Tryz.prog 88 [iv 2,iv 1,iv 8] (bv true) []:=by
  have:=zai 2 1 8
  rwa [decide_eq_true (show 1≤(2:Int)∧(2:Int)≤8 from by decide)] at this
 have hfx:=hf
 have hxid:r.id=r.id:=rfl
 have hg1:¬ m.term > r.hard.term:=by omega
 have hx0:¬ m.term < r.hard.term:=by omega
 have hlx:=hfx.log
 have hTx:=hfx.term
 have hmx:r.hard.log.length≤maxLen:=zad (by omega)
 refine sBody Tryz.func40 ?_;conv=>whnf
 refine tC k1 ?_
 refine tK ?_
 refine tK ?_
 refine tC k2 ?_
 refine tC k3 ?_
 refine tC k4 ?_
 refine tC k5 ?_
 refine tC k6 ?_
 refine tC kt ?_
 refine tN0 ?_
 refine tK ?_
 refine tK ?_
 by_cases hro:r.role=1
 all_goals
  refine tK ?_
  exact eF1
theorem zsl (r:Rft) (hf:Fit r) (m:Mg) (hM:RightM r m) (hL:0≤m.logTerm∧m.logTerm≤far) (hR:0≤m.round∧m.round≤far) (hgt:r.hard.term < m.term)  : Ctr Tryz.prog 40 [.ag r.enc,.ag (mkY m 2 false).enc] (.tu [.ag ((fallR r m.term (-1))).enc,.sl 16 ([]),iv 0]) []:=by
 obtain ⟨k1,k3,k4,k5,k6,kt,hne,hto⟩:=za6 hf hM hL hR
 have hl0:=hf.log
 have hT0:=hf.term
 have k2:Ctr Tryz.prog 88 [iv 2,iv 1,iv 8] (bv true) []:=by
  have:=zai 2 1 8
  rwa [decide_eq_true (show 1≤(2:Int)∧(2:Int)≤8 from by decide)] at this
 have kf:=zcq r (zad (by omega)) m.term (-1)
 have hfx:=zbw hf (t:=m.term) (by have:=hM.term;omega) (-1)
 have hxt:=zbb hgt (-1)
 have hxid:(fallR r m.term (-1)).id=r.id:=rfl
 have hg1:m.term > r.hard.term:=hgt
 have hx0:¬ m.term < (fallR r m.term (-1)).hard.term:=by omega
 have hlx:=hfx.log
 have hTx:=hfx.term
 have hmx:(fallR r m.term (-1)).hard.log.length≤maxLen:=zad (by omega)
 refine sBody Tryz.func40 ?_;conv=>whnf
 refine tC k1 ?_
 refine tK ?_
 refine tK ?_
 refine tC k2 ?_
 refine tC k3 ?_
 refine tC k4 ?_
 refine tC k5 ?_
 refine tC k6 ?_
 refine tC kt ?_
 refine tN0 ?_
 refine tK ?_
 refine tER ([(9990,2)],[],[]) kf ?_
 refine tK ?_
 exact eF1
theorem zvf (r:Rft) (hf:Fit r) (m:Mg) (hM:RightM r m) (hL:0≤m.logTerm∧m.logTerm≤far) (hR:0≤m.round∧m.round≤far) (heq:m.term=r.hard.term)  : Ctr Tryz.prog 40 [.ag r.enc,.ag (mkY m 4 false).enc] (.tu [.ag (r).enc,.sl 16 ([]),iv 0]) []:=by
 obtain ⟨k1,k3,k4,k5,k6,kt,hne,hto⟩:=za6 hf hM hL hR
 have hl0:=hf.log
 have hT0:=hf.term
 have k2:Ctr Tryz.prog 88 [iv 4,iv 1,iv 8] (bv true) []:=by
  have:=zai 4 1 8
  rwa [decide_eq_true (show 1≤(4:Int)∧(4:Int)≤8 from by decide)] at this
 have hfx:=hf
 have hxid:r.id=r.id:=rfl
 have hg1:¬ m.term > r.hard.term:=by omega
 have hx0:¬ m.term < r.hard.term:=by omega
 have hlx:=hfx.log
 have hTx:=hfx.term
 have hmx:r.hard.log.length≤maxLen:=zad (by omega)
 refine sBody Tryz.func40 ?_;conv=>whnf
 refine tC k1 ?_
 refine tK ?_
 refine tK ?_
 refine tC k2 ?_
 refine tC k3 ?_
 refine tC k4 ?_
 refine tC k5 ?_
 refine tC k6 ?_
 refine tC kt ?_
 refine tN0 ?_
 refine tK ?_
 refine tK ?_
 by_cases hro:r.role=2
 all_goals
  refine tK ?_
  exact eF1
theorem zsk (r:Rft) (hf:Fit r) (m:Mg) (hM:RightM r m) (hL:0≤m.logTerm∧m.logTerm≤far) (hR:0≤m.round∧m.round≤far) (hgt:r.hard.term < m.term)  : Ctr Tryz.prog 40 [.ag r.enc,.ag (mkY m 4 false).enc] (.tu [.ag ((fallR r m.term (-1))).enc,.sl 16 ([]),iv 0]) []:=by
 obtain ⟨k1,k3,k4,k5,k6,kt,hne,hto⟩:=za6 hf hM hL hR
 have hl0:=hf.log
 have hT0:=hf.term
 have k2:Ctr Tryz.prog 88 [iv 4,iv 1,iv 8] (bv true) []:=by
  have:=zai 4 1 8
  rwa [decide_eq_true (show 1≤(4:Int)∧(4:Int)≤8 from by decide)] at this
 have kf:=zcq r (zad (by omega)) m.term (-1)
 have hfx:=zbw hf (t:=m.term) (by have:=hM.term;omega) (-1)
 have hxt:=zbb hgt (-1)
 have hxid:(fallR r m.term (-1)).id=r.id:=rfl
 have hg1:m.term > r.hard.term:=hgt
 have hx0:¬ m.term < (fallR r m.term (-1)).hard.term:=by omega
 have hlx:=hfx.log
 have hTx:=hfx.term
 have hmx:(fallR r m.term (-1)).hard.log.length≤maxLen:=zad (by omega)
 refine sBody Tryz.func40 ?_;conv=>whnf
 refine tC k1 ?_
 refine tK ?_
 refine tK ?_
 refine tC k2 ?_
 refine tC k3 ?_
 refine tC k4 ?_
 refine tC k5 ?_
 refine tC k6 ?_
 refine tC kt ?_
 refine tN0 ?_
 refine tK ?_
 refine tER ([(9990,2)],[],[]) kf ?_
 refine tK ?_
 exact eF1
theorem zve (r:Rft) (hf:Fit r) (m:Mg) (hM:RightM r m) (hL:0≤m.logTerm∧m.logTerm≤far) (hR:0≤m.round∧m.round≤far) (heq:m.term=r.hard.term):Ctr Tryz.prog 40 [.ag r.enc,.ag (mkY m 2 true).enc] (.tu [.ag (k2R r (mkY m 2 true)).enc,.sl 16 (k2O r (mkY m 2 true)),iv 0]) []:=by
 obtain ⟨k1,k3,k4,k5,k6,kt,hne,hto⟩:=za6 hf hM hL hR
 have hl0:=hf.log
 have hT0:=hf.term
 have k2:Ctr Tryz.prog 88 [iv 2,iv 1,iv 8] (bv true) []:=by
  have:=zai 2 1 8
  rwa [decide_eq_true (show 1≤(2:Int)∧(2:Int)≤8 from by decide)] at this
 have hfr:=hM.frm
 have eu:IntKind.u64.wrap m.frm=m.frm:=zbz (by omega) (by omega)
 have hx0:¬ m.term < r.hard.term:=by omega
 have hg1:¬ m.term > r.hard.term:=by omega
 have ew:IntKind.i64.wrap (r.hard.term+1)=r.hard.term+1:=zaf (by omega) (by omega)
 have hmx:r.hard.log.length≤maxLen:=zad (by omega)
 have kw:=zkw (vtR r (mkY m 2 true)) hmx
 have kst:=zhy (vtR r (mkY m 2 true)) { id:=hf.id,log:=hf.log,snap:=hf.snap,base:=hf.base,term:=hf.term,round:=hf.round,quiet:=hf.quiet,wait:=hf.wait,next:=hf.next,silent:=hf.silent,reads:=hf.reads }
 unfold k2R k2O
 refine sBody Tryz.func40 ?_;conv=>whnf
 refine tC k1 ?_
 refine tK ?_
 refine tK ?_
 refine tC k2 ?_
 refine tC k3 ?_
 refine tC k4 ?_
 refine tC k5 ?_
 refine tC k6 ?_
 refine tC kt ?_
 refine tN0 ?_
 refine tK ?_
 refine tK ?_
 by_cases hro:r.role=1
 ·rw [if_pos hro,if_pos hro]
  refine tK ?_
  rw [ew]
  conv=>whnf
  by_cases ht:m.term=r.hard.term+1
  ·rw [if_pos (show (mkY m 2 true).term=r.hard.term+1 from ht),if_pos (show (mkY m 2 true).term=r.hard.term+1 from ht)]
   refine tK ?_
   refine ⟨⟨by decide,by rw [eu];exact hfr.1⟩,?_⟩
   rw [eu]
   conv=>whnf
   cases hq:zak (zab (vtR r (mkY m 2 true))) (vtR r (mkY m 2 true)).votes with
   | true =>
    rw [hq] at kw
    rw [if_pos rfl,if_pos rfl]
    refine tCR kw ?_
    refine tER ([(9990,2)],[],[]) kst ?_
    exact za7 [] (by intro q hq;cases hq) (zat ⟨zao agD,zae _ rfl,zae _ rfl,rfl⟩)
   | false =>
    rw [hq] at kw
    rw [if_neg (show ¬ false=true by decide),if_neg (show ¬ false=true by decide)]
    refine tCR kw ?_
    exact eF1
  ·rw [if_neg (show ¬ (mkY m 2 true).term=r.hard.term+1 from ht),if_neg (show ¬ (mkY m 2 true).term=r.hard.term+1 from ht)]
   refine tK ?_
   exact eF1
 ·rw [if_neg hro,if_neg hro]
  refine tK ?_
  exact eF1
theorem zwz (r:Rft) (hf:Fit r) (m:Mg) (hM:RightM r m) (hL:0≤m.logTerm∧m.logTerm≤far) (hR:0≤m.round∧m.round≤far) (hgt:r.hard.term < m.term):Ctr Tryz.prog 40 [.ag r.enc,.ag (mkY m 2 true).enc] (.tu [.ag (k2R r (mkY m 2 true)).enc,.sl 16 (k2O r (mkY m 2 true)),iv 0]) []:=by
 obtain ⟨k1,k3,k4,k5,k6,kt,hne,hto⟩:=za6 hf hM hL hR
 have hl0:=hf.log
 have hT0:=hf.term
 have k2:Ctr Tryz.prog 88 [iv 2,iv 1,iv 8] (bv true) []:=by
  have:=zai 2 1 8
  rwa [decide_eq_true (show 1≤(2:Int)∧(2:Int)≤8 from by decide)] at this
 have hfr:=hM.frm
 have eu:IntKind.u64.wrap m.frm=m.frm:=zbz (by omega) (by omega)
 have hx0:¬ m.term < r.hard.term:=by omega
 have hg1:m.term > r.hard.term:=hgt
 have ew:IntKind.i64.wrap (r.hard.term+1)=r.hard.term+1:=zaf (by omega) (by omega)
 have hmx:r.hard.log.length≤maxLen:=zad (by omega)
 have kw:=zkw (vtR r (mkY m 2 true)) hmx
 have kst:=zhy (vtR r (mkY m 2 true)) { id:=hf.id,log:=hf.log,snap:=hf.snap,base:=hf.base,term:=hf.term,round:=hf.round,quiet:=hf.quiet,wait:=hf.wait,next:=hf.next,silent:=hf.silent,reads:=hf.reads }
 unfold k2R k2O
 refine sBody Tryz.func40 ?_;conv=>whnf
 refine tC k1 ?_
 refine tK ?_
 refine tK ?_
 refine tC k2 ?_
 refine tC k3 ?_
 refine tC k4 ?_
 refine tC k5 ?_
 refine tC k6 ?_
 refine tC kt ?_
 refine tN0 ?_
 refine tK ?_
 refine tK ?_
 by_cases hro:r.role=1
 ·rw [if_pos hro,if_pos hro]
  refine tK ?_
  rw [ew]
  conv=>whnf
  by_cases ht:m.term=r.hard.term+1
  ·rw [if_pos (show (mkY m 2 true).term=r.hard.term+1 from ht),if_pos (show (mkY m 2 true).term=r.hard.term+1 from ht)]
   refine tK ?_
   refine ⟨⟨by decide,by rw [eu];exact hfr.1⟩,?_⟩
   rw [eu]
   conv=>whnf
   cases hq:zak (zab (vtR r (mkY m 2 true))) (vtR r (mkY m 2 true)).votes with
   | true =>
    rw [hq] at kw
    rw [if_pos rfl,if_pos rfl]
    refine tCR kw ?_
    refine tER ([(9990,2)],[],[]) kst ?_
    exact za7 [] (by intro q hq;cases hq) (zat ⟨zao agD,zae _ rfl,zae _ rfl,rfl⟩)
   | false =>
    rw [hq] at kw
    rw [if_neg (show ¬ false=true by decide),if_neg (show ¬ false=true by decide)]
    refine tCR kw ?_
    exact eF1
  ·rw [if_neg (show ¬ (mkY m 2 true).term=r.hard.term+1 from ht),if_neg (show ¬ (mkY m 2 true).term=r.hard.term+1 from ht)]
   refine tK ?_
   exact eF1
 ·rw [if_neg hro,if_neg hro]
  refine tK ?_
  exact eF1
theorem zzf (r:Rft) (hf:Fit r) (m:Mg) (hM:RightM r m) (hL:0≤m.logTerm∧m.logTerm≤far) (hR:0≤m.round∧m.round≤far) (heq:m.term=r.hard.term)  : Ctr Tryz.prog 40 [.ag r.enc,.ag (mkM m 3).enc] (.tu [.ag (k3R r (mkM m 3)).enc,.sl 16 (k3O r (mkM m 3)),iv 0]) []:=by
 obtain ⟨k1,k3,k4,k5,k6,kt,hne,hto⟩:=za6 hf hM hL hR
 have hl0:=hf.log
 have hT0:=hf.term
 have k2:Ctr Tryz.prog 88 [iv 3,iv 1,iv 8] (bv true) []:=by
  have:=zai 3 1 8
  rwa [decide_eq_true (show 1≤(3:Int)∧(3:Int)≤8 from by decide)] at this
 have hfx:=hf
 have hxid:r.id=r.id:=rfl
 have hg1:¬ m.term > r.hard.term:=by omega
 have hx0:¬ m.term < r.hard.term:=by omega
 have hlx:=hfx.log
 have hTx:=hfx.term
 have hmx:r.hard.log.length≤maxLen:=zad (by omega)
 have kb:=zka r (mkM m 3) 4
 have kv:=zti r hmx (mkM m 3)
 have kfv:=zcq (vdR r (mkM m 3)) hmx r.hard.term (-1)
 have e1:(fallR (vdR r (mkM m 3)) r.hard.term (-1)).hard.term=r.hard.term:=by rw [zet (vdR r (mkM m 3)) (-1)]
 have e2:(fallR (vdR r (mkM m 3)) r.hard.term (-1)).id=r.id:=rfl
 unfold k3R k3O
 rw [e1,e2]
 generalize fallR (vdR r (mkM m 3)) r.hard.term (-1)=z at *
 refine sBody Tryz.func40 ?_;conv=>whnf
 refine tC k1 ?_
 refine tK ?_
 refine tK ?_
 refine tC k2 ?_
 refine tC k3 ?_
 refine tC k4 ?_
 refine tC k5 ?_
 refine tC k6 ?_
 refine tC kt ?_
 refine tN0 ?_
 refine tK ?_
 refine tK ?_
 refine tC kb ?_
 cases hq:voted r (mkM m 3) with
 | true =>
  rw [hq] at kv
  rw [if_pos rfl,if_pos rfl]
  refine tCR kv ?_
  refine tER ([(9990,2)],[],[]) kfv ?_
  exact eF2
 | false =>
  rw [hq] at kv
  rw [if_neg (show ¬ false=true by decide),if_neg (show ¬ false=true by decide)]
  refine tCR kv ?_
  exact eF2
theorem zxd (r:Rft) (hf:Fit r) (m:Mg) (hM:RightM r m) (hL:0≤m.logTerm∧m.logTerm≤far) (hR:0≤m.round∧m.round≤far) (hgt:r.hard.term < m.term)  : Ctr Tryz.prog 40 [.ag r.enc,.ag (mkM m 3).enc] (.tu [.ag (k3R (fallR r m.term (-1)) (mkM m 3)).enc,.sl 16 (k3O (fallR r m.term (-1)) (mkM m 3)),iv 0]) []:=by
 obtain ⟨k1,k3,k4,k5,k6,kt,hne,hto⟩:=za6 hf hM hL hR
 have hl0:=hf.log
 have hT0:=hf.term
 have k2:Ctr Tryz.prog 88 [iv 3,iv 1,iv 8] (bv true) []:=by
  have:=zai 3 1 8
  rwa [decide_eq_true (show 1≤(3:Int)∧(3:Int)≤8 from by decide)] at this
 have kf:=zcq r (zad (by omega)) m.term (-1)
 have hfx:=zbw hf (t:=m.term) (by have:=hM.term;omega) (-1)
 have hxt:=zbb hgt (-1)
 have hxid:(fallR r m.term (-1)).id=r.id:=rfl
 generalize fallR r m.term (-1)=x at *
 have hg1:m.term > r.hard.term:=hgt
 have hx0:¬ m.term < x.hard.term:=by omega
 have hlx:=hfx.log
 have hTx:=hfx.term
 have hmx:x.hard.log.length≤maxLen:=zad (by omega)
 have kb:=zka x (mkM m 3) 4
 have kv:=zti x hmx (mkM m 3)
 have kfv:=zcq (vdR x (mkM m 3)) hmx x.hard.term (-1)
 have e1:(fallR (vdR x (mkM m 3)) x.hard.term (-1)).hard.term=x.hard.term:=by rw [zet (vdR x (mkM m 3)) (-1)]
 have e2:(fallR (vdR x (mkM m 3)) x.hard.term (-1)).id=x.id:=rfl
 unfold k3R k3O
 rw [e1,e2]
 generalize fallR (vdR x (mkM m 3)) x.hard.term (-1)=z at *
 refine sBody Tryz.func40 ?_;conv=>whnf
 refine tC k1 ?_
 refine tK ?_
 refine tK ?_
 refine tC k2 ?_
 refine tC k3 ?_
 refine tC k4 ?_
 refine tC k5 ?_
 refine tC k6 ?_
 refine tC kt ?_
 refine tN0 ?_
 refine tK ?_
 refine tER ([(9990,2)],[],[]) kf ?_
 refine tK ?_
 refine tC kb ?_
 cases hq:voted x (mkM m 3) with
 | true =>
  rw [hq] at kv
  rw [if_pos rfl,if_pos rfl]
  refine tCR kv ?_
  refine tER ([(9990,2)],[],[]) kfv ?_
  exact eF2
 | false =>
  rw [hq] at kv
  rw [if_neg (show ¬ false=true by decide),if_neg (show ¬ false=true by decide)]
  refine tCR kv ?_
  exact eF2
theorem zwi (r:Rft) (hf:Fit r) (m:Mg) (hM:RightM r m) (hL:0≤m.logTerm∧m.logTerm≤far) (hR:0≤m.round∧m.round≤far) (heq:m.term=r.hard.term)  : Ctr Tryz.prog 40 [.ag r.enc,.ag (mkY m 4 true).enc] (.tu [.ag (k4R r (mkY m 4 true)).enc,.sl 16 (k4O r (mkY m 4 true)),iv 0]) []:=by
 obtain ⟨k1,k3,k4,k5,k6,kt,hne,hto⟩:=za6 hf hM hL hR
 have hl0:=hf.log
 have hT0:=hf.term
 have k2:Ctr Tryz.prog 88 [iv 4,iv 1,iv 8] (bv true) []:=by
  have:=zai 4 1 8
  rwa [decide_eq_true (show 1≤(4:Int)∧(4:Int)≤8 from by decide)] at this
 have hfx:=hf
 have hxid:r.id=r.id:=rfl
 have hg1:¬ m.term > r.hard.term:=by omega
 have hx0:¬ m.term < r.hard.term:=by omega
 have hlx:=hfx.log
 have hTx:=hfx.term
 have hmx:r.hard.log.length≤maxLen:=zad (by omega)
 have hfr:=hM.frm
 have eu:IntKind.u64.wrap m.frm=m.frm:=zbz (by omega) (by omega)
 have kw:=zkw (vtR r (mkY m 4 true)) hmx
 have kl:=z1h (vtR r (mkY m 4 true)) hfx.id hfx.log hfx.snap hfx.base hfx.round
 unfold k4R k4O
 refine sBody Tryz.func40 ?_;conv=>whnf
 refine tC k1 ?_
 refine tK ?_
 refine tK ?_
 refine tC k2 ?_
 refine tC k3 ?_
 refine tC k4 ?_
 refine tC k5 ?_
 refine tC k6 ?_
 refine tC kt ?_
 refine tN0 ?_
 refine tK ?_
 refine tK ?_
 by_cases hro:r.role=2
 ·rw [if_pos hro,if_pos hro]
  refine tK ?_
  refine ⟨⟨by decide,by rw [eu];exact hfr.1⟩,?_⟩
  rw [eu]
  conv=>whnf
  cases hq:zak (zab (vtR r (mkY m 4 true))) (vtR r (mkY m 4 true)).votes with
  | true =>
   rw [hq] at kw
   rw [if_pos rfl,if_pos rfl]
   refine tCR kw ?_
   refine tER ([(9990,2)],[],[]) kl ?_
   exact za7 [] (by intro q hq;cases hq) (zat ⟨zao agD,zae _ rfl,zae _ rfl,rfl⟩)
  | false =>
   rw [hq] at kw
   rw [if_neg (show ¬ false=true by decide),if_neg (show ¬ false=true by decide)]
   refine tCR kw ?_
   exact eF1
 ·rw [if_neg hro,if_neg hro]
  refine tK ?_
  exact eF1
theorem zr1 (r:Rft) (hf:Fit r) (m:Mg) (hM:RightM r m) (hL:0≤m.logTerm∧m.logTerm≤far) (hR:0≤m.round∧m.round≤far) (hgt:r.hard.term < m.term)  : Ctr Tryz.prog 40 [.ag r.enc,.ag (mkY m 4 true).enc] (.tu [.ag (k4R (fallR r m.term (-1)) (mkY m 4 true)).enc,.sl 16 (k4O (fallR r m.term (-1)) (mkY m 4 true)),iv 0]) []:=by
 obtain ⟨k1,k3,k4,k5,k6,kt,hne,hto⟩:=za6 hf hM hL hR
 have hl0:=hf.log
 have hT0:=hf.term
 have k2:Ctr Tryz.prog 88 [iv 4,iv 1,iv 8] (bv true) []:=by
  have:=zai 4 1 8
  rwa [decide_eq_true (show 1≤(4:Int)∧(4:Int)≤8 from by decide)] at this
 have kf:=zcq r (zad (by omega)) m.term (-1)
 have hfx:=zbw hf (t:=m.term) (by have:=hM.term;omega) (-1)
 have hxt:=zbb hgt (-1)
 have hxid:(fallR r m.term (-1)).id=r.id:=rfl
 have hg1:m.term > r.hard.term:=hgt
 have hx0:¬ m.term < (fallR r m.term (-1)).hard.term:=by omega
 have hlx:=hfx.log
 have hTx:=hfx.term
 have hmx:(fallR r m.term (-1)).hard.log.length≤maxLen:=zad (by omega)
 unfold k4R k4O
 have hro:¬ (fallR r m.term (-1)).role=2:=by show ¬ (0:Int)=2;decide
 rw [if_neg hro,if_neg hro]
 refine sBody Tryz.func40 ?_;conv=>whnf
 refine tC k1 ?_
 refine tK ?_
 refine tK ?_
 refine tC k2 ?_
 refine tC k3 ?_
 refine tC k4 ?_
 refine tC k5 ?_
 refine tC k6 ?_
 refine tC kt ?_
 refine tN0 ?_
 refine tK ?_
 refine tER ([(9990,2)],[],[]) kf ?_
 refine tK ?_
 exact eF1
end Go.Proofs
