import Derived.Test.YtbhfokahocgndabGreatPvQ3
import Derived.Test.YtbhfokahocgndabGreatH8
import Derived.Test.YtbhfokahocgndabGreatC60
/- Contracts of functions: all others are sent what they lack. -/
set_option linter.unusedSimpArgs false
set_option linter.unusedVariables false
set_option maxHeartbeats 16000000
namespace Go.Proofs
open Go.Pv
set_option maxRecDepth 100000
theorem zfl {id bits:Int}{n:Nat}{v:Int} (h:v ∈ othN id bits n):0≤v∧v < n:=by
 unfold othN at h
 obtain ⟨k,hk,rfl⟩:=List.mem_map.1 h
 have:=List.mem_range.1 (List.mem_filter.1 hk).1
 omega
def zar (r:Rft) (i:Int):List PV:=if r.next.at i.toNat≤r.hard.base then msgV 7 r.id i r.hard.term r.hard.base r.hard.baseTerm r.commit r.round false .nl r.hard.baseConf (.sl 1 (r.hard.snap.map encB))
 else msgV 5 r.id i r.hard.term (feedP r.hard (r.next.at i.toNat)) (zau r.hard (feedP r.hard (r.next.at i.toNat))) r.commit r.round false (.sl 16 ((feedL r.hard (r.next.at i.toNat)).map Ent.enc)) cz .nl
noncomputable def allL (r:Rft):List Int:=othN r.id (bor (bor (bor (zab r).full (zab r).wit) (zab r).learn) (zab r).lwit) 7
structure SendOk (r:Rft):Prop where
 log:r.hard.log.length≤4294967
 snap:r.hard.snap.length≤4294967296
 base:0≤r.hard.base∧r.hard.base≤1099511627776
 next:∀ i,i < 7→isI (r.next.at i)
abbrev obF (x:Rft) (out:List (List PV)):List (Nat×Option (Bool×Nat×List (List PV))):=[(9990,some (true,1,x.hard.snap.map encB)),(9991,some (true,16,x.hard.log.map Ent.enc)),(9992,rdO x),(9993,none),(1,some (false,16,out))]
abbrev repF (x:Rft) (out:List (List PV)):List PV:=repV x (.sl 1 (x.hard.snap.map encB)) (.sl 16 (x.hard.log.map Ent.enc)) (rdW x 9992) (.ow 1 0 out.length)
theorem zp0 (r : Rft) (hok : SendOk r) (out : List (List PV)) (ho : out.length ≤ 4000000) :
    CtrE Tryz.prog 119 [.pt 9990 0] [(9990,repI r out)] (obI r out) (.tu []) [(9990,repF r (out++(allL r).map (zar r)))] (obF r (out++(allL r).map (zar r))):=by
 have hm:r.hard.log.length≤maxLen:=zad (by have:=hok.log;omega)
 have kc:=zdp r hm
 have ka:=c_All (zab r)
 have ko:=zob r out (bor (bor (bor (zab r).full (zab r).wit) (zab r).learn) (zab r).lwit)
 have hlen:(allL r).length≤7:=zc5 _ _ _
 have hin:∀ v ∈ allL r,0≤v∧v < 7:=fun v hv=>zfl hv
 unfold allL at hlen hin ⊢
 have ksS:=fun (o:List (List PV)) (ho:o.length≤4294967) (i:Int)=>z3q r o ho 7 0 0 0 r.hard.base r.hard.baseTerm r.commit r.round false r.hard.baseConf (r.hard.snap.map encB) i r.hard.term
 have ksA:=fun (nx:Int) (o:List (List PV)) (ho:o.length≤4294967) (i:Int)=>z4q r o ho 5 0 0 0 (feedP r.hard nx) (zau r.hard (feedP r.hard nx)) r.commit r.round false cz ((feedL r.hard nx).map Ent.enc) i r.hard.term
 have kfS:=fun (nx:Int) (h:nx≤r.hard.base)=>c_FeedS r.hard hok.snap nx h
 have kfA:=fun (nx:Int) (h:r.hard.base < nx) (hI:isI nx)=>c_FeedA r.hard hok.snap hok.log (by have:=hok.base;unfold isI;omega) nx h hI hok.base
 generalize othN r.id (bor (bor (bor (zab r).full (zab r).wit) (zab r).learn) (zab r).lwit) 7=vs at *
 have hvm:(vs.map encI).length=vs.length:=List.length_map ..
 refine zaj Tryz.func119 ?_;conv=>whnf
 refine tO ?_
 refine tO ?_
 refine tO ?_
 refine tCE kc ?_
 refine tC ka ?_
 refine tE ([(9990,9990)],[(9990,9990),(9991,9991),(9992,9992),(9993,9993)],[(1,901)]) ko ?_
 refine z1g 9993 2000 rfl rfl ?_
 refine zx4 9990 rfl ?_
 refine zx4 9991 rfl ?_
 refine zpl 9990 9 9990 _ _ rfl rfl rfl rfl ?_
 refine zpl 9990 10 9991 _ _ rfl rfl rfl rfl ?_
 conv=>whnf
 refine tFor (fun i:Nat=>i≤vs.length) (fun i=>[(14,iv i)]) (fun i=>[(9990,repV r (.sl 1 (r.hard.snap.map encB)) (.sl 16 (r.hard.log.map Ent.enc)) (rdW r 9992) (.ow 2000 0 (out++(vs.take i).map (zar r)).length))]) (fun i=>[(9990,some (true,1,r.hard.snap.map encB)),(9991,some (true,16,r.hard.log.map Ent.enc)),(9992,rdO r),(9993,none),(901,some (false,1,vs.map encI)),(2000,some (false,16,out++(vs.take i).map (zar r)))]) [(9990,9990),(9991,9991),(9992,9992),(9993,9993),(901,901),(2000,2000)] (fun i=>vs.length - i) 0 (Nat.zero_le _) ?_ ?_
 ·(refine tWK ?_;and_intros<;>try exact ⟨⟩)
  all_goals first | rfl | (refine zbi (by kernel_rfl) ?_;exact (List.append_nil _).symm) | exact (congrArg List.length (List.append_nil _)).symm | trace_state
 intro i hi
 have hol:(out++(vs.take i).map (zar r)).length≤4294967:=by rw [List.length_append,List.length_map,List.length_take];omega
 refine tS ?_ ?_<;>intro h
 ·have hlt:i < vs.length:=by omega
  clear h
  have hrow:(vs.map encI)[0+((i:Nat):Int).toNat]?=some (encI (vs[i]'hlt)):=by
   rw [Nat.zero_add,Int.toNat_natCast,List.getElem?_map,List.getElem?_eq_getElem hlt];rfl
  have hsucc:out++(vs.take (i+1)).map (zar r)=(out++(vs.take i).map (zar r))++[zar r (vs[i]'hlt)]:=by
   rw [List.take_succ_eq_append_getElem hlt,List.map_append,List.append_assoc];rfl
  have hv:=hin _ (List.getElem_mem hlt)
  generalize vs[i]'hlt=v at *
  refine ⟨⟨by omega,by omega⟩,?_⟩
  conv=>whnf
  refine ⟨_,hrow,?_⟩
  conv=>whnf
  refine ⟨⟨hv.1,hv.2⟩,?_⟩
  have hnx:=hok.next v.toNat (by omega)
  have hfr:zar r v=if r.next.at v.toNat≤r.hard.base then msgV 7 r.id v r.hard.term r.hard.base r.hard.baseTerm r.commit r.round false .nl r.hard.baseConf (.sl 1 (r.hard.snap.map encB)) else msgV 5 r.id v r.hard.term (feedP r.hard (r.next.at v.toNat)) (zau r.hard (feedP r.hard (r.next.at v.toNat))) r.commit r.round false (.sl 16 ((feedL r.hard (r.next.at v.toNat)).map Ent.enc)) cz .nl:=rfl
  rcases zct hv with e | e | e | e | e | e | e
  ·have en:r.next.at v.toNat=r.next.a0:=by rw [e];rfl
   rw [en] at hnx hfr
   rw [e]
   by_cases hle:r.next.a0≤r.hard.base
   ·rw [if_pos (show r.next.a0≤r.hard.base from hle)] at hfr
    rw [hfr] at hsucc
    have kf:=kfS _ hle
    have k:=ksS _ hol v
    refine tC kf ?_
    refine tN0 ?_
    refine tE ([(9990,9990)],[(9990,9992),(9991,2000)],[(1,902)]) k ?_
    refine ⟨i+1,[(9990,9990),(9991,9991),(9992,9992),(9993,9993),(901,901),(2000,902)],⟨by omega,by omega⟩,?_⟩
    rw [hsucc]
    exact wkE
   ·rw [if_neg (show ¬ r.next.a0≤r.hard.base from hle)] at hfr
    rw [hfr] at hsucc
    have kf:=kfA r.next.a0 (by show r.hard.base < r.next.a0;omega) hnx
    have k:=ksA r.next.a0 _ hol v
    refine tC kf ?_
    refine tN0 ?_
    refine tE ([(9990,9990)],[(9990,9992),(9991,2000)],[(1,902)]) k ?_
    refine ⟨i+1,[(9990,9990),(9991,9991),(9992,9992),(9993,9993),(901,901),(2000,902)],⟨by omega,by omega⟩,?_⟩
    rw [hsucc]
    exact wkE
  ·have en:r.next.at v.toNat=r.next.a1:=by rw [e];rfl
   rw [en] at hnx hfr
   rw [e]
   by_cases hle:r.next.a1≤r.hard.base
   ·rw [if_pos (show r.next.a1≤r.hard.base from hle)] at hfr
    rw [hfr] at hsucc
    have kf:=kfS _ hle
    have k:=ksS _ hol v
    refine tC kf ?_
    refine tN0 ?_
    refine tE ([(9990,9990)],[(9990,9992),(9991,2000)],[(1,902)]) k ?_
    refine ⟨i+1,[(9990,9990),(9991,9991),(9992,9992),(9993,9993),(901,901),(2000,902)],⟨by omega,by omega⟩,?_⟩
    rw [hsucc]
    exact wkE
   ·rw [if_neg (show ¬ r.next.a1≤r.hard.base from hle)] at hfr
    rw [hfr] at hsucc
    have kf:=kfA r.next.a1 (by show r.hard.base < r.next.a1;omega) hnx
    have k:=ksA r.next.a1 _ hol v
    refine tC kf ?_
    refine tN0 ?_
    refine tE ([(9990,9990)],[(9990,9992),(9991,2000)],[(1,902)]) k ?_
    refine ⟨i+1,[(9990,9990),(9991,9991),(9992,9992),(9993,9993),(901,901),(2000,902)],⟨by omega,by omega⟩,?_⟩
    rw [hsucc]
    exact wkE
  ·have en:r.next.at v.toNat=r.next.a2:=by rw [e];rfl
   rw [en] at hnx hfr
   rw [e]
   by_cases hle:r.next.a2≤r.hard.base
   ·rw [if_pos (show r.next.a2≤r.hard.base from hle)] at hfr
    rw [hfr] at hsucc
    have kf:=kfS _ hle
    have k:=ksS _ hol v
    refine tC kf ?_
    refine tN0 ?_
    refine tE ([(9990,9990)],[(9990,9992),(9991,2000)],[(1,902)]) k ?_
    refine ⟨i+1,[(9990,9990),(9991,9991),(9992,9992),(9993,9993),(901,901),(2000,902)],⟨by omega,by omega⟩,?_⟩
    rw [hsucc]
    exact wkE
   ·rw [if_neg (show ¬ r.next.a2≤r.hard.base from hle)] at hfr
    rw [hfr] at hsucc
    have kf:=kfA r.next.a2 (by show r.hard.base < r.next.a2;omega) hnx
    have k:=ksA r.next.a2 _ hol v
    refine tC kf ?_
    refine tN0 ?_
    refine tE ([(9990,9990)],[(9990,9992),(9991,2000)],[(1,902)]) k ?_
    refine ⟨i+1,[(9990,9990),(9991,9991),(9992,9992),(9993,9993),(901,901),(2000,902)],⟨by omega,by omega⟩,?_⟩
    rw [hsucc]
    exact wkE
  ·have en:r.next.at v.toNat=r.next.a3:=by rw [e];rfl
   rw [en] at hnx hfr
   rw [e]
   by_cases hle:r.next.a3≤r.hard.base
   ·rw [if_pos (show r.next.a3≤r.hard.base from hle)] at hfr
    rw [hfr] at hsucc
    have kf:=kfS _ hle
    have k:=ksS _ hol v
    refine tC kf ?_
    refine tN0 ?_
    refine tE ([(9990,9990)],[(9990,9992),(9991,2000)],[(1,902)]) k ?_
    refine ⟨i+1,[(9990,9990),(9991,9991),(9992,9992),(9993,9993),(901,901),(2000,902)],⟨by omega,by omega⟩,?_⟩
    rw [hsucc]
    exact wkE
   ·rw [if_neg (show ¬ r.next.a3≤r.hard.base from hle)] at hfr
    rw [hfr] at hsucc
    have kf:=kfA r.next.a3 (by show r.hard.base < r.next.a3;omega) hnx
    have k:=ksA r.next.a3 _ hol v
    refine tC kf ?_
    refine tN0 ?_
    refine tE ([(9990,9990)],[(9990,9992),(9991,2000)],[(1,902)]) k ?_
    refine ⟨i+1,[(9990,9990),(9991,9991),(9992,9992),(9993,9993),(901,901),(2000,902)],⟨by omega,by omega⟩,?_⟩
    rw [hsucc]
    exact wkE
  ·have en:r.next.at v.toNat=r.next.a4:=by rw [e];rfl
   rw [en] at hnx hfr
   rw [e]
   by_cases hle:r.next.a4≤r.hard.base
   ·rw [if_pos (show r.next.a4≤r.hard.base from hle)] at hfr
    rw [hfr] at hsucc
    have kf:=kfS _ hle
    have k:=ksS _ hol v
    refine tC kf ?_
    refine tN0 ?_
    refine tE ([(9990,9990)],[(9990,9992),(9991,2000)],[(1,902)]) k ?_
    refine ⟨i+1,[(9990,9990),(9991,9991),(9992,9992),(9993,9993),(901,901),(2000,902)],⟨by omega,by omega⟩,?_⟩
    rw [hsucc]
    exact wkE
   ·rw [if_neg (show ¬ r.next.a4≤r.hard.base from hle)] at hfr
    rw [hfr] at hsucc
    have kf:=kfA r.next.a4 (by show r.hard.base < r.next.a4;omega) hnx
    have k:=ksA r.next.a4 _ hol v
    refine tC kf ?_
    refine tN0 ?_
    refine tE ([(9990,9990)],[(9990,9992),(9991,2000)],[(1,902)]) k ?_
    refine ⟨i+1,[(9990,9990),(9991,9991),(9992,9992),(9993,9993),(901,901),(2000,902)],⟨by omega,by omega⟩,?_⟩
    rw [hsucc]
    exact wkE
  ·have en:r.next.at v.toNat=r.next.a5:=by rw [e];rfl
   rw [en] at hnx hfr
   rw [e]
   by_cases hle:r.next.a5≤r.hard.base
   ·rw [if_pos (show r.next.a5≤r.hard.base from hle)] at hfr
    rw [hfr] at hsucc
    have kf:=kfS _ hle
    have k:=ksS _ hol v
    refine tC kf ?_
    refine tN0 ?_
    refine tE ([(9990,9990)],[(9990,9992),(9991,2000)],[(1,902)]) k ?_
    refine ⟨i+1,[(9990,9990),(9991,9991),(9992,9992),(9993,9993),(901,901),(2000,902)],⟨by omega,by omega⟩,?_⟩
    rw [hsucc]
    exact wkE
   ·rw [if_neg (show ¬ r.next.a5≤r.hard.base from hle)] at hfr
    rw [hfr] at hsucc
    have kf:=kfA r.next.a5 (by show r.hard.base < r.next.a5;omega) hnx
    have k:=ksA r.next.a5 _ hol v
    refine tC kf ?_
    refine tN0 ?_
    refine tE ([(9990,9990)],[(9990,9992),(9991,2000)],[(1,902)]) k ?_
    refine ⟨i+1,[(9990,9990),(9991,9991),(9992,9992),(9993,9993),(901,901),(2000,902)],⟨by omega,by omega⟩,?_⟩
    rw [hsucc]
    exact wkE
  ·have en:r.next.at v.toNat=r.next.a6:=by rw [e];rfl
   rw [en] at hnx hfr
   rw [e]
   by_cases hle:r.next.a6≤r.hard.base
   ·rw [if_pos (show r.next.a6≤r.hard.base from hle)] at hfr
    rw [hfr] at hsucc
    have kf:=kfS _ hle
    have k:=ksS _ hol v
    refine tC kf ?_
    refine tN0 ?_
    refine tE ([(9990,9990)],[(9990,9992),(9991,2000)],[(1,902)]) k ?_
    refine ⟨i+1,[(9990,9990),(9991,9991),(9992,9992),(9993,9993),(901,901),(2000,902)],⟨by omega,by omega⟩,?_⟩
    rw [hsucc]
    exact wkE
   ·rw [if_neg (show ¬ r.next.a6≤r.hard.base from hle)] at hfr
    rw [hfr] at hsucc
    have kf:=kfA r.next.a6 (by show r.hard.base < r.next.a6;omega) hnx
    have k:=ksA r.next.a6 _ hol v
    refine tC kf ?_
    refine tN0 ?_
    refine tE ([(9990,9990)],[(9990,9992),(9991,2000)],[(1,902)]) k ?_
    refine ⟨i+1,[(9990,9990),(9991,9991),(9992,9992),(9993,9993),(901,901),(2000,902)],⟨by omega,by omega⟩,?_⟩
    rw [hsucc]
    exact wkE
 ·have ei:i=vs.length:=by omega
  subst ei
  rw [List.take_length]
  exact eX [(9990,9990),(9991,9991),(9992,9992),(9993,9993),(1,2000)]
end Go.Proofs
