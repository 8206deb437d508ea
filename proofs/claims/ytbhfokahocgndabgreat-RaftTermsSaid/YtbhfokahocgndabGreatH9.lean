import Derived.Test.YtbhfokahocgndabGreatC1
import Derived.Test.YtbhfokahocgndabGreatH8
import Derived.Test.YtbhfokahocgndabGreatC60
/- Contracts of functions: all others are sent what they lack. -/
set_option linter.unusedSimpArgs false
set_option linter.unusedVariables false
namespace Go.Proofs
open Go.Pv
set_option maxRecDepth 100000
theorem zex {id bits:Int}{n:Nat}{v:Int} (h:v ∈ othN id bits n):0≤v∧v < n:=by
 unfold othN at h
 obtain ⟨k,hk,rfl⟩:=List.mem_map.1 h
 have:=List.mem_range.1 (List.mem_filter.1 hk).1
 omega
def zba (r:Rft) (i:Int):List PV:=if r.next.at i.toNat≤r.hard.base then msgV 7 r.id i r.hard.term r.hard.base r.hard.baseTerm r.commit r.round false .nl r.hard.baseConf (.sl 1 (r.hard.snap.map encB))
 else msgV 5 r.id i r.hard.term (feedP r.hard (r.next.at i.toNat)) (zbh r.hard (feedP r.hard (r.next.at i.toNat))) r.commit r.round false (.sl 16 ((feedL r.hard (r.next.at i.toNat)).map Ent.enc)) cz .nl
noncomputable def allL (r:Rft):List Int:=othN r.id (bor (bor (bor (zac r).full (zac r).wit) (zac r).learn) (zac r).lwit) 7
structure SendOk (r:Rft):Prop where
 log:r.hard.log.length≤4294967
 snap:r.hard.snap.length≤4294967296
 base:0≤r.hard.base∧r.hard.base≤1099511627776
 next:∀ i,i < 7→isI (r.next.at i)
abbrev obF (x:Rft) (out:List (List PV)):List (Nat×Option (Bool×Nat×List (List PV))):=[(1000000,some (true,1,x.hard.snap.map encB)),(1000001,some (true,16,x.hard.log.map Ent.enc)),(1000002,rdO x),(1000003,none),(1,some (false,16,out))]
abbrev repF (x:Rft) (out:List (List PV)):List PV:=repV x (.sl 1 (x.hard.snap.map encB)) (.sl 16 (x.hard.log.map Ent.enc)) (rdW x 1000002) (.ow 1 0 out.length)
set_option maxHeartbeats 16000000 in
theorem zni (r : Rft) (hok : SendOk r) (out : List (List PV)) (ho : out.length ≤ 4000000) :
    CtrE Tryz.prog 119 [.pt 1000000 0] [(1000000,repI r out)] (obI r out) (.tu []) [(1000000,repF r (out++(allL r).map (zba r)))] (obF r (out++(allL r).map (zba r))):=by
 have hm:r.hard.log.length≤maxLen:=zak (by have:=hok.log;omega)
 have kc:=zem r hm
 have ka:=c_All (zac r)
 have ko:=zlx r out (bor (bor (bor (zac r).full (zac r).wit) (zac r).learn) (zac r).lwit)
 have hlen:(allL r).length≤7:=zc4 _ _ _
 have hin:∀ v ∈ allL r,0≤v∧v < 7:=fun v hv=>zex hv
 unfold allL at hlen hin ⊢
 have ksS:=fun (o:List (List PV)) (ho:o.length≤4294967) (i:Int)=>zxp r o ho 7 0 0 0 r.hard.base r.hard.baseTerm r.commit r.round false r.hard.baseConf (r.hard.snap.map encB) i r.hard.term
 have ksA:=fun (nx:Int) (o:List (List PV)) (ho:o.length≤4294967) (i:Int)=>zxk r o ho 5 0 0 0 (feedP r.hard nx) (zbh r.hard (feedP r.hard nx)) r.commit r.round false cz ((feedL r.hard nx).map Ent.enc) i r.hard.term
 have kfS:=fun (nx:Int) (h:nx≤r.hard.base)=>c_FeedS r.hard hok.snap nx h
 have kfA:=fun (nx:Int) (h:r.hard.base < nx) (hI:isI nx)=>c_FeedA r.hard hok.snap hok.log (by have:=hok.base;unfold isI;omega) nx h hI hok.base
 generalize othN r.id (bor (bor (bor (zac r).full (zac r).wit) (zac r).learn) (zac r).lwit) 7=vs at *
 have hvm:(vs.map encI).length=vs.length:=List.length_map ..
 refine za1 Tryz.func119 ?_;conv=>whnf
 ((try (refine Exists.intro none ?_;conv=>whnf));refine tOwn0 ?_;conv=>whnf)
 ((try (refine Exists.intro none ?_;conv=>whnf));refine tOwn0 ?_;conv=>whnf)
 ((try (refine Exists.intro none ?_;conv=>whnf));refine tOwn0 ?_;conv=>whnf)
 ((try ((refine Exists.intro none ?_);(conv=>whnf)));first | (refine zai (kc) (by simp only [List.drop_zero,List.take_length]) ?_;conv=>whnf))
 ((try (refine Exists.intro none ?_;conv=>whnf));(with_reducible refine zaa (ka) ?_);conv=>whnf)
 ((refine Exists.intro (some ([(1000000,1000000)],[(1000000,1000000),(1000001,1000001),(1000002,1000002),(1000003,1000003)],[(1,901)])) ?_);(conv=>whnf);first | ((with_reducible refine zam (ko) ?_);conv=>whnf))
 refine zww 1000003 2000 rfl rfl ?_
 refine zvs 1000000 rfl ?_
 refine zvs 1000001 rfl ?_
 refine zn6 1000000 9 1000000 _ _ rfl rfl rfl rfl ?_
 refine zn6 1000000 10 1000001 _ _ rfl rfl rfl rfl ?_
 conv=>whnf
 refine tFor (fun i:Nat=>i≤vs.length) (fun i=>[(14,iv i)]) (fun i=>[(1000000,repV r (.sl 1 (r.hard.snap.map encB)) (.sl 16 (r.hard.log.map Ent.enc)) (rdW r 1000002) (.ow 2000 0 (out++(vs.take i).map (zba r)).length))]) (fun i=>[(1000000,some (true,1,r.hard.snap.map encB)),(1000001,some (true,16,r.hard.log.map Ent.enc)),(1000002,rdO r),(1000003,none),(901,some (false,1,vs.map encI)),(2000,some (false,16,out++(vs.take i).map (zba r)))]) [(1000000,1000000),(1000001,1000001),(1000002,1000002),(1000003,1000003),(901,901),(2000,2000)] (fun i=>vs.length - i) 0 (Nat.zero_le _) ?_ ?_
 ·conv=>whnf
  (refine wkx ?_;refine ⟨?_,?_,?_⟩<;>(conv=>whnf)<;>repeat' first | exact wkc | (with_reducible refine And.intro ?_ ?_)<;>first | exact wks | refine wko ?_ | refine wki ?_ | refine wkb ?_ | (refine zan ?_;conv=>whnf) | (refine zah ?_;conv=>whnf) | (refine zag ?_;conv=>whnf) | conv=>whnf)
  all_goals first | rfl | (refine zaz (by kernel_rfl) ?_;exact (List.append_nil _).symm) | exact (congrArg List.length (List.append_nil _)).symm | trace_state
 intro i hi
 have hol:(out++(vs.take i).map (zba r)).length≤4294967:=by rw [List.length_append,List.length_map,List.length_take];omega
 conv=>whnf
 (refine tSp (fun h=>?_) (fun h=>?_)<;>conv=>whnf)
 ·have hlt:i < vs.length:=by omega
  clear h
  have hrow:(vs.map encI)[0+((i:Nat):Int).toNat]?=some (encI (vs[i]'hlt)):=by
   rw [Nat.zero_add,Int.toNat_natCast,List.getElem?_map,List.getElem?_eq_getElem hlt];rfl
  have hsucc:out++(vs.take (i+1)).map (zba r)=(out++(vs.take i).map (zba r))++[zba r (vs[i]'hlt)]:=by
   rw [List.take_succ_eq_append_getElem hlt,List.map_append,List.append_assoc];rfl
  have hv:=hin _ (List.getElem_mem hlt)
  generalize vs[i]'hlt=v at *
  refine ⟨⟨by omega,by omega⟩,?_⟩
  conv=>whnf
  refine ⟨_,hrow,?_⟩
  conv=>whnf
  refine ⟨⟨hv.1,hv.2⟩,?_⟩
  have hnx:=hok.next v.toNat (by omega)
  have hfr:zba r v=if r.next.at v.toNat≤r.hard.base then msgV 7 r.id v r.hard.term r.hard.base r.hard.baseTerm r.commit r.round false .nl r.hard.baseConf (.sl 1 (r.hard.snap.map encB)) else msgV 5 r.id v r.hard.term (feedP r.hard (r.next.at v.toNat)) (zbh r.hard (feedP r.hard (r.next.at v.toNat))) r.commit r.round false (.sl 16 ((feedL r.hard (r.next.at v.toNat)).map Ent.enc)) cz .nl:=rfl
  rcases zcm hv with e | e | e | e | e | e | e
  ·have en:r.next.at v.toNat=r.next.a0:=by rw [e];rfl
   rw [en] at hnx hfr
   rw [e]
   by_cases hle:r.next.a0≤r.hard.base
   ·rw [if_pos (show r.next.a0≤r.hard.base from hle)] at hfr
    rw [hfr] at hsucc
    have kf:=kfS _ hle
    have k:=ksS _ hol v
    conv=>whnf
    ((try (refine Exists.intro none ?_;conv=>whnf));(with_reducible refine zaa (kf) ?_);conv=>whnf)
    (refine tNew0 ?_;conv=>whnf)
    ((refine Exists.intro (some ([(1000000,1000000)],[(1000000,1000002),(1000001,2000)],[(1,902)])) ?_);(conv=>whnf);first | ((with_reducible refine zam (k) ?_);conv=>whnf))
    refine ⟨i+1,[(1000000,1000000),(1000001,1000001),(1000002,1000002),(1000003,1000003),(901,901),(2000,902)],⟨by omega,by omega⟩,?_⟩
    rw [hsucc]
    conv=>whnf
    exact wkD
   ·rw [if_neg (show ¬ r.next.a0≤r.hard.base from hle)] at hfr
    rw [hfr] at hsucc
    have kf:=kfA r.next.a0 (by show r.hard.base < r.next.a0;omega) hnx
    have k:=ksA r.next.a0 _ hol v
    conv=>whnf
    ((try (refine Exists.intro none ?_;conv=>whnf));(with_reducible refine zaa (kf) ?_);conv=>whnf)
    (refine tNew0 ?_;conv=>whnf)
    ((refine Exists.intro (some ([(1000000,1000000)],[(1000000,1000002),(1000001,2000)],[(1,902)])) ?_);(conv=>whnf);first | ((with_reducible refine zam (k) ?_);conv=>whnf))
    refine ⟨i+1,[(1000000,1000000),(1000001,1000001),(1000002,1000002),(1000003,1000003),(901,901),(2000,902)],⟨by omega,by omega⟩,?_⟩
    rw [hsucc]
    conv=>whnf
    exact wkD
  ·have en:r.next.at v.toNat=r.next.a1:=by rw [e];rfl
   rw [en] at hnx hfr
   rw [e]
   by_cases hle:r.next.a1≤r.hard.base
   ·rw [if_pos (show r.next.a1≤r.hard.base from hle)] at hfr
    rw [hfr] at hsucc
    have kf:=kfS _ hle
    have k:=ksS _ hol v
    conv=>whnf
    ((try (refine Exists.intro none ?_;conv=>whnf));(with_reducible refine zaa (kf) ?_);conv=>whnf)
    (refine tNew0 ?_;conv=>whnf)
    ((refine Exists.intro (some ([(1000000,1000000)],[(1000000,1000002),(1000001,2000)],[(1,902)])) ?_);(conv=>whnf);first | ((with_reducible refine zam (k) ?_);conv=>whnf))
    refine ⟨i+1,[(1000000,1000000),(1000001,1000001),(1000002,1000002),(1000003,1000003),(901,901),(2000,902)],⟨by omega,by omega⟩,?_⟩
    rw [hsucc]
    conv=>whnf
    exact wkD
   ·rw [if_neg (show ¬ r.next.a1≤r.hard.base from hle)] at hfr
    rw [hfr] at hsucc
    have kf:=kfA r.next.a1 (by show r.hard.base < r.next.a1;omega) hnx
    have k:=ksA r.next.a1 _ hol v
    conv=>whnf
    ((try (refine Exists.intro none ?_;conv=>whnf));(with_reducible refine zaa (kf) ?_);conv=>whnf)
    (refine tNew0 ?_;conv=>whnf)
    ((refine Exists.intro (some ([(1000000,1000000)],[(1000000,1000002),(1000001,2000)],[(1,902)])) ?_);(conv=>whnf);first | ((with_reducible refine zam (k) ?_);conv=>whnf))
    refine ⟨i+1,[(1000000,1000000),(1000001,1000001),(1000002,1000002),(1000003,1000003),(901,901),(2000,902)],⟨by omega,by omega⟩,?_⟩
    rw [hsucc]
    conv=>whnf
    exact wkD
  ·have en:r.next.at v.toNat=r.next.a2:=by rw [e];rfl
   rw [en] at hnx hfr
   rw [e]
   by_cases hle:r.next.a2≤r.hard.base
   ·rw [if_pos (show r.next.a2≤r.hard.base from hle)] at hfr
    rw [hfr] at hsucc
    have kf:=kfS _ hle
    have k:=ksS _ hol v
    conv=>whnf
    ((try (refine Exists.intro none ?_;conv=>whnf));(with_reducible refine zaa (kf) ?_);conv=>whnf)
    (refine tNew0 ?_;conv=>whnf)
    ((refine Exists.intro (some ([(1000000,1000000)],[(1000000,1000002),(1000001,2000)],[(1,902)])) ?_);(conv=>whnf);first | ((with_reducible refine zam (k) ?_);conv=>whnf))
    refine ⟨i+1,[(1000000,1000000),(1000001,1000001),(1000002,1000002),(1000003,1000003),(901,901),(2000,902)],⟨by omega,by omega⟩,?_⟩
    rw [hsucc]
    conv=>whnf
    exact wkD
   ·rw [if_neg (show ¬ r.next.a2≤r.hard.base from hle)] at hfr
    rw [hfr] at hsucc
    have kf:=kfA r.next.a2 (by show r.hard.base < r.next.a2;omega) hnx
    have k:=ksA r.next.a2 _ hol v
    conv=>whnf
    ((try (refine Exists.intro none ?_;conv=>whnf));(with_reducible refine zaa (kf) ?_);conv=>whnf)
    (refine tNew0 ?_;conv=>whnf)
    ((refine Exists.intro (some ([(1000000,1000000)],[(1000000,1000002),(1000001,2000)],[(1,902)])) ?_);(conv=>whnf);first | ((with_reducible refine zam (k) ?_);conv=>whnf))
    refine ⟨i+1,[(1000000,1000000),(1000001,1000001),(1000002,1000002),(1000003,1000003),(901,901),(2000,902)],⟨by omega,by omega⟩,?_⟩
    rw [hsucc]
    conv=>whnf
    exact wkD
  ·have en:r.next.at v.toNat=r.next.a3:=by rw [e];rfl
   rw [en] at hnx hfr
   rw [e]
   by_cases hle:r.next.a3≤r.hard.base
   ·rw [if_pos (show r.next.a3≤r.hard.base from hle)] at hfr
    rw [hfr] at hsucc
    have kf:=kfS _ hle
    have k:=ksS _ hol v
    conv=>whnf
    ((try (refine Exists.intro none ?_;conv=>whnf));(with_reducible refine zaa (kf) ?_);conv=>whnf)
    (refine tNew0 ?_;conv=>whnf)
    ((refine Exists.intro (some ([(1000000,1000000)],[(1000000,1000002),(1000001,2000)],[(1,902)])) ?_);(conv=>whnf);first | ((with_reducible refine zam (k) ?_);conv=>whnf))
    refine ⟨i+1,[(1000000,1000000),(1000001,1000001),(1000002,1000002),(1000003,1000003),(901,901),(2000,902)],⟨by omega,by omega⟩,?_⟩
    rw [hsucc]
    conv=>whnf
    exact wkD
   ·rw [if_neg (show ¬ r.next.a3≤r.hard.base from hle)] at hfr
    rw [hfr] at hsucc
    have kf:=kfA r.next.a3 (by show r.hard.base < r.next.a3;omega) hnx
    have k:=ksA r.next.a3 _ hol v
    conv=>whnf
    ((try (refine Exists.intro none ?_;conv=>whnf));(with_reducible refine zaa (kf) ?_);conv=>whnf)
    (refine tNew0 ?_;conv=>whnf)
    ((refine Exists.intro (some ([(1000000,1000000)],[(1000000,1000002),(1000001,2000)],[(1,902)])) ?_);(conv=>whnf);first | ((with_reducible refine zam (k) ?_);conv=>whnf))
    refine ⟨i+1,[(1000000,1000000),(1000001,1000001),(1000002,1000002),(1000003,1000003),(901,901),(2000,902)],⟨by omega,by omega⟩,?_⟩
    rw [hsucc]
    conv=>whnf
    exact wkD
  ·have en:r.next.at v.toNat=r.next.a4:=by rw [e];rfl
   rw [en] at hnx hfr
   rw [e]
   by_cases hle:r.next.a4≤r.hard.base
   ·rw [if_pos (show r.next.a4≤r.hard.base from hle)] at hfr
    rw [hfr] at hsucc
    have kf:=kfS _ hle
    have k:=ksS _ hol v
    conv=>whnf
    ((try (refine Exists.intro none ?_;conv=>whnf));(with_reducible refine zaa (kf) ?_);conv=>whnf)
    (refine tNew0 ?_;conv=>whnf)
    ((refine Exists.intro (some ([(1000000,1000000)],[(1000000,1000002),(1000001,2000)],[(1,902)])) ?_);(conv=>whnf);first | ((with_reducible refine zam (k) ?_);conv=>whnf))
    refine ⟨i+1,[(1000000,1000000),(1000001,1000001),(1000002,1000002),(1000003,1000003),(901,901),(2000,902)],⟨by omega,by omega⟩,?_⟩
    rw [hsucc]
    conv=>whnf
    exact wkD
   ·rw [if_neg (show ¬ r.next.a4≤r.hard.base from hle)] at hfr
    rw [hfr] at hsucc
    have kf:=kfA r.next.a4 (by show r.hard.base < r.next.a4;omega) hnx
    have k:=ksA r.next.a4 _ hol v
    conv=>whnf
    ((try (refine Exists.intro none ?_;conv=>whnf));(with_reducible refine zaa (kf) ?_);conv=>whnf)
    (refine tNew0 ?_;conv=>whnf)
    ((refine Exists.intro (some ([(1000000,1000000)],[(1000000,1000002),(1000001,2000)],[(1,902)])) ?_);(conv=>whnf);first | ((with_reducible refine zam (k) ?_);conv=>whnf))
    refine ⟨i+1,[(1000000,1000000),(1000001,1000001),(1000002,1000002),(1000003,1000003),(901,901),(2000,902)],⟨by omega,by omega⟩,?_⟩
    rw [hsucc]
    conv=>whnf
    exact wkD
  ·have en:r.next.at v.toNat=r.next.a5:=by rw [e];rfl
   rw [en] at hnx hfr
   rw [e]
   by_cases hle:r.next.a5≤r.hard.base
   ·rw [if_pos (show r.next.a5≤r.hard.base from hle)] at hfr
    rw [hfr] at hsucc
    have kf:=kfS _ hle
    have k:=ksS _ hol v
    conv=>whnf
    ((try (refine Exists.intro none ?_;conv=>whnf));(with_reducible refine zaa (kf) ?_);conv=>whnf)
    (refine tNew0 ?_;conv=>whnf)
    ((refine Exists.intro (some ([(1000000,1000000)],[(1000000,1000002),(1000001,2000)],[(1,902)])) ?_);(conv=>whnf);first | ((with_reducible refine zam (k) ?_);conv=>whnf))
    refine ⟨i+1,[(1000000,1000000),(1000001,1000001),(1000002,1000002),(1000003,1000003),(901,901),(2000,902)],⟨by omega,by omega⟩,?_⟩
    rw [hsucc]
    conv=>whnf
    exact wkD
   ·rw [if_neg (show ¬ r.next.a5≤r.hard.base from hle)] at hfr
    rw [hfr] at hsucc
    have kf:=kfA r.next.a5 (by show r.hard.base < r.next.a5;omega) hnx
    have k:=ksA r.next.a5 _ hol v
    conv=>whnf
    ((try (refine Exists.intro none ?_;conv=>whnf));(with_reducible refine zaa (kf) ?_);conv=>whnf)
    (refine tNew0 ?_;conv=>whnf)
    ((refine Exists.intro (some ([(1000000,1000000)],[(1000000,1000002),(1000001,2000)],[(1,902)])) ?_);(conv=>whnf);first | ((with_reducible refine zam (k) ?_);conv=>whnf))
    refine ⟨i+1,[(1000000,1000000),(1000001,1000001),(1000002,1000002),(1000003,1000003),(901,901),(2000,902)],⟨by omega,by omega⟩,?_⟩
    rw [hsucc]
    conv=>whnf
    exact wkD
  ·have en:r.next.at v.toNat=r.next.a6:=by rw [e];rfl
   rw [en] at hnx hfr
   rw [e]
   by_cases hle:r.next.a6≤r.hard.base
   ·rw [if_pos (show r.next.a6≤r.hard.base from hle)] at hfr
    rw [hfr] at hsucc
    have kf:=kfS _ hle
    have k:=ksS _ hol v
    conv=>whnf
    ((try (refine Exists.intro none ?_;conv=>whnf));(with_reducible refine zaa (kf) ?_);conv=>whnf)
    (refine tNew0 ?_;conv=>whnf)
    ((refine Exists.intro (some ([(1000000,1000000)],[(1000000,1000002),(1000001,2000)],[(1,902)])) ?_);(conv=>whnf);first | ((with_reducible refine zam (k) ?_);conv=>whnf))
    refine ⟨i+1,[(1000000,1000000),(1000001,1000001),(1000002,1000002),(1000003,1000003),(901,901),(2000,902)],⟨by omega,by omega⟩,?_⟩
    rw [hsucc]
    conv=>whnf
    exact wkD
   ·rw [if_neg (show ¬ r.next.a6≤r.hard.base from hle)] at hfr
    rw [hfr] at hsucc
    have kf:=kfA r.next.a6 (by show r.hard.base < r.next.a6;omega) hnx
    have k:=ksA r.next.a6 _ hol v
    conv=>whnf
    ((try (refine Exists.intro none ?_;conv=>whnf));(with_reducible refine zaa (kf) ?_);conv=>whnf)
    (refine tNew0 ?_;conv=>whnf)
    ((refine Exists.intro (some ([(1000000,1000000)],[(1000000,1000002),(1000001,2000)],[(1,902)])) ?_);(conv=>whnf);first | ((with_reducible refine zam (k) ?_);conv=>whnf))
    refine ⟨i+1,[(1000000,1000000),(1000001,1000001),(1000002,1000002),(1000003,1000003),(901,901),(2000,902)],⟨by omega,by omega⟩,?_⟩
    rw [hsucc]
    conv=>whnf
    exact wkD
 ·have ei:i=vs.length:=by omega
  subst ei
  rw [List.take_length]
  (refine zae [(1000000,1000000),(1000001,1000001),(1000002,1000002),(1000003,1000003),(1,2000)] [] ?_;(conv=>whnf);exact wkD)
end Go.Proofs
