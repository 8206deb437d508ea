import Derived.Test.YtbhfokahocgndabGreatC1
import Derived.Test.YtbhfokahocgndabGreatR3
import Derived.Test.YtbhfokahocgndabGreatPvV4
/- Contracts of functions: a message that is under way is put under way once more. -/
set_option linter.unusedSimpArgs false
set_option linter.unusedVariables false
namespace Go.Proofs
open Go.Pv
set_option maxRecDepth 100000
theorem cap_one {m:List (List PV)}{r:List PV} (h:m.length < 100):capM m [r]=m++[r]:=by
 unfold capM
 rw [List.take_of_length_le (by simp only [List.length_cons,List.length_nil];omega)]
theorem zxo {m:List (List PV)}{r:List PV} (h:¬ m.length < 100):capM m [r]=m:=by
 unfold capM
 rw [show 100 - m.length=0 by omega,List.take_zero,List.append_nil]
set_option maxHeartbeats 8000000 in
theorem zv4 (s : Svn) (m : List (List PV)) (hm : m.length ≤ 100) (j : Nat) (y : My) (hj : m[j]? = some y.enc) :
    CtrE Tryz.prog 38 [.pt 1000000 0,.ow 1000000 j 1] [(1000000,someI s m)] (someO m) (.tu [])
     [(1000000,someV s (.ow 1 0 (capM m [y.enc]).length))] [(1000000,none),(1,some (false,16,capM m [y.enc]))]:=by
 have hjl:=(List.getElem?_eq_some_iff.1 hj).1
 have hb1:(m.length+1) * 176≤140737488355328:=by omega
 have hb2:m.length+1≤maxLen:=zak (by omega)
 by_cases hc:m.length < 100
 ·rw [cap_one hc]
  obtain ⟨kd,fr,tt,tm,ix,lt,cm,rd,ye,cf,bd⟩:=y
  cases bd with
  | no =>
   refine za1 Tryz.func38 ?_;conv=>whnf
   refine tFor (fun i:Nat=>i≤1) (fun i=>[(4,iv i)]) (fun i=>match i with | 0=>[(1000000,someI s m)] | _+1=>[(1000000,someV s (.ow 1000 0 (m++[(⟨kd,fr,tt,tm,ix,lt,cm,rd,ye,cf,.no⟩:My).enc]).length))]) (fun i=>match i with | 0=>someO m | _+1=>[(1000000,none),(1000,some (false,16,m++[(⟨kd,fr,tt,tm,ix,lt,cm,rd,ye,cf,.no⟩:My).enc]))]) [(1000000,1000000)] (fun i=>1 - i) 0 (Nat.zero_le _) ?_ ?_
   ·conv=>whnf
    exact wkD
   intro i hi
   rcases (by omega:i=0∨i=1) with rfl | rfl
   ·conv=>whnf
    (first | refine tYes ?_ | refine tNo ?_)
    conv=>whnf
    refine ⟨⟨by decide,by decide⟩,?_⟩
    conv=>whnf
    refine ⟨_,hj,?_⟩
    conv=>whnf
    (refine And.intro rfl ?_;(conv=>whnf);refine And.intro (And.intro (And.intro (by kernel_rfl) (And.intro (Nat.le_refl _) (And.intro (hb1) (And.intro (hb2) (by intro r hr;rw [List.mem_singleton.1 hr];rfl))))) (And.intro (by decide) rfl)) ?_;conv=>whnf)
    refine ⟨⟨by omega,by simp only [List.length_cons,List.length_nil];omega⟩,?_⟩
    conv=>whnf
    refine ⟨_,zhp m _,?_⟩
    conv=>whnf
    refine ⟨1,[(1000000,1000000),(1000,464)],⟨by omega,by omega⟩,?_⟩
    conv=>whnf
    (refine wkx ?_;refine ⟨?_,?_,?_⟩<;>(conv=>whnf)<;>repeat' first | exact wkc | (with_reducible refine And.intro ?_ ?_)<;>first | exact wks | refine wko ?_ | refine wki ?_ | refine wkb ?_ | (refine zan ?_;conv=>whnf) | (refine zah ?_;conv=>whnf) | (refine zag ?_;conv=>whnf) | conv=>whnf)
    all_goals first | rfl | exact .inl rfl | exact w1 (by omega) | exact zf5 m _ _ | exact zaz (by kernel_rfl) (zfq m _ _) | trace_state
   ·conv=>whnf
    (refine zae [(1000000,1000000),(1,1000)] [] ?_;(conv=>whnf);exact wkD)
  | es el =>
   refine za1 Tryz.func38 ?_;conv=>whnf
   refine tFor (fun i:Nat=>i≤1) (fun i=>[(4,iv i)]) (fun i=>match i with | 0=>[(1000000,someI s m)] | _+1=>[(1000000,someV s (.ow 1000 0 (m++[(⟨kd,fr,tt,tm,ix,lt,cm,rd,ye,cf,.es el⟩:My).enc]).length))]) (fun i=>match i with | 0=>someO m | _+1=>[(1000000,none),(1000,some (false,16,m++[(⟨kd,fr,tt,tm,ix,lt,cm,rd,ye,cf,.es el⟩:My).enc]))]) [(1000000,1000000)] (fun i=>1 - i) 0 (Nat.zero_le _) ?_ ?_
   ·conv=>whnf
    exact wkD
   intro i hi
   rcases (by omega:i=0∨i=1) with rfl | rfl
   ·conv=>whnf
    (first | refine tYes ?_ | refine tNo ?_)
    conv=>whnf
    refine ⟨⟨by decide,by decide⟩,?_⟩
    conv=>whnf
    refine ⟨_,hj,?_⟩
    conv=>whnf
    (refine And.intro rfl ?_;(conv=>whnf);refine And.intro (And.intro (And.intro (by kernel_rfl) (And.intro (Nat.le_refl _) (And.intro (hb1) (And.intro (hb2) (by intro r hr;rw [List.mem_singleton.1 hr];rfl))))) (And.intro (by decide) rfl)) ?_;conv=>whnf)
    refine ⟨⟨by omega,by simp only [List.length_cons,List.length_nil];omega⟩,?_⟩
    conv=>whnf
    refine ⟨_,zhp m _,?_⟩
    conv=>whnf
    refine ⟨1,[(1000000,1000000),(1000,464)],⟨by omega,by omega⟩,?_⟩
    conv=>whnf
    (refine wkx ?_;refine ⟨?_,?_,?_⟩<;>(conv=>whnf)<;>repeat' first | exact wkc | (with_reducible refine And.intro ?_ ?_)<;>first | exact wks | refine wko ?_ | refine wki ?_ | refine wkb ?_ | (refine zan ?_;conv=>whnf) | (refine zah ?_;conv=>whnf) | (refine zag ?_;conv=>whnf) | conv=>whnf)
    all_goals first | rfl | exact .inl rfl | exact w1 (by omega) | exact zf5 m _ _ | exact zaz (by kernel_rfl) (zfq m _ _) | trace_state
   ·conv=>whnf
    (refine zae [(1000000,1000000),(1,1000)] [] ?_;(conv=>whnf);exact wkD)
  | sn sl =>
   refine za1 Tryz.func38 ?_;conv=>whnf
   refine tFor (fun i:Nat=>i≤1) (fun i=>[(4,iv i)]) (fun i=>match i with | 0=>[(1000000,someI s m)] | _+1=>[(1000000,someV s (.ow 1000 0 (m++[(⟨kd,fr,tt,tm,ix,lt,cm,rd,ye,cf,.sn sl⟩:My).enc]).length))]) (fun i=>match i with | 0=>someO m | _+1=>[(1000000,none),(1000,some (false,16,m++[(⟨kd,fr,tt,tm,ix,lt,cm,rd,ye,cf,.sn sl⟩:My).enc]))]) [(1000000,1000000)] (fun i=>1 - i) 0 (Nat.zero_le _) ?_ ?_
   ·conv=>whnf
    exact wkD
   intro i hi
   rcases (by omega:i=0∨i=1) with rfl | rfl
   ·conv=>whnf
    (first | refine tYes ?_ | refine tNo ?_)
    conv=>whnf
    refine ⟨⟨by decide,by decide⟩,?_⟩
    conv=>whnf
    refine ⟨_,hj,?_⟩
    conv=>whnf
    (refine And.intro rfl ?_;(conv=>whnf);refine And.intro (And.intro (And.intro (by kernel_rfl) (And.intro (Nat.le_refl _) (And.intro (hb1) (And.intro (hb2) (by intro r hr;rw [List.mem_singleton.1 hr];rfl))))) (And.intro (by decide) rfl)) ?_;conv=>whnf)
    refine ⟨⟨by omega,by simp only [List.length_cons,List.length_nil];omega⟩,?_⟩
    conv=>whnf
    refine ⟨_,zhp m _,?_⟩
    conv=>whnf
    refine ⟨1,[(1000000,1000000),(1000,464)],⟨by omega,by omega⟩,?_⟩
    conv=>whnf
    (refine wkx ?_;refine ⟨?_,?_,?_⟩<;>(conv=>whnf)<;>repeat' first | exact wkc | (with_reducible refine And.intro ?_ ?_)<;>first | exact wks | refine wko ?_ | refine wki ?_ | refine wkb ?_ | (refine zan ?_;conv=>whnf) | (refine zah ?_;conv=>whnf) | (refine zag ?_;conv=>whnf) | conv=>whnf)
    all_goals first | rfl | exact .inl rfl | exact w1 (by omega) | exact zf5 m _ _ | exact zaz (by kernel_rfl) (zfq m _ _) | trace_state
   ·conv=>whnf
    (refine zae [(1000000,1000000),(1,1000)] [] ?_;(conv=>whnf);exact wkD)
 ·rw [zxo hc]
  refine za1 Tryz.func38 ?_;conv=>whnf
  refine tFor (fun _:Unit=>True) (fun _=>[(4,iv 0)]) (fun _=>[(1000000,someI s m)]) (fun _=>someO m) [(1000000,1000000)] (fun _=>0) () True.intro ?_ ?_
  ·conv=>whnf
   exact wkD
  intro _ _
  conv=>whnf
  (first | refine tYes ?_ | refine tNo ?_)
  conv=>whnf
  refine zyk 1000000 1000 rfl rfl ?_
  conv=>whnf
  (refine zae [(1000000,1000000),(1,1000)] [] ?_;(conv=>whnf);exact wkD)
end Go.Proofs
