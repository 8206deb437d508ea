import Derived.Test.YtbhfokahocgndabGreatPvQ3
import Derived.Test.YtbhfokahocgndabGreatR3
/- Contracts of functions: a message that is under way is put under way once more. -/
set_option linter.unusedSimpArgs false
set_option linter.unusedVariables false
set_option maxHeartbeats 8000000
namespace Go.Proofs
open Go.Pv
set_option maxRecDepth 100000
theorem cap_one {m:List (List PV)}{r:List PV} (h:m.length < 100):capM m [r]=m++[r]:=by
 unfold capM
 rw [List.take_of_length_le (by simp only [List.length_cons,List.length_nil];omega)]
theorem z2p {m:List (List PV)}{r:List PV} (h:¬ m.length < 100):capM m [r]=m:=by
 unfold capM
 rw [show 100 - m.length=0 by omega,List.take_zero,List.append_nil]
theorem zx6 (s : Svn) (m : List (List PV)) (hm : m.length ≤ 100) (j : Nat) (y : My) (hj : m[j]? = some y.enc) :
    CtrE Tryz.prog 38 [.pt 9990 0,.ow 9990 j 1] [(9990,someI s m)] (someO m) (.tu [])
     [(9990,someV s (.ow 1 0 (capM m [y.enc]).length))] [(9990,none),(1,some (false,16,capM m [y.enc]))]:=by
 have hjl:=(List.getElem?_eq_some_iff.1 hj).1
 have hb1:(m.length+1) * 176≤140737488355328:=by omega
 have hb2:m.length+1≤maxLen:=zad (by omega)
 by_cases hc:m.length < 100
 ·rw [cap_one hc]
  obtain ⟨kd,fr,tt,tm,ix,lt,cm,rd,ye,cf,bd⟩:=y
  cases bd with
  | no =>
   refine zaj Tryz.func38 ?_;conv=>whnf
   refine tFor (fun i:Nat=>i≤1) (fun i=>[(4,iv i)]) (fun i=>match i with | 0=>[(9990,someI s m)] | _+1=>[(9990,someV s (.ow 1000 0 (m++[(⟨kd,fr,tt,tm,ix,lt,cm,rd,ye,cf,.no⟩:My).enc]).length))]) (fun i=>match i with | 0=>someO m | _+1=>[(9990,none),(1000,some (false,16,m++[(⟨kd,fr,tt,tm,ix,lt,cm,rd,ye,cf,.no⟩:My).enc]))]) [(9990,9990)] (fun i=>1 - i) 0 (Nat.zero_le _) ?_ ?_
   ·exact wkE
   intro i hi
   rcases (by omega:i=0∨i=1) with rfl | rfl
   ·refine tK ?_
    refine tK2 ?_
    refine ⟨_,hj,?_⟩
    conv=>whnf
    refine tAB hb1 hb2 ?_
    refine ⟨⟨by omega,by simp only [List.length_cons,List.length_nil];omega⟩,?_⟩
    conv=>whnf
    refine ⟨_,ziz m _,?_⟩
    conv=>whnf
    refine ⟨1,[(9990,9990),(1000,464)],⟨by omega,by omega⟩,?_⟩
    (refine tWK ?_;and_intros<;>try exact ⟨⟩)
    all_goals first | rfl | exact .inl rfl | exact w1 (by omega) | exact zgr m _ _ | exact zbi (by kernel_rfl) (zgy m _ _) | trace_state
   ·conv=>whnf
    exact eX [(9990,9990),(1,1000)]
  | es el =>
   refine zaj Tryz.func38 ?_;conv=>whnf
   refine tFor (fun i:Nat=>i≤1) (fun i=>[(4,iv i)]) (fun i=>match i with | 0=>[(9990,someI s m)] | _+1=>[(9990,someV s (.ow 1000 0 (m++[(⟨kd,fr,tt,tm,ix,lt,cm,rd,ye,cf,.es el⟩:My).enc]).length))]) (fun i=>match i with | 0=>someO m | _+1=>[(9990,none),(1000,some (false,16,m++[(⟨kd,fr,tt,tm,ix,lt,cm,rd,ye,cf,.es el⟩:My).enc]))]) [(9990,9990)] (fun i=>1 - i) 0 (Nat.zero_le _) ?_ ?_
   ·exact wkE
   intro i hi
   rcases (by omega:i=0∨i=1) with rfl | rfl
   ·refine tK ?_
    refine tK2 ?_
    refine ⟨_,hj,?_⟩
    conv=>whnf
    refine tAB hb1 hb2 ?_
    refine ⟨⟨by omega,by simp only [List.length_cons,List.length_nil];omega⟩,?_⟩
    conv=>whnf
    refine ⟨_,ziz m _,?_⟩
    conv=>whnf
    refine ⟨1,[(9990,9990),(1000,464)],⟨by omega,by omega⟩,?_⟩
    (refine tWK ?_;and_intros<;>try exact ⟨⟩)
    all_goals first | rfl | exact .inl rfl | exact w1 (by omega) | exact zgr m _ _ | exact zbi (by kernel_rfl) (zgy m _ _) | trace_state
   ·conv=>whnf
    exact eX [(9990,9990),(1,1000)]
  | sn sl =>
   refine zaj Tryz.func38 ?_;conv=>whnf
   refine tFor (fun i:Nat=>i≤1) (fun i=>[(4,iv i)]) (fun i=>match i with | 0=>[(9990,someI s m)] | _+1=>[(9990,someV s (.ow 1000 0 (m++[(⟨kd,fr,tt,tm,ix,lt,cm,rd,ye,cf,.sn sl⟩:My).enc]).length))]) (fun i=>match i with | 0=>someO m | _+1=>[(9990,none),(1000,some (false,16,m++[(⟨kd,fr,tt,tm,ix,lt,cm,rd,ye,cf,.sn sl⟩:My).enc]))]) [(9990,9990)] (fun i=>1 - i) 0 (Nat.zero_le _) ?_ ?_
   ·exact wkE
   intro i hi
   rcases (by omega:i=0∨i=1) with rfl | rfl
   ·refine tK ?_
    refine tK2 ?_
    refine ⟨_,hj,?_⟩
    conv=>whnf
    refine tAB hb1 hb2 ?_
    refine ⟨⟨by omega,by simp only [List.length_cons,List.length_nil];omega⟩,?_⟩
    conv=>whnf
    refine ⟨_,ziz m _,?_⟩
    conv=>whnf
    refine ⟨1,[(9990,9990),(1000,464)],⟨by omega,by omega⟩,?_⟩
    (refine tWK ?_;and_intros<;>try exact ⟨⟩)
    all_goals first | rfl | exact .inl rfl | exact w1 (by omega) | exact zgr m _ _ | exact zbi (by kernel_rfl) (zgy m _ _) | trace_state
   ·conv=>whnf
    exact eX [(9990,9990),(1,1000)]
 ·rw [z2p hc]
  refine zaj Tryz.func38 ?_;conv=>whnf
  refine tFor (fun _:Unit=>True) (fun _=>[(4,iv 0)]) (fun _=>[(9990,someI s m)]) (fun _=>someO m) [(9990,9990)] (fun _=>0) () True.intro ?_ ?_
  ·exact wkE
  intro _ _
  refine tK ?_
  refine z2e 9990 1000 rfl rfl ?_
  conv=>whnf
  exact eX [(9990,9990),(1,1000)]
end Go.Proofs
