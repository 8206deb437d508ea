import Derived.Test.YtbhfokahocgndabGreatPvQ3
import Derived.Test.YtbhfokahocgndabGreatS13
import Derived.Test.YtbhfokahocgndabGreatR3
/- Contracts of functions: a play begins. (genU17.py prints this) -/
set_option linter.unusedSimpArgs false
set_option linter.unusedVariables false
set_option maxHeartbeats 16000000
namespace Go.Proofs
open Go.Pv
set_option maxRecDepth 100000
abbrev begH (c:Conf):Hrd:=⟨0,-1,0,0,c,[],[]⟩
abbrev rz0:Rft:=⟨0,⟨0,0,0,0,cz,[],[]⟩,0,0,0,0,0,0,0,zA,zA,zA,[]⟩
noncomputable def begS (c:Conf):Nat→Svn
 | 0=>⟨rz0,rz0,rz0,rz0,rz0,rz0,rz0⟩
 | k+1=>(begS c k).put k (newR k (begH c))
theorem zy2 (c:Conf):CtrE Tryz.prog 10 [.ag c.enc] [] [] (.pt 6 0) [(6,someV (begS c 7) (.ow 0 0 0))] [(0,some (false,16,[]))]:=by
 have kb:=zt7 c
 have kn:=fun i:Int=>c_zNew i (begH c) (Nat.zero_le _) (Nat.zero_le _)
 refine zaj Tryz.func10 ?_;conv=>whnf
 refine tFor (fun i:Nat=>i≤7) (fun i=>[(4,iv i)]) (fun i=>[(1,c.enc),(6,someV (begS c i) .nl)]) (fun _=>[]) [] (fun i=>7 - i) 0 (Nat.zero_le _) ?_ ?_
 ·exact wkE
 intro i hi
 rcases (by omega:i=0∨i=1∨i=2∨i=3∨i=4∨i=5∨i=6∨i=7) with rfl | rfl | rfl | rfl | rfl | rfl | rfl | rfl
 ·have kn:=kn 0
  rw [show begS c 0=(⟨rz0,rz0,rz0,rz0,rz0,rz0,rz0⟩:Svn) from rfl]
  have hs:begS c 1=(⟨newR 0 (begH c),rz0,rz0,rz0,rz0,rz0,rz0⟩:Svn):=rfl
  generalize newR 0 (begH c)=X at *
  refine tC kb ?_
  refine tCD kn ?_
  refine tN0 ?_
  refine tK2 ?_
  refine ⟨1,[],⟨by omega,by omega⟩,?_⟩
  rw [hs]
  exact wkE
 ·have kn:=kn 1
  rw [show begS c 1=(⟨newR 0 (begH c),rz0,rz0,rz0,rz0,rz0,rz0⟩:Svn) from rfl]
  have hs:begS c 2=(⟨newR 0 (begH c),newR 1 (begH c),rz0,rz0,rz0,rz0,rz0⟩:Svn):=rfl
  generalize newR 1 (begH c)=X at *
  refine tC kb ?_
  refine tCD kn ?_
  refine tN0 ?_
  refine tK2 ?_
  refine ⟨2,[],⟨by omega,by omega⟩,?_⟩
  rw [hs]
  exact wkE
 ·have kn:=kn 2
  rw [show begS c 2=(⟨newR 0 (begH c),newR 1 (begH c),rz0,rz0,rz0,rz0,rz0⟩:Svn) from rfl]
  have hs:begS c 3=(⟨newR 0 (begH c),newR 1 (begH c),newR 2 (begH c),rz0,rz0,rz0,rz0⟩:Svn):=rfl
  generalize newR 2 (begH c)=X at *
  refine tC kb ?_
  refine tCD kn ?_
  refine tN0 ?_
  refine tK2 ?_
  refine ⟨3,[],⟨by omega,by omega⟩,?_⟩
  rw [hs]
  exact wkE
 ·have kn:=kn 3
  rw [show begS c 3=(⟨newR 0 (begH c),newR 1 (begH c),newR 2 (begH c),rz0,rz0,rz0,rz0⟩:Svn) from rfl]
  have hs:begS c 4=(⟨newR 0 (begH c),newR 1 (begH c),newR 2 (begH c),newR 3 (begH c),rz0,rz0,rz0⟩:Svn):=rfl
  generalize newR 3 (begH c)=X at *
  refine tC kb ?_
  refine tCD kn ?_
  refine tN0 ?_
  refine tK2 ?_
  refine ⟨4,[],⟨by omega,by omega⟩,?_⟩
  rw [hs]
  exact wkE
 ·have kn:=kn 4
  rw [show begS c 4=(⟨newR 0 (begH c),newR 1 (begH c),newR 2 (begH c),newR 3 (begH c),rz0,rz0,rz0⟩:Svn) from rfl]
  have hs:begS c 5=(⟨newR 0 (begH c),newR 1 (begH c),newR 2 (begH c),newR 3 (begH c),newR 4 (begH c),rz0,rz0⟩:Svn):=rfl
  generalize newR 4 (begH c)=X at *
  refine tC kb ?_
  refine tCD kn ?_
  refine tN0 ?_
  refine tK2 ?_
  refine ⟨5,[],⟨by omega,by omega⟩,?_⟩
  rw [hs]
  exact wkE
 ·have kn:=kn 5
  rw [show begS c 5=(⟨newR 0 (begH c),newR 1 (begH c),newR 2 (begH c),newR 3 (begH c),newR 4 (begH c),rz0,rz0⟩:Svn) from rfl]
  have hs:begS c 6=(⟨newR 0 (begH c),newR 1 (begH c),newR 2 (begH c),newR 3 (begH c),newR 4 (begH c),newR 5 (begH c),rz0⟩:Svn):=rfl
  generalize newR 5 (begH c)=X at *
  refine tC kb ?_
  refine tCD kn ?_
  refine tN0 ?_
  refine tK2 ?_
  refine ⟨6,[],⟨by omega,by omega⟩,?_⟩
  rw [hs]
  exact wkE
 ·have kn:=kn 6
  rw [show begS c 6=(⟨newR 0 (begH c),newR 1 (begH c),newR 2 (begH c),newR 3 (begH c),newR 4 (begH c),newR 5 (begH c),rz0⟩:Svn) from rfl]
  have hs:begS c 7=(⟨newR 0 (begH c),newR 1 (begH c),newR 2 (begH c),newR 3 (begH c),newR 4 (begH c),newR 5 (begH c),newR 6 (begH c)⟩:Svn):=rfl
  generalize newR 6 (begH c)=X at *
  refine tC kb ?_
  refine tCD kn ?_
  refine tN0 ?_
  refine tK2 ?_
  refine ⟨7,[],⟨by omega,by omega⟩,?_⟩
  rw [hs]
  exact wkE
 ·rw [show begS c 7=(⟨newR 0 (begH c),newR 1 (begH c),newR 2 (begH c),newR 3 (begH c),newR 4 (begH c),newR 5 (begH c),newR 6 (begH c)⟩:Svn) from rfl]
  conv=>whnf
  refine zdv 6 280 3000 16 _ rfl rfl rfl ?_
  conv=>whnf
  exact eX [(0,3000)]
end Go.Proofs
