import Derived.Test.YtbhfokahocgndabGreatC1
import Derived.Test.YtbhfokahocgndabGreatC54
import Derived.Test.YtbhfokahocgndabGreatC24
import Derived.Test.YtbhfokahocgndabGreatC13
import Derived.Test.YtbhfokahocgndabGreatPvV4
import Derived.Test.YtbhfokahocgndabGreatC5
/- Contracts of functions: whether a replica is right. -/
set_option linter.unusedSimpArgs false
set_option linter.unusedVariables false
namespace Go.Proofs
open Go.Pv
set_option maxRecDepth 100000
def inR (g x:Int):Bool:=decide (0≤x∧x≤g)
theorem zce (g x:Int):Ctr Tryz.prog 49 [iv g,.sl 1 [[iv x]]] (bv (inR g x)) []:=by
 unfold inR
 refine sBody Tryz.func49 ?_;conv=>whnf
 refine zcd mixed (by kernel_rfl) 3 ?_
 conv=>whnf
 ((with_reducible refine And.intro (by with_unfolding_all decide) ?_);refine Exists.intro _ (And.intro (by with_unfolding_all rfl) ?_);conv=>whnf)
 (refine tSp (fun h=>?_) (fun h=>?_)<;>conv=>whnf)
 ·exact zab rfl (by rw [decide_eq_false (by omega)])
 have h1:=h
 clear h
 (refine tSp (fun h=>?_) (fun h=>?_)<;>conv=>whnf)
 ·exact zab rfl (by rw [decide_eq_false (by omega)])
 ·exact zab rfl (by rw [decide_eq_true (by omega)])
theorem zhz (g x y:Int):Ctr Tryz.prog 49 [iv g,.sl 1 [[iv x],[iv y]]] (bv (inR g x && inR g y)) []:=by
 unfold inR
 refine sBody Tryz.func49 ?_;conv=>whnf
 refine zcd mixed (by kernel_rfl) 4 ?_
 conv=>whnf
 ((with_reducible refine And.intro (by with_unfolding_all decide) ?_);refine Exists.intro _ (And.intro (by with_unfolding_all rfl) ?_);conv=>whnf)
 (refine tSp (fun h=>?_) (fun h=>?_)<;>conv=>whnf)
 ·exact zab rfl (by rw [decide_eq_false (show ¬ (0≤x∧x≤g) by omega)];rfl)
 have h1:=h
 clear h
 (refine tSp (fun h=>?_) (fun h=>?_)<;>conv=>whnf)
 ·exact zab rfl (by rw [decide_eq_false (show ¬ (0≤x∧x≤g) by omega)];rfl)
 have h2:=h
 clear h
 ((with_reducible refine And.intro (by with_unfolding_all decide) ?_);refine Exists.intro _ (And.intro (by with_unfolding_all rfl) ?_);conv=>whnf)
 (refine tSp (fun h=>?_) (fun h=>?_)<;>conv=>whnf)
 ·exact zab rfl (by rw [decide_eq_false (show ¬ (0≤y∧y≤g) by omega),Bool.and_false])
 have h3:=h
 clear h
 (refine tSp (fun h=>?_) (fun h=>?_)<;>conv=>whnf)
 ·exact zab rfl (by rw [decide_eq_false (show ¬ (0≤y∧y≤g) by omega),Bool.and_false])
 ·exact zab rfl (by rw [decide_eq_true (show 0≤x∧x≤g by omega),decide_eq_true (show 0≤y∧y≤g by omega)];rfl)
def arrR (g:Int) (a:Arr):Bool:=inR g a.a0 && (inR g a.a1 && (inR g a.a2 && (inR g a.a3 && (inR g a.a4 && (inR g a.a5 && inR g a.a6)))))
theorem zbi {g x:Int} (h:¬ (0≤x∧x≤g)):inR g x=false:=decide_eq_false h
theorem zaf {g x:Int} (h:0≤x∧x≤g):inR g x=true:=decide_eq_true h
set_option maxHeartbeats 1000000 in
theorem ztc (g:Int) (r:Rft):CtrE Tryz.prog 49 [iv g,.bs 1000000 18 7] [(1000000,r.enc)] [] (bv (arrR g r.next)) [(1000000,r.enc)] []:=by
 unfold arrR
 refine za1 Tryz.func49 ?_;conv=>whnf
 refine zcd mixed (by kernel_rfl) 9 ?_
 conv=>whnf
 refine ⟨by decide,?_⟩
 conv=>whnf
 (refine tSp (fun h=>?_) (fun h=>?_)<;>conv=>whnf)
 ·have e:¬ (0≤r.next.a0∧r.next.a0≤g):=by omega
  rw [zbi e]
  (refine zae [] [] ?_;(conv=>whnf);exact wkD)
 have h00:=h
 clear h
 (refine tSp (fun h=>?_) (fun h=>?_)<;>conv=>whnf)
 ·have e:¬ (0≤r.next.a0∧r.next.a0≤g):=by omega
  rw [zbi e]
  (refine zae [] [] ?_;(conv=>whnf);exact wkD)
 have h01:=h
 clear h
 have z0:0≤r.next.a0∧r.next.a0≤g:=by omega
 refine ⟨by decide,?_⟩
 conv=>whnf
 (refine tSp (fun h=>?_) (fun h=>?_)<;>conv=>whnf)
 ·have e:¬ (0≤r.next.a1∧r.next.a1≤g):=by omega
  rw [zaf z0,zbi e]
  (refine zae [] [] ?_;(conv=>whnf);exact wkD)
 have h10:=h
 clear h
 (refine tSp (fun h=>?_) (fun h=>?_)<;>conv=>whnf)
 ·have e:¬ (0≤r.next.a1∧r.next.a1≤g):=by omega
  rw [zaf z0,zbi e]
  (refine zae [] [] ?_;(conv=>whnf);exact wkD)
 have h11:=h
 clear h
 have z1:0≤r.next.a1∧r.next.a1≤g:=by omega
 refine ⟨by decide,?_⟩
 conv=>whnf
 (refine tSp (fun h=>?_) (fun h=>?_)<;>conv=>whnf)
 ·have e:¬ (0≤r.next.a2∧r.next.a2≤g):=by omega
  rw [zaf z0,zaf z1,zbi e]
  (refine zae [] [] ?_;(conv=>whnf);exact wkD)
 have h20:=h
 clear h
 (refine tSp (fun h=>?_) (fun h=>?_)<;>conv=>whnf)
 ·have e:¬ (0≤r.next.a2∧r.next.a2≤g):=by omega
  rw [zaf z0,zaf z1,zbi e]
  (refine zae [] [] ?_;(conv=>whnf);exact wkD)
 have h21:=h
 clear h
 have z2:0≤r.next.a2∧r.next.a2≤g:=by omega
 refine ⟨by decide,?_⟩
 conv=>whnf
 (refine tSp (fun h=>?_) (fun h=>?_)<;>conv=>whnf)
 ·have e:¬ (0≤r.next.a3∧r.next.a3≤g):=by omega
  rw [zaf z0,zaf z1,zaf z2,zbi e]
  (refine zae [] [] ?_;(conv=>whnf);exact wkD)
 have h30:=h
 clear h
 (refine tSp (fun h=>?_) (fun h=>?_)<;>conv=>whnf)
 ·have e:¬ (0≤r.next.a3∧r.next.a3≤g):=by omega
  rw [zaf z0,zaf z1,zaf z2,zbi e]
  (refine zae [] [] ?_;(conv=>whnf);exact wkD)
 have h31:=h
 clear h
 have z3:0≤r.next.a3∧r.next.a3≤g:=by omega
 refine ⟨by decide,?_⟩
 conv=>whnf
 (refine tSp (fun h=>?_) (fun h=>?_)<;>conv=>whnf)
 ·have e:¬ (0≤r.next.a4∧r.next.a4≤g):=by omega
  rw [zaf z0,zaf z1,zaf z2,zaf z3,zbi e]
  (refine zae [] [] ?_;(conv=>whnf);exact wkD)
 have h40:=h
 clear h
 (refine tSp (fun h=>?_) (fun h=>?_)<;>conv=>whnf)
 ·have e:¬ (0≤r.next.a4∧r.next.a4≤g):=by omega
  rw [zaf z0,zaf z1,zaf z2,zaf z3,zbi e]
  (refine zae [] [] ?_;(conv=>whnf);exact wkD)
 have h41:=h
 clear h
 have z4:0≤r.next.a4∧r.next.a4≤g:=by omega
 refine ⟨by decide,?_⟩
 conv=>whnf
 (refine tSp (fun h=>?_) (fun h=>?_)<;>conv=>whnf)
 ·have e:¬ (0≤r.next.a5∧r.next.a5≤g):=by omega
  rw [zaf z0,zaf z1,zaf z2,zaf z3,zaf z4,zbi e]
  (refine zae [] [] ?_;(conv=>whnf);exact wkD)
 have h50:=h
 clear h
 (refine tSp (fun h=>?_) (fun h=>?_)<;>conv=>whnf)
 ·have e:¬ (0≤r.next.a5∧r.next.a5≤g):=by omega
  rw [zaf z0,zaf z1,zaf z2,zaf z3,zaf z4,zbi e]
  (refine zae [] [] ?_;(conv=>whnf);exact wkD)
 have h51:=h
 clear h
 have z5:0≤r.next.a5∧r.next.a5≤g:=by omega
 refine ⟨by decide,?_⟩
 conv=>whnf
 (refine tSp (fun h=>?_) (fun h=>?_)<;>conv=>whnf)
 ·have e:¬ (0≤r.next.a6∧r.next.a6≤g):=by omega
  rw [zaf z0,zaf z1,zaf z2,zaf z3,zaf z4,zaf z5,zbi e]
  (refine zae [] [] ?_;(conv=>whnf);exact wkD)
 have h60:=h
 clear h
 (refine tSp (fun h=>?_) (fun h=>?_)<;>conv=>whnf)
 ·have e:¬ (0≤r.next.a6∧r.next.a6≤g):=by omega
  rw [zaf z0,zaf z1,zaf z2,zaf z3,zaf z4,zaf z5,zbi e]
  (refine zae [] [] ?_;(conv=>whnf);exact wkD)
 have h61:=h
 clear h
 have z6:0≤r.next.a6∧r.next.a6≤g:=by omega
 rw [zaf z0,zaf z1,zaf z2,zaf z3,zaf z4,zaf z5,zaf z6]
 (refine zae [] [] ?_;(conv=>whnf);exact wkD)
set_option maxHeartbeats 1000000 in
theorem zsn (g:Int) (r:Rft):CtrE Tryz.prog 49 [iv g,.bs 1000000 25 7] [(1000000,r.enc)] [] (bv (arrR g r.mtch)) [(1000000,r.enc)] []:=by
 unfold arrR
 refine za1 Tryz.func49 ?_;conv=>whnf
 refine zcd mixed (by kernel_rfl) 9 ?_
 conv=>whnf
 refine ⟨by decide,?_⟩
 conv=>whnf
 (refine tSp (fun h=>?_) (fun h=>?_)<;>conv=>whnf)
 ·have e:¬ (0≤r.mtch.a0∧r.mtch.a0≤g):=by omega
  rw [zbi e]
  (refine zae [] [] ?_;(conv=>whnf);exact wkD)
 have h00:=h
 clear h
 (refine tSp (fun h=>?_) (fun h=>?_)<;>conv=>whnf)
 ·have e:¬ (0≤r.mtch.a0∧r.mtch.a0≤g):=by omega
  rw [zbi e]
  (refine zae [] [] ?_;(conv=>whnf);exact wkD)
 have h01:=h
 clear h
 have z0:0≤r.mtch.a0∧r.mtch.a0≤g:=by omega
 refine ⟨by decide,?_⟩
 conv=>whnf
 (refine tSp (fun h=>?_) (fun h=>?_)<;>conv=>whnf)
 ·have e:¬ (0≤r.mtch.a1∧r.mtch.a1≤g):=by omega
  rw [zaf z0,zbi e]
  (refine zae [] [] ?_;(conv=>whnf);exact wkD)
 have h10:=h
 clear h
 (refine tSp (fun h=>?_) (fun h=>?_)<;>conv=>whnf)
 ·have e:¬ (0≤r.mtch.a1∧r.mtch.a1≤g):=by omega
  rw [zaf z0,zbi e]
  (refine zae [] [] ?_;(conv=>whnf);exact wkD)
 have h11:=h
 clear h
 have z1:0≤r.mtch.a1∧r.mtch.a1≤g:=by omega
 refine ⟨by decide,?_⟩
 conv=>whnf
 (refine tSp (fun h=>?_) (fun h=>?_)<;>conv=>whnf)
 ·have e:¬ (0≤r.mtch.a2∧r.mtch.a2≤g):=by omega
  rw [zaf z0,zaf z1,zbi e]
  (refine zae [] [] ?_;(conv=>whnf);exact wkD)
 have h20:=h
 clear h
 (refine tSp (fun h=>?_) (fun h=>?_)<;>conv=>whnf)
 ·have e:¬ (0≤r.mtch.a2∧r.mtch.a2≤g):=by omega
  rw [zaf z0,zaf z1,zbi e]
  (refine zae [] [] ?_;(conv=>whnf);exact wkD)
 have h21:=h
 clear h
 have z2:0≤r.mtch.a2∧r.mtch.a2≤g:=by omega
 refine ⟨by decide,?_⟩
 conv=>whnf
 (refine tSp (fun h=>?_) (fun h=>?_)<;>conv=>whnf)
 ·have e:¬ (0≤r.mtch.a3∧r.mtch.a3≤g):=by omega
  rw [zaf z0,zaf z1,zaf z2,zbi e]
  (refine zae [] [] ?_;(conv=>whnf);exact wkD)
 have h30:=h
 clear h
 (refine tSp (fun h=>?_) (fun h=>?_)<;>conv=>whnf)
 ·have e:¬ (0≤r.mtch.a3∧r.mtch.a3≤g):=by omega
  rw [zaf z0,zaf z1,zaf z2,zbi e]
  (refine zae [] [] ?_;(conv=>whnf);exact wkD)
 have h31:=h
 clear h
 have z3:0≤r.mtch.a3∧r.mtch.a3≤g:=by omega
 refine ⟨by decide,?_⟩
 conv=>whnf
 (refine tSp (fun h=>?_) (fun h=>?_)<;>conv=>whnf)
 ·have e:¬ (0≤r.mtch.a4∧r.mtch.a4≤g):=by omega
  rw [zaf z0,zaf z1,zaf z2,zaf z3,zbi e]
  (refine zae [] [] ?_;(conv=>whnf);exact wkD)
 have h40:=h
 clear h
 (refine tSp (fun h=>?_) (fun h=>?_)<;>conv=>whnf)
 ·have e:¬ (0≤r.mtch.a4∧r.mtch.a4≤g):=by omega
  rw [zaf z0,zaf z1,zaf z2,zaf z3,zbi e]
  (refine zae [] [] ?_;(conv=>whnf);exact wkD)
 have h41:=h
 clear h
 have z4:0≤r.mtch.a4∧r.mtch.a4≤g:=by omega
 refine ⟨by decide,?_⟩
 conv=>whnf
 (refine tSp (fun h=>?_) (fun h=>?_)<;>conv=>whnf)
 ·have e:¬ (0≤r.mtch.a5∧r.mtch.a5≤g):=by omega
  rw [zaf z0,zaf z1,zaf z2,zaf z3,zaf z4,zbi e]
  (refine zae [] [] ?_;(conv=>whnf);exact wkD)
 have h50:=h
 clear h
 (refine tSp (fun h=>?_) (fun h=>?_)<;>conv=>whnf)
 ·have e:¬ (0≤r.mtch.a5∧r.mtch.a5≤g):=by omega
  rw [zaf z0,zaf z1,zaf z2,zaf z3,zaf z4,zbi e]
  (refine zae [] [] ?_;(conv=>whnf);exact wkD)
 have h51:=h
 clear h
 have z5:0≤r.mtch.a5∧r.mtch.a5≤g:=by omega
 refine ⟨by decide,?_⟩
 conv=>whnf
 (refine tSp (fun h=>?_) (fun h=>?_)<;>conv=>whnf)
 ·have e:¬ (0≤r.mtch.a6∧r.mtch.a6≤g):=by omega
  rw [zaf z0,zaf z1,zaf z2,zaf z3,zaf z4,zaf z5,zbi e]
  (refine zae [] [] ?_;(conv=>whnf);exact wkD)
 have h60:=h
 clear h
 (refine tSp (fun h=>?_) (fun h=>?_)<;>conv=>whnf)
 ·have e:¬ (0≤r.mtch.a6∧r.mtch.a6≤g):=by omega
  rw [zaf z0,zaf z1,zaf z2,zaf z3,zaf z4,zaf z5,zbi e]
  (refine zae [] [] ?_;(conv=>whnf);exact wkD)
 have h61:=h
 clear h
 have z6:0≤r.mtch.a6∧r.mtch.a6≤g:=by omega
 rw [zaf z0,zaf z1,zaf z2,zaf z3,zaf z4,zaf z5,zaf z6]
 (refine zae [] [] ?_;(conv=>whnf);exact wkD)
set_option maxHeartbeats 1000000 in
theorem zr4 (g:Int) (r:Rft):CtrE Tryz.prog 49 [iv g,.bs 1000000 32 7] [(1000000,r.enc)] [] (bv (arrR g r.silent)) [(1000000,r.enc)] []:=by
 unfold arrR
 refine za1 Tryz.func49 ?_;conv=>whnf
 refine zcd mixed (by kernel_rfl) 9 ?_
 conv=>whnf
 refine ⟨by decide,?_⟩
 conv=>whnf
 (refine tSp (fun h=>?_) (fun h=>?_)<;>conv=>whnf)
 ·have e:¬ (0≤r.silent.a0∧r.silent.a0≤g):=by omega
  rw [zbi e]
  (refine zae [] [] ?_;(conv=>whnf);exact wkD)
 have h00:=h
 clear h
 (refine tSp (fun h=>?_) (fun h=>?_)<;>conv=>whnf)
 ·have e:¬ (0≤r.silent.a0∧r.silent.a0≤g):=by omega
  rw [zbi e]
  (refine zae [] [] ?_;(conv=>whnf);exact wkD)
 have h01:=h
 clear h
 have z0:0≤r.silent.a0∧r.silent.a0≤g:=by omega
 refine ⟨by decide,?_⟩
 conv=>whnf
 (refine tSp (fun h=>?_) (fun h=>?_)<;>conv=>whnf)
 ·have e:¬ (0≤r.silent.a1∧r.silent.a1≤g):=by omega
  rw [zaf z0,zbi e]
  (refine zae [] [] ?_;(conv=>whnf);exact wkD)
 have h10:=h
 clear h
 (refine tSp (fun h=>?_) (fun h=>?_)<;>conv=>whnf)
 ·have e:¬ (0≤r.silent.a1∧r.silent.a1≤g):=by omega
  rw [zaf z0,zbi e]
  (refine zae [] [] ?_;(conv=>whnf);exact wkD)
 have h11:=h
 clear h
 have z1:0≤r.silent.a1∧r.silent.a1≤g:=by omega
 refine ⟨by decide,?_⟩
 conv=>whnf
 (refine tSp (fun h=>?_) (fun h=>?_)<;>conv=>whnf)
 ·have e:¬ (0≤r.silent.a2∧r.silent.a2≤g):=by omega
  rw [zaf z0,zaf z1,zbi e]
  (refine zae [] [] ?_;(conv=>whnf);exact wkD)
 have h20:=h
 clear h
 (refine tSp (fun h=>?_) (fun h=>?_)<;>conv=>whnf)
 ·have e:¬ (0≤r.silent.a2∧r.silent.a2≤g):=by omega
  rw [zaf z0,zaf z1,zbi e]
  (refine zae [] [] ?_;(conv=>whnf);exact wkD)
 have h21:=h
 clear h
 have z2:0≤r.silent.a2∧r.silent.a2≤g:=by omega
 refine ⟨by decide,?_⟩
 conv=>whnf
 (refine tSp (fun h=>?_) (fun h=>?_)<;>conv=>whnf)
 ·have e:¬ (0≤r.silent.a3∧r.silent.a3≤g):=by omega
  rw [zaf z0,zaf z1,zaf z2,zbi e]
  (refine zae [] [] ?_;(conv=>whnf);exact wkD)
 have h30:=h
 clear h
 (refine tSp (fun h=>?_) (fun h=>?_)<;>conv=>whnf)
 ·have e:¬ (0≤r.silent.a3∧r.silent.a3≤g):=by omega
  rw [zaf z0,zaf z1,zaf z2,zbi e]
  (refine zae [] [] ?_;(conv=>whnf);exact wkD)
 have h31:=h
 clear h
 have z3:0≤r.silent.a3∧r.silent.a3≤g:=by omega
 refine ⟨by decide,?_⟩
 conv=>whnf
 (refine tSp (fun h=>?_) (fun h=>?_)<;>conv=>whnf)
 ·have e:¬ (0≤r.silent.a4∧r.silent.a4≤g):=by omega
  rw [zaf z0,zaf z1,zaf z2,zaf z3,zbi e]
  (refine zae [] [] ?_;(conv=>whnf);exact wkD)
 have h40:=h
 clear h
 (refine tSp (fun h=>?_) (fun h=>?_)<;>conv=>whnf)
 ·have e:¬ (0≤r.silent.a4∧r.silent.a4≤g):=by omega
  rw [zaf z0,zaf z1,zaf z2,zaf z3,zbi e]
  (refine zae [] [] ?_;(conv=>whnf);exact wkD)
 have h41:=h
 clear h
 have z4:0≤r.silent.a4∧r.silent.a4≤g:=by omega
 refine ⟨by decide,?_⟩
 conv=>whnf
 (refine tSp (fun h=>?_) (fun h=>?_)<;>conv=>whnf)
 ·have e:¬ (0≤r.silent.a5∧r.silent.a5≤g):=by omega
  rw [zaf z0,zaf z1,zaf z2,zaf z3,zaf z4,zbi e]
  (refine zae [] [] ?_;(conv=>whnf);exact wkD)
 have h50:=h
 clear h
 (refine tSp (fun h=>?_) (fun h=>?_)<;>conv=>whnf)
 ·have e:¬ (0≤r.silent.a5∧r.silent.a5≤g):=by omega
  rw [zaf z0,zaf z1,zaf z2,zaf z3,zaf z4,zbi e]
  (refine zae [] [] ?_;(conv=>whnf);exact wkD)
 have h51:=h
 clear h
 have z5:0≤r.silent.a5∧r.silent.a5≤g:=by omega
 refine ⟨by decide,?_⟩
 conv=>whnf
 (refine tSp (fun h=>?_) (fun h=>?_)<;>conv=>whnf)
 ·have e:¬ (0≤r.silent.a6∧r.silent.a6≤g):=by omega
  rw [zaf z0,zaf z1,zaf z2,zaf z3,zaf z4,zaf z5,zbi e]
  (refine zae [] [] ?_;(conv=>whnf);exact wkD)
 have h60:=h
 clear h
 (refine tSp (fun h=>?_) (fun h=>?_)<;>conv=>whnf)
 ·have e:¬ (0≤r.silent.a6∧r.silent.a6≤g):=by omega
  rw [zaf z0,zaf z1,zaf z2,zaf z3,zaf z4,zaf z5,zbi e]
  (refine zae [] [] ?_;(conv=>whnf);exact wkD)
 have h61:=h
 clear h
 have z6:0≤r.silent.a6∧r.silent.a6≤g:=by omega
 rw [zaf z0,zaf z1,zaf z2,zaf z3,zaf z4,zaf z5,zaf z6]
 (refine zae [] [] ?_;(conv=>whnf);exact wkD)
noncomputable def rdB (commit:Int) (x:Rd):Bool:=decide (callR x.call=0) && (inR commit x.index && (inR far x.round && inR 127 x.acks))
noncomputable def rdsB (r:Rft):Bool:=if 4 < r.reads.length then false else if 0 < r.reads.length∧r.role ≠ 3 then false else r.reads.all (rdB r.commit)
set_option maxHeartbeats 2000000 in
theorem zm2 (r:Rft) (hm:r.reads.length≤maxLen):Ctr Tryz.prog 50 [.ag r.enc] (bv (rdsB r)) []:=by
 have hlm:(r.reads.map Rd.enc).length=r.reads.length:=List.length_map ..
 have hm':r.reads.length≤9223372036854775807:=Nat.le_trans hm (by decide)
 by_cases h4:4 < r.reads.length
 ·rw [show rdsB r=false by unfold rdsB;rw [if_pos h4]]
  refine sBody Tryz.func50 ?_;conv=>whnf
  (refine tSp (fun h=>?_) (fun h=>?_)<;>conv=>whnf)
  ·exact zab rfl rfl
  ·exfalso;omega
 have h4':¬ (4:Int) < ((r.reads.map Rd.enc).length:Int):=by omega
 by_cases hz:0 < r.reads.length∧r.role ≠ 3
 ·rw [show rdsB r=false by unfold rdsB;rw [if_neg h4,if_pos hz]]
  refine sBody Tryz.func50 ?_;conv=>whnf
  (refine tSp (fun h=>?_) (fun h=>?_)<;>conv=>whnf)
  ·exact zab rfl rfl
  clear h
  (refine tSp (fun h=>?_) (fun h=>?_)<;>conv=>whnf)
  ·(refine tSp (fun h=>?_) (fun h=>?_)<;>conv=>whnf)
   ·exact zab rfl rfl
   ·exfalso;exact hz.2 (by first | exact h | exact Classical.byContradiction h)
  ·exfalso;omega
 have e0:rdsB r=r.reads.all (rdB r.commit):=by unfold rdsB;rw [if_neg h4,if_neg hz]
 rw [e0]
 have kw:=fun x:Rd=>zqc x.call
 clear e0
 refine sBody Tryz.func50 ?_;conv=>whnf
 (refine tSp (fun h=>?_) (fun h=>?_)<;>conv=>whnf)
 ·exfalso;omega
 clear h
 (refine tSp (fun h=>?_) (fun h=>?_)<;>conv=>whnf)
 ·have h0:=h
  clear h
  (refine tSp (fun h=>?_) (fun h=>?_)<;>conv=>whnf)
  ·exfalso;exact hz ⟨by omega,h⟩
  clear h
  refine zbv mixed (by kernel_rfl) (fun i:Nat=>i≤r.reads.length∧∀ j (hj:j < r.reads.length),j < i→rdB r.commit (r.reads[j]'hj)=true) (fun i=>[(23,iv i)]) [] (fun i=>r.reads.length - i) 0 ⟨Nat.zero_le _,fun j _ h=>absurd h (Nat.not_lt_zero _)⟩ ?_ ?_
  ·conv=>whnf
   exact wkD
  rintro i ⟨hi,hal⟩
  conv=>whnf
  (refine tSp (fun h=>?_) (fun h=>?_)<;>conv=>whnf)
  ·have hlt:i < r.reads.length:=by omega
   clear h
   have no:rdB r.commit (r.reads[i]'hlt)=false→r.reads.all (rdB r.commit)=false:=fun hn=>by
    rw [List.all_eq_false]
    exact ⟨_,List.getElem_mem hlt,by rw [hn];decide⟩
   have hk:=kw (r.reads[i]'hlt)
   have k1:=zce r.commit (r.reads[i]'hlt).index
   have k2:=zce far (r.reads[i]'hlt).round
   have k3:=zce 127 (r.reads[i]'hlt).acks
   have hdef:rdB r.commit (r.reads[i]'hlt)=(decide (callR (r.reads[i]'hlt).call=0) && (inR r.commit (r.reads[i]'hlt).index && (inR far (r.reads[i]'hlt).round && inR 127 (r.reads[i]'hlt).acks))):=rfl
   have hstep:rdB r.commit (r.reads[i]'hlt)=true→∀ j (hj:j < r.reads.length),j < i+1→rdB r.commit (r.reads[j]'hj)=true:=fun ht j hj hji=>by
    by_cases e:j=i
    ·subst e;exact ht
    ·exact hal j hj (by omega)
   (first | ((with_reducible refine And.intro (by omega) (Exists.intro _ (And.intro (zbn hlt) ?_)));conv=>whnf))
   generalize r.reads[i]'hlt=x at *
   ((try (refine Exists.intro none ?_;conv=>whnf));(with_reducible refine zaa (hk) ?_);conv=>whnf)
   (refine tSp (fun h=>?_) (fun h=>?_)<;>conv=>whnf)
   ·exact zab rfl (by rw [no (by rw [hdef,decide_eq_false h];rfl)])
   have hc:callR x.call=0:=by first | exact h | exact Classical.byContradiction h
   clear h
   rw [decide_eq_true hc,Bool.true_and] at hdef
   generalize inR r.commit x.index=b1 at *
   generalize inR far x.round=b2 at *
   generalize inR 127 x.acks=b3 at *
   cases b1
   ·((try ((refine Exists.intro none ?_);(conv=>whnf)));refine zai (k1) (by kernel_rfl) ?_;conv=>whnf)
    exact zab rfl (by rw [no hdef])
   cases b2
   ·((try ((refine Exists.intro none ?_);(conv=>whnf)));refine zai (k1) (by kernel_rfl) ?_;conv=>whnf)
    ((try ((refine Exists.intro none ?_);(conv=>whnf)));refine zai (k2) (by kernel_rfl) ?_;conv=>whnf)
    exact zab rfl (by rw [no hdef])
   cases b3
   ·((try ((refine Exists.intro none ?_);(conv=>whnf)));refine zai (k1) (by kernel_rfl) ?_;conv=>whnf)
    ((try ((refine Exists.intro none ?_);(conv=>whnf)));refine zai (k2) (by kernel_rfl) ?_;conv=>whnf)
    ((try ((refine Exists.intro none ?_);(conv=>whnf)));refine zai (k3) (by kernel_rfl) ?_;conv=>whnf)
    exact zab rfl (by rw [no hdef])
   ((try ((refine Exists.intro none ?_);(conv=>whnf)));refine zai (k1) (by kernel_rfl) ?_;conv=>whnf)
   ((try ((refine Exists.intro none ?_);(conv=>whnf)));refine zai (k2) (by kernel_rfl) ?_;conv=>whnf)
   ((try ((refine Exists.intro none ?_);(conv=>whnf)));refine zai (k3) (by kernel_rfl) ?_;conv=>whnf)
   refine ⟨i+1,⟨⟨by omega,hstep hdef⟩,by omega⟩,?_⟩
   conv=>whnf
   exact wkD
  ·have ei:i=r.reads.length:=by omega
   have:r.reads.all (rdB r.commit)=true:=by
    rw [List.all_eq_true]
    intro x hx
    obtain ⟨j,hj,rfl⟩:=List.getElem_of_mem hx
    exact hal j hj (by omega)
   exact zab rfl (by rw [this])
 ·clear h
  refine zbv mixed (by kernel_rfl) (fun i:Nat=>i≤r.reads.length∧∀ j (hj:j < r.reads.length),j < i→rdB r.commit (r.reads[j]'hj)=true) (fun i=>[(23,iv i)]) [] (fun i=>r.reads.length - i) 0 ⟨Nat.zero_le _,fun j _ h=>absurd h (Nat.not_lt_zero _)⟩ ?_ ?_
  ·conv=>whnf
   exact wkD
  rintro i ⟨hi,hal⟩
  conv=>whnf
  (refine tSp (fun h=>?_) (fun h=>?_)<;>conv=>whnf)
  ·have hlt:i < r.reads.length:=by omega
   clear h
   have no:rdB r.commit (r.reads[i]'hlt)=false→r.reads.all (rdB r.commit)=false:=fun hn=>by
    rw [List.all_eq_false]
    exact ⟨_,List.getElem_mem hlt,by rw [hn];decide⟩
   have hk:=kw (r.reads[i]'hlt)
   have k1:=zce r.commit (r.reads[i]'hlt).index
   have k2:=zce far (r.reads[i]'hlt).round
   have k3:=zce 127 (r.reads[i]'hlt).acks
   have hdef:rdB r.commit (r.reads[i]'hlt)=(decide (callR (r.reads[i]'hlt).call=0) && (inR r.commit (r.reads[i]'hlt).index && (inR far (r.reads[i]'hlt).round && inR 127 (r.reads[i]'hlt).acks))):=rfl
   have hstep:rdB r.commit (r.reads[i]'hlt)=true→∀ j (hj:j < r.reads.length),j < i+1→rdB r.commit (r.reads[j]'hj)=true:=fun ht j hj hji=>by
    by_cases e:j=i
    ·subst e;exact ht
    ·exact hal j hj (by omega)
   (first | ((with_reducible refine And.intro (by omega) (Exists.intro _ (And.intro (zbn hlt) ?_)));conv=>whnf))
   generalize r.reads[i]'hlt=x at *
   ((try (refine Exists.intro none ?_;conv=>whnf));(with_reducible refine zaa (hk) ?_);conv=>whnf)
   (refine tSp (fun h=>?_) (fun h=>?_)<;>conv=>whnf)
   ·exact zab rfl (by rw [no (by rw [hdef,decide_eq_false h];rfl)])
   have hc:callR x.call=0:=by first | exact h | exact Classical.byContradiction h
   clear h
   rw [decide_eq_true hc,Bool.true_and] at hdef
   generalize inR r.commit x.index=b1 at *
   generalize inR far x.round=b2 at *
   generalize inR 127 x.acks=b3 at *
   cases b1
   ·((try ((refine Exists.intro none ?_);(conv=>whnf)));refine zai (k1) (by kernel_rfl) ?_;conv=>whnf)
    exact zab rfl (by rw [no hdef])
   cases b2
   ·((try ((refine Exists.intro none ?_);(conv=>whnf)));refine zai (k1) (by kernel_rfl) ?_;conv=>whnf)
    ((try ((refine Exists.intro none ?_);(conv=>whnf)));refine zai (k2) (by kernel_rfl) ?_;conv=>whnf)
    exact zab rfl (by rw [no hdef])
   cases b3
   ·((try ((refine Exists.intro none ?_);(conv=>whnf)));refine zai (k1) (by kernel_rfl) ?_;conv=>whnf)
    ((try ((refine Exists.intro none ?_);(conv=>whnf)));refine zai (k2) (by kernel_rfl) ?_;conv=>whnf)
    ((try ((refine Exists.intro none ?_);(conv=>whnf)));refine zai (k3) (by kernel_rfl) ?_;conv=>whnf)
    exact zab rfl (by rw [no hdef])
   ((try ((refine Exists.intro none ?_);(conv=>whnf)));refine zai (k1) (by kernel_rfl) ?_;conv=>whnf)
   ((try ((refine Exists.intro none ?_);(conv=>whnf)));refine zai (k2) (by kernel_rfl) ?_;conv=>whnf)
   ((try ((refine Exists.intro none ?_);(conv=>whnf)));refine zai (k3) (by kernel_rfl) ?_;conv=>whnf)
   refine ⟨i+1,⟨⟨by omega,hstep hdef⟩,by omega⟩,?_⟩
   conv=>whnf
   exact wkD
  ·have ei:i=r.reads.length:=by omega
   have:r.reads.all (rdB r.commit)=true:=by
    rw [List.all_eq_true]
    intro x hx
    obtain ⟨j,hj,rfl⟩:=List.getElem_of_mem hx
    exact hal j hj (by omega)
   exact zab rfl (by rw [this])
noncomputable def zcw (r:Rft):Bool:=hardB r.hard && (inR 6 r.id && (decide (r.hard.base≤r.commit) && (decide (r.commit≤lastI r.hard) && (inR 3 r.role && (decide (-1≤r.lead) && (decide (r.lead < 7) && (inR 100 r.wait && ((inR far r.quiet && inR far r.round) && (inR 127 r.votes && (arrR far r.next && (arrR (lastI r.hard) r.mtch && (arrR far r.silent && (rdsB r && (if r.role=3 then decide (r.lead=r.id) else true))))))))))))))
set_option maxHeartbeats 4000000 in
theorem zqg (r:Rft) (hm:r.hard.log.length≤maxLen) (hm2:r.reads.length≤maxLen):Ctr Tryz.prog 13 [.ag r.enc] (iv (if zcw r=true then 0 else 6)) []:=by
 have kh:=zg6 r.hard hm
 have kl:=zd4 r.hard hm
 have k1:=zce 6 r.id
 have k2:=zce 3 r.role
 have k3:=zce 100 r.wait
 have k4:=zhz far r.quiet r.round
 have k5:=zce 127 r.votes
 have k6:=ztc far r
 have k7:=zsn (lastI r.hard) r
 have k8:=zr4 far r
 have k9:=zm2 r hm2
 unfold zcw
 generalize hardB r.hard=b0 at *
 generalize lastI r.hard=li at *
 generalize inR 6 r.id=b1 at *
 generalize inR 3 r.role=b2 at *
 generalize inR 100 r.wait=b3 at *
 generalize (inR far r.quiet && inR far r.round)=b4 at *
 generalize inR 127 r.votes=b5 at *
 generalize arrR far r.next=b6 at *
 generalize arrR li r.mtch=b7 at *
 generalize arrR far r.silent=b8 at *
 generalize rdsB r=b9 at *
 cases b0 with
 | false =>
  refine sBody Tryz.func13 ?_;conv=>whnf
  ((try (refine Exists.intro none ?_;conv=>whnf));(with_reducible refine zaa (kh) ?_);conv=>whnf)
  exact zab rfl rfl
 | true =>
 refine sBody Tryz.func13 ?_;conv=>whnf
 ((try (refine Exists.intro none ?_;conv=>whnf));(with_reducible refine zaa (kh) ?_);conv=>whnf)
 ((try (refine Exists.intro none ?_;conv=>whnf));(with_reducible refine zaa (kl) ?_);conv=>whnf)
 cases b1 with
 | false =>
  ((try ((refine Exists.intro none ?_);(conv=>whnf)));refine zai (k1) (by kernel_rfl) ?_;conv=>whnf)
  exact zab rfl (by simp)
 | true =>
 ((try ((refine Exists.intro none ?_);(conv=>whnf)));refine zai (k1) (by kernel_rfl) ?_;conv=>whnf)
 (refine tSp (fun h=>?_) (fun h=>?_)<;>conv=>whnf)
 ·have g0:=h
  clear h
  (refine tSp (fun h=>?_) (fun h=>?_)<;>conv=>whnf)
  ·have g1:=h
   clear h
   cases b2 with
   | false =>
    ((try ((refine Exists.intro none ?_);(conv=>whnf)));refine zai (k2) (by kernel_rfl) ?_;conv=>whnf)
    exact zab rfl (by simp)
   | true =>
   ((try ((refine Exists.intro none ?_);(conv=>whnf)));refine zai (k2) (by kernel_rfl) ?_;conv=>whnf)
   (refine tSp (fun h=>?_) (fun h=>?_)<;>conv=>whnf)
   ·have g2:=h
    clear h
    (refine tSp (fun h=>?_) (fun h=>?_)<;>conv=>whnf)
    ·have g3:=h
     clear h
     cases b3 with
     | false =>
      ((try ((refine Exists.intro none ?_);(conv=>whnf)));refine zai (k3) (by kernel_rfl) ?_;conv=>whnf)
      exact zab rfl (by simp)
     | true =>
     ((try ((refine Exists.intro none ?_);(conv=>whnf)));refine zai (k3) (by kernel_rfl) ?_;conv=>whnf)
     cases b4 with
     | false =>
      ((try ((refine Exists.intro none ?_);(conv=>whnf)));refine zai (k4) (by kernel_rfl) ?_;conv=>whnf)
      exact zab rfl (by simp)
     | true =>
     ((try ((refine Exists.intro none ?_);(conv=>whnf)));refine zai (k4) (by kernel_rfl) ?_;conv=>whnf)
     cases b5 with
     | false =>
      ((try ((refine Exists.intro none ?_);(conv=>whnf)));refine zai (k5) (by kernel_rfl) ?_;conv=>whnf)
      exact zab rfl (by simp)
     | true =>
     ((try ((refine Exists.intro none ?_);(conv=>whnf)));refine zai (k5) (by kernel_rfl) ?_;conv=>whnf)
     cases b6 with
     | false =>
      ((refine Exists.intro (some ([(1000000,1)],[],[])) ?_);(conv=>whnf);first | ((with_reducible refine zam (k6) ?_);conv=>whnf))
      exact zab rfl (by simp)
     | true =>
     ((refine Exists.intro (some ([(1000000,1)],[],[])) ?_);(conv=>whnf);first | ((with_reducible refine zam (k6) ?_);conv=>whnf))
     cases b7 with
     | false =>
      ((refine Exists.intro (some ([(1000000,1)],[],[])) ?_);(conv=>whnf);first | ((with_reducible refine zam (k7) ?_);conv=>whnf))
      exact zab rfl (by simp)
     | true =>
     ((refine Exists.intro (some ([(1000000,1)],[],[])) ?_);(conv=>whnf);first | ((with_reducible refine zam (k7) ?_);conv=>whnf))
     cases b8 with
     | false =>
      ((refine Exists.intro (some ([(1000000,1)],[],[])) ?_);(conv=>whnf);first | ((with_reducible refine zam (k8) ?_);conv=>whnf))
      exact zab rfl (by simp)
     | true =>
     ((refine Exists.intro (some ([(1000000,1)],[],[])) ?_);(conv=>whnf);first | ((with_reducible refine zam (k8) ?_);conv=>whnf))
     cases b9 with
     | false =>
      ((try (refine Exists.intro none ?_;conv=>whnf));(with_reducible refine zaa (k9) ?_);conv=>whnf)
      exact zab rfl (by simp)
     | true =>
     ((try (refine Exists.intro none ?_;conv=>whnf));(with_reducible refine zaa (k9) ?_);conv=>whnf)
     (refine tSp (fun h=>?_) (fun h=>?_)<;>conv=>whnf)
     ·exact zab rfl (by simp [*])
     ·have gr:r.role=3:=by first | exact h | exact Classical.byContradiction h
      clear h
      (refine tSp (fun h=>?_) (fun h=>?_)<;>conv=>whnf)
      ·exact zab rfl (by simp_all)
      ·exact zab rfl (by simp_all)
    ·exact zab rfl (by simp [h])
   ·exact zab rfl (by simp [h])
  ·exact zab rfl (by simp [h])
 ·exact zab rfl (by simp [h])
abbrev repV (x:Rft) (sn lg rd out:PV):List PV:=[iv x.id,iv x.hard.term,iv x.hard.vote,iv x.hard.base,iv x.hard.baseTerm,iv x.hard.baseConf.full,iv x.hard.baseConf.wit,iv x.hard.baseConf.learn,iv x.hard.baseConf.lwit,sn,lg,iv x.commit,iv x.role,iv x.lead,iv x.wait,iv x.quiet,iv x.votes,iv x.round,iv x.next.a0,iv x.next.a1,iv x.next.a2,iv x.next.a3,iv x.next.a4,iv x.next.a5,iv x.next.a6,iv x.mtch.a0,iv x.mtch.a1,iv x.mtch.a2,iv x.mtch.a3,iv x.mtch.a4,iv x.mtch.a5,iv x.mtch.a6,iv x.silent.a0,iv x.silent.a1,iv x.silent.a2,iv x.silent.a3,iv x.silent.a4,iv x.silent.a5,iv x.silent.a6,rd,out]
abbrev snW (x:Rft) (k:Nat):PV:=.ow k 0 (x.hard.snap.map encB).length
abbrev lgW (x:Rft) (k:Nat):PV:=.ow k 0 (x.hard.log.map Ent.enc).length
abbrev rdW (x:Rft) (k:Nat):PV:=.ow k 0 (x.reads.map Rd.enc).length
abbrev repI (x:Rft) (out:List (List PV)):List PV:=repV x (snW x 1000000) (lgW x 1000001) (rdW x 1000002) (.ow 1000003 0 out.length)
abbrev snO (x:Rft):Option (Bool×Nat×List (List PV)):=some (false,1,x.hard.snap.map encB)
abbrev lgO (x:Rft):Option (Bool×Nat×List (List PV)):=some (false,16,x.hard.log.map Ent.enc)
abbrev rdO (x:Rft):Option (Bool×Nat×List (List PV)):=some (false,13,x.reads.map Rd.enc)
abbrev obI (x:Rft) (out:List (List PV)):List (Nat×Option (Bool×Nat×List (List PV))):=[(1000000,snO x),(1000001,lgO x),(1000002,rdO x),(1000003,some (false,16,out))]
set_option maxHeartbeats 2000000 in
theorem c_of (r : Rft) (h1 : r.hard.snap.length ≤ 4294967296) (h2 : r.hard.log.length ≤ 4294967296) (h3 : r.reads.length ≤ 4294967296) (hr : zcw r = true) :
    CtrE Tryz.prog 44 [.ag r.enc] [] [] (.tu [.pt 28 0,iv 0]) [(28,repV r (snW r 0) (lgW r 1) (rdW r 2) (.ow 3 0 0))] [(0,snO r),(1,lgO r),(2,rdO r),(3,some (false,16,[]))]:=by
 have k:=zqg r (zak h2) (zak h3)
 rw [hr,if_pos rfl] at k
 refine za1 Tryz.func44 ?_;conv=>whnf
 ((try (refine Exists.intro none ?_;conv=>whnf));(with_reducible refine zaa (k) ?_);conv=>whnf)
 ((try (refine Exists.intro none ?_;conv=>whnf));(with_reducible refine zaa (zdq r.hard.snap h1) ?_);conv=>whnf)
 (refine Exists.intro _ (And.intro rfl (And.intro (by intro q hq;first | (cases hq;done) | (simp only [List.mem_cons,List.not_mem_nil,or_false] at hq;rcases hq with rfl | rfl<;>(simp only [List.length_cons,List.length_nil];omega)) | (simp only [List.mem_cons,List.not_mem_nil,or_false] at hq;subst hq;simp only [List.length_cons,List.length_nil];omega)) (And.intro (by intro i hi;simp only [List.length_cons,List.length_nil,Nat.lt_one_iff,Nat.zero_add] at hi;subst hi;rfl) ?_)));conv=>whnf)
 ((try (refine Exists.intro none ?_;conv=>whnf));(with_reducible refine zaa (zc2 r.hard.log h2) ?_);conv=>whnf)
 (refine Exists.intro _ (And.intro rfl (And.intro (by intro q hq;first | (cases hq;done) | (simp only [List.mem_cons,List.not_mem_nil,or_false] at hq;rcases hq with rfl | rfl<;>(simp only [List.length_cons,List.length_nil];omega)) | (simp only [List.mem_cons,List.not_mem_nil,or_false] at hq;subst hq;simp only [List.length_cons,List.length_nil];omega)) (And.intro (by intro i hi;simp only [List.length_cons,List.length_nil,Nat.lt_one_iff,Nat.zero_add] at hi;subst hi;rfl) ?_)));conv=>whnf)
 ((try (refine Exists.intro none ?_;conv=>whnf));(with_reducible refine zaa (zia r.reads h3) ?_);conv=>whnf)
 (refine Exists.intro _ (And.intro rfl (And.intro (by intro q hq;first | (cases hq;done) | (simp only [List.mem_cons,List.not_mem_nil,or_false] at hq;rcases hq with rfl | rfl<;>(simp only [List.length_cons,List.length_nil];omega)) | (simp only [List.mem_cons,List.not_mem_nil,or_false] at hq;subst hq;simp only [List.length_cons,List.length_nil];omega)) (And.intro (by intro i hi;simp only [List.length_cons,List.length_nil,Nat.lt_one_iff,Nat.zero_add] at hi;subst hi;rfl) ?_)));conv=>whnf)
 refine zd3 28 40 3000 16 _ rfl rfl rfl ?_
 conv=>whnf
 (refine zae [(0,208),(1,272),(2,320),(3,3000)] [] ?_;(conv=>whnf);exact wkD)
theorem zow {h h':Hrd} (e1:h.base=h'.base) (e2:h.baseConf=h'.baseConf) (e3:h.log=h'.log) (u:Int):force h u=force h' u:=by
 have key:∀ n,fwd h u n=fwd h' u n:=by
  intro n
  induction n with
  | zero=>unfold fwd;rw [e1,e2]
  | succ n ih =>
   unfold fwd
   rw [e3,ih]
   have ei:idx h n=idx h' n:=by unfold idx;rw [e1]
   rw [ei]
 unfold force
 rw [e3,key]
theorem ztg {h h':Hrd} (e1:h.base=h'.base) (e3:h.log=h'.log):lastI h=lastI h':=by
 unfold lastI;rw [e1,e3]
set_option maxHeartbeats 2000000 in
theorem c_fall (r : Rft) (hm : r.hard.log.length ≤ maxLen) (out : List (List PV)) (term lead : Int) :
    CtrE Tryz.prog 118 [.pt 1000000 0,iv term,iv lead] [(1000000,repI r out)] (obI r out) (.tu [])
     [(1000000,repV (fallR r term lead) (snW r 1000000) (lgW r 1000001) (.ow 2 0 0) (.ow 1000003 0 out.length))] (obI r out++[(2,some (false,13,[]))]):=by
 have kc:=zem { r with role:=0,lead:=lead,votes:=0,reads:=[],next:=zA,mtch:=zA,silent:=zA } hm
 have kd:=zjx (zac r) r.id
 unfold fallR
 refine za1 Tryz.func118 ?_;conv=>whnf
 ((try (refine Exists.intro none ?_;conv=>whnf));refine tOwn0 ?_;conv=>whnf)
 ((try (refine Exists.intro none ?_;conv=>whnf));refine tOwn0 ?_;conv=>whnf)
 ((try ((refine Exists.intro none ?_);(conv=>whnf)));refine zaw (kc) (by (repeat' (first | exact zav | exact zau | refine zar ?_ ?_ | refine zaq ?_ ?_ | exact SubV.refl _ | exact za2 | (with_reducible exact za7 rfl) | refine za6 ?_ | refine za8 ?_ | refine za5 ?_))) ?_;conv=>whnf)
 ((try (refine Exists.intro none ?_;conv=>whnf));(with_reducible refine zaa (kd) ?_);conv=>whnf)
 (refine tSp (fun h=>?_) (fun h=>?_)<;>conv=>whnf)
 ·rw [if_pos (by omega)]
  refine zd3 1000000 39 3000 13 _ rfl rfl rfl ?_
  conv=>whnf
  (refine zae [(1000000,1000000),(1000001,1000001),(1000002,1000002),(1000003,1000003),(2,3000)] [] ?_;(conv=>whnf);exact wkD)
 ·rw [if_neg (by omega)]
  refine zd3 1000000 39 3000 13 _ rfl rfl rfl ?_
  conv=>whnf
  (refine zae [(1000000,1000000),(1000001,1000001),(1000002,1000002),(1000003,1000003),(2,3000)] [] ?_;(conv=>whnf);exact wkD)
theorem zw1 (r:Rft) (out:List (List PV)) (hid:0≤r.id∧r.id < 7):CtrE Tryz.prog 114 [.pt 1000000 0] [(1000000,repI r out)] (obI r out) (iv (shl 1 r.id)) [(1000000,repI r out)] (obI r out):=by
 refine za1 Tryz.func114 ?_;conv=>whnf
 refine ⟨⟨by decide,hid.1⟩,?_⟩
 conv=>whnf
 (refine zae [(1000000,1000000),(1000001,1000001),(1000002,1000002),(1000003,1000003)] [] ?_;(conv=>whnf);exact wkD)
theorem zfu {id bits:Int}{i:Nat} (h:(i:Int) ≠ id) (ht:tb bits i=true):othN id bits (i+1)=othN id bits i++[(i:Int)]:=by
 unfold othN
 rw [List.range_succ,List.filter_append,List.map_append,List.filter_cons,if_pos (by simp [h,ht])];rfl
theorem zfl {id bits:Int}{i:Nat} (h:(i:Int)=id∨tb bits i=false):othN id bits (i+1)=othN id bits i:=by
 unfold othN
 rw [List.range_succ,List.filter_append,List.map_append,List.filter_cons,if_neg (by rcases h with h | h<;>simp [h])];simp
theorem zc4 (id bits:Int) (i:Nat):(othN id bits i).length≤i:=by
 unfold othN
 rw [List.length_map]
 have:=List.length_filter_le (fun k:Nat=>decide ((k:Int) ≠ id) && tb bits k) (List.range i)
 rw [List.length_range] at this
 exact this
abbrev encI (n:Int):List PV:=[iv n]
set_option maxHeartbeats 4000000 in
theorem zlx (r:Rft) (out:List (List PV)) (bits:Int):CtrE Tryz.prog 112 [.pt 1000000 0,iv bits] [(1000000,repI r out)] (obI r out) (.ow 1 0 ((othN r.id bits 7).map encI).length) [(1000000,repI r out)] [(1000000,snO r),(1000001,lgO r),(1000002,rdO r),(1000003,some (false,16,out)),(1,some (false,1,(othN r.id bits 7).map encI))]:=by
 refine za1 Tryz.func112 ?_;conv=>whnf
 refine zpw 5 1002 1 rfl rfl ?_
 conv=>whnf
 refine tFor (fun i:Nat=>i≤7) (fun i=>[(7,iv i),(5,.ow 1002 0 ((othN r.id bits i).map encI).length)]) (fun _=>[(1000000,repI r out)]) (fun i=>[(1000000,snO r),(1000001,lgO r),(1000002,rdO r),(1000003,some (false,16,out)),(1002,some (false,1,(othN r.id bits i).map encI))]) [(1000000,1000000),(1000001,1000001),(1000002,1000002),(1000003,1000003),(1002,1002)] (fun i=>7 - i) 0 (Nat.zero_le _) ?_ ?_
 ·conv=>whnf
  exact wkD
 intro i hi
 have hl:=zc4 r.id bits i
 have hlm:((othN r.id bits i).map encI).length=(othN r.id bits i).length:=List.length_map ..
 conv=>whnf
 (refine tSp (fun h=>?_) (fun h=>?_)<;>conv=>whnf)
 ·have hlt:i < 7:=by omega
  clear h
  have hb:iand .i64 (ishr .i64 bits (i:Int)) 1=nb (tb bits i):=zel bits i (by omega)
  (refine tSp (fun h=>?_) (fun h=>?_)<;>conv=>whnf)
  ·have hne:¬ (i:Int)=r.id:=h
   clear h
   ((with_reducible refine And.intro (And.intro (by first | decide | omega) (by first | decide | omega)) ?_);conv=>whnf)
   rw [hb]
   cases ht:tb bits i with
   | true =>
    have hy:=zfu hne ht
    have hy:(othN r.id bits (i+1)).map encI=(othN r.id bits i).map encI++[encI (i:Int)]:=by rw [hy,List.map_append];rfl
    conv=>whnf
    have b1:(((othN r.id bits i).map encI).length+1) * 8≤140737488355328:=by omega
    have b2:((othN r.id bits i).map encI).length+1≤maxLen:=zak (by omega)
    (refine And.intro rfl ?_;(conv=>whnf);refine And.intro (And.intro (And.intro (by kernel_rfl) (And.intro (Nat.le_refl _) (And.intro (b1) (And.intro (b2) (by intro r hr;rw [List.mem_singleton.1 hr];rfl))))) (And.intro (by decide) rfl)) ?_;conv=>whnf)
    refine ⟨i+1,[(1000000,1000000),(1000001,1000001),(1000002,1000002),(1000003,1000003),(1002,432)],⟨by omega,by omega⟩,?_⟩
    rw [hy]
    conv=>whnf
    (refine wkx ?_;refine ⟨?_,?_,?_⟩<;>(conv=>whnf)<;>repeat' first | exact wkc | (with_reducible refine And.intro ?_ ?_)<;>first | exact wks | refine wko ?_ | refine wki ?_ | refine wkb ?_ | (refine zan ?_;conv=>whnf) | (refine zah ?_;conv=>whnf) | (refine zag ?_;conv=>whnf) | conv=>whnf)
    all_goals first | exact w1 (by omega) | (refine zaz (by kernel_rfl) ?_;rw [List.take_of_length_le (Nat.le_refl _)];done) | (refine zaz (by kernel_rfl) ?_;rw [List.take_of_length_le (Nat.le_refl _)];rfl) | exact List.length_append.symm | rfl | trace_state
   | false =>
    have hn:=zfl (id:=r.id) (i:=i) (.inr ht)
    conv=>whnf
    refine ⟨i+1,[(1000000,1000000),(1000001,1000001),(1000002,1000002),(1000003,1000003),(1002,1002)],⟨by omega,by omega⟩,?_⟩
    rw [hn]
    conv=>whnf
    exact wkD
  ·have he:(i:Int)=r.id:=by first | exact h | exact Classical.byContradiction h
   have hn:=zfl (bits:=bits) (i:=i) (.inl he)
   clear h
   refine ⟨i+1,[(1000000,1000000),(1000001,1000001),(1000002,1000002),(1000003,1000003),(1002,1002)],⟨by omega,by omega⟩,?_⟩
   rw [hn]
   conv=>whnf
   exact wkD
 ·have ei:i=7:=by omega
  subst ei
  (refine zae [(1000000,1000000),(1000001,1000001),(1000002,1000002),(1000003,1000003),(1,1002)] [] ?_;(conv=>whnf);exact wkD)
set_option maxHeartbeats 2000000 in
theorem zx4 (r : Rft) (hm : r.hard.log.length ≤ maxLen) (out : List (List PV)) : CtrE Tryz.prog 181 [.pt 1000000 0] [(1000000, repI r out)] (obI r out) (.ow 1 0 ((othN r.id (bor (zac r).full (zac r).wit) 7).map encI).length) [(1000000, repI r out)]
    [(1000000,snO r),(1000001,lgO r),(1000002,rdO r),(1000003,some (false,16,out)),(1,some (false,1,(othN r.id (bor (zac r).full (zac r).wit) 7).map encI))]:=by
 have kc:=zem r hm
 have kv:=zle (zac r)
 have ko:=zlx r out (bor (zac r).full (zac r).wit)
 refine za1 Tryz.func181 ?_;conv=>whnf
 ((try (refine Exists.intro none ?_;conv=>whnf));refine tOwn0 ?_;conv=>whnf)
 ((try (refine Exists.intro none ?_;conv=>whnf));refine tOwn0 ?_;conv=>whnf)
 ((try (refine Exists.intro none ?_;conv=>whnf));refine tOwn0 ?_;conv=>whnf)
 ((try ((refine Exists.intro none ?_);(conv=>whnf)));first | (refine zai (kc) (by simp only [List.drop_zero,List.take_length]) ?_;conv=>whnf))
 ((try (refine Exists.intro none ?_;conv=>whnf));(with_reducible refine zaa (kv) ?_);conv=>whnf)
 ((refine Exists.intro (some ([(1000000,1000000)],[(1000000,1000000),(1000001,1000001),(1000002,1000002),(1000003,1000003)],[(1,900)])) ?_);(conv=>whnf);first | ((with_reducible refine zam (ko) ?_);conv=>whnf))
 (refine zae [(1000000,1000000),(1000001,1000001),(1000002,1000002),(1000003,1000003),(1,900)] [] ?_;(conv=>whnf);exact wkD)
abbrev msgV (k f t tm ix lt cm rd:Int) (y:Bool) (es:PV) (cf:Conf) (sn:PV):List PV:=[iv k,iv f,iv t,iv tm,iv ix,iv lt,iv cm,iv rd,bv y,es,iv cf.full,iv cf.wit,iv cf.learn,iv cf.lwit,sn,.nl]
abbrev repM (x:Rft) (out:List (List PV)):List PV:=repV x (snW x 1000000) (lgW x 1000001) (rdW x 1000002) (.ow 1 0 out.length)
abbrev obM (x:Rft) (out:List (List PV)):List (Nat×Option (Bool×Nat×List (List PV))):=[(1000000,snO x),(1000001,lgO x),(1000002,rdO x),(1000003,none),(1,some (false,16,out))]
set_option maxHeartbeats 2000000 in
theorem zmg (r : Rft) (out : List (List PV)) (ho : out.length ≤ 4294967) (k f t tm ix lt cm rd : Int) (y : Bool) (cf : Conf) (to term : Int) :
    CtrE Tryz.prog 121 [.pt 1000000 0,.ag (msgV k f t tm ix lt cm rd y (.nl) cf (.nl)),iv to,iv term] [(1000000,repI r out)] (obI r out) (.tu []) [(1000000,repM r (out++[msgV k r.id to term ix lt cm rd y (.nl) cf (.nl)]))] (obM r (out++[msgV k r.id to term ix lt cm rd y (.nl) cf (.nl)])):=by
 have hget:∀ z:List PV,(List.take out.length out++[z])[0+((out.length:Nat):Int).toNat]?=some z:=fun z=>by
  rw [List.take_length,Nat.zero_add,Int.toNat_natCast,List.getElem?_append_right (Nat.le_refl _),Nat.sub_self];rfl
 have hset:∀ z u:List PV,(List.take out.length out++[z]).set (0+((out.length:Nat):Int).toNat) u=out++[u]:=fun z u=>by
  rw [List.take_length,Nat.zero_add,Int.toNat_natCast,List.set_append_right _ _ (Nat.le_refl _),Nat.sub_self];rfl
 have b1:(out.length+1) * 176≤140737488355328:=by omega
 have b2:out.length+1≤maxLen:=zak (by omega)
 refine za1 Tryz.func121 ?_;conv=>whnf
 (refine And.intro rfl ?_;(conv=>whnf);refine And.intro (And.intro (And.intro (by kernel_rfl) (And.intro (Nat.le_refl _) (And.intro (b1) (And.intro (b2) (by intro r hr;rw [List.mem_singleton.1 hr];rfl))))) (And.intro (by decide) rfl)) ?_;conv=>whnf)
 refine ⟨⟨by omega,by first | omega | (simp only [List.length_cons,List.length_nil];omega)⟩,?_⟩
 conv=>whnf
 refine ⟨_,hget _,?_⟩
 conv=>whnf
 (refine zae [(1000000,1000000),(1000001,1000001),(1000002,1000002),(1000003,1000003),(1,400)] [] ?_;(conv=>whnf);(refine wkx ?_;refine ⟨?_,?_,?_⟩<;>(conv=>whnf)<;>repeat' first | exact wkc | (with_reducible refine And.intro ?_ ?_)<;>first | exact wks | refine wko ?_ | refine wki ?_ | refine wkb ?_ | (refine zan ?_;conv=>whnf) | (refine zah ?_;conv=>whnf) | (refine zag ?_;conv=>whnf) | conv=>whnf))
 all_goals first | rfl | (refine zaz (by kernel_rfl) ?_;rw [hset];done) | (refine zaz (by kernel_rfl) ?_;rw [hset];rfl) | (simp only [List.length_append,List.length_cons,List.length_nil];done) | trace_state
abbrev repFI (x:Rft) (out:List (List PV)):List PV:=repV x (.sl 1 (x.hard.snap.map encB)) (.sl 16 (x.hard.log.map Ent.enc)) (rdW x 1000000) (.ow 1000001 0 out.length)
abbrev repFM (x:Rft) (out:List (List PV)):List PV:=repV x (.sl 1 (x.hard.snap.map encB)) (.sl 16 (x.hard.log.map Ent.enc)) (rdW x 1000000) (.ow 1 0 out.length)
set_option maxHeartbeats 2000000 in
theorem zq0 (r : Rft) (out : List (List PV)) (ho : out.length ≤ 4294967) (k f t tm ix lt cm rd : Int) (y : Bool) (cf : Conf) (to term : Int) :
    CtrE Tryz.prog 121 [.pt 1000000 0,.ag (msgV k f t tm ix lt cm rd y (.nl) cf (.nl)),iv to,iv term] [(1000000,repFI r out)] [(1000000,rdO r),(1000001,some (false,16,out))] (.tu []) [(1000000,repFM r (out++[msgV k r.id to term ix lt cm rd y (.nl) cf (.nl)]))] [(1000000,rdO r),(1000001,none),(1,some (false,16,out++[msgV k r.id to term ix lt cm rd y (.nl) cf (.nl)]))]:=by
 have hget:∀ z:List PV,(List.take out.length out++[z])[0+((out.length:Nat):Int).toNat]?=some z:=fun z=>by
  rw [List.take_length,Nat.zero_add,Int.toNat_natCast,List.getElem?_append_right (Nat.le_refl _),Nat.sub_self];rfl
 have hset:∀ z u:List PV,(List.take out.length out++[z]).set (0+((out.length:Nat):Int).toNat) u=out++[u]:=fun z u=>by
  rw [List.take_length,Nat.zero_add,Int.toNat_natCast,List.set_append_right _ _ (Nat.le_refl _),Nat.sub_self];rfl
 have b1:(out.length+1) * 176≤140737488355328:=by omega
 have b2:out.length+1≤maxLen:=zak (by omega)
 refine za1 Tryz.func121 ?_;conv=>whnf
 (refine And.intro rfl ?_;(conv=>whnf);refine And.intro (And.intro (And.intro (by kernel_rfl) (And.intro (Nat.le_refl _) (And.intro (b1) (And.intro (b2) (by intro r hr;rw [List.mem_singleton.1 hr];rfl))))) (And.intro (by decide) rfl)) ?_;conv=>whnf)
 refine ⟨⟨by omega,by first | omega | (simp only [List.length_cons,List.length_nil];omega)⟩,?_⟩
 conv=>whnf
 refine ⟨_,hget _,?_⟩
 conv=>whnf
 (refine zae [(1000000,1000000),(1000001,1000001),(1,400)] [] ?_;(conv=>whnf);(refine wkx ?_;refine ⟨?_,?_,?_⟩<;>(conv=>whnf)<;>repeat' first | exact wkc | (with_reducible refine And.intro ?_ ?_)<;>first | exact wks | refine wko ?_ | refine wki ?_ | refine wkb ?_ | (refine zan ?_;conv=>whnf) | (refine zah ?_;conv=>whnf) | (refine zag ?_;conv=>whnf) | conv=>whnf))
 all_goals first | rfl | (refine zaz (by kernel_rfl) ?_;rw [hset];done) | (refine zaz (by kernel_rfl) ?_;rw [hset];rfl) | (simp only [List.length_append,List.length_cons,List.length_nil];done) | trace_state
set_option maxHeartbeats 2000000 in
theorem zxk (r : Rft) (out : List (List PV)) (ho : out.length ≤ 4294967) (k f t tm ix lt cm rd : Int) (y : Bool) (cf : Conf) (rows : List (List PV)) (to term : Int) :
    CtrE Tryz.prog 121 [.pt 1000000 0,.ag (msgV k f t tm ix lt cm rd y (.sl 16 rows) cf (.nl)),iv to,iv term] [(1000000,repFI r out)] [(1000000,rdO r),(1000001,some (false,16,out))] (.tu []) [(1000000,repFM r (out++[msgV k r.id to term ix lt cm rd y (.sl 16 rows) cf (.nl)]))] [(1000000,rdO r),(1000001,none),(1,some (false,16,out++[msgV k r.id to term ix lt cm rd y (.sl 16 rows) cf (.nl)]))]:=by
 have hget:∀ z:List PV,(List.take out.length out++[z])[0+((out.length:Nat):Int).toNat]?=some z:=fun z=>by
  rw [List.take_length,Nat.zero_add,Int.toNat_natCast,List.getElem?_append_right (Nat.le_refl _),Nat.sub_self];rfl
 have hset:∀ z u:List PV,(List.take out.length out++[z]).set (0+((out.length:Nat):Int).toNat) u=out++[u]:=fun z u=>by
  rw [List.take_length,Nat.zero_add,Int.toNat_natCast,List.set_append_right _ _ (Nat.le_refl _),Nat.sub_self];rfl
 have b1:(out.length+1) * 176≤140737488355328:=by omega
 have b2:out.length+1≤maxLen:=zak (by omega)
 refine za1 Tryz.func121 ?_;conv=>whnf
 (refine And.intro rfl ?_;(conv=>whnf);refine And.intro (And.intro (And.intro (by kernel_rfl) (And.intro (Nat.le_refl _) (And.intro (b1) (And.intro (b2) (by intro r hr;rw [List.mem_singleton.1 hr];rfl))))) (And.intro (by decide) rfl)) ?_;conv=>whnf)
 refine ⟨⟨by omega,by first | omega | (simp only [List.length_cons,List.length_nil];omega)⟩,?_⟩
 conv=>whnf
 refine ⟨_,hget _,?_⟩
 conv=>whnf
 (refine zae [(1000000,1000000),(1000001,1000001),(1,400)] [] ?_;(conv=>whnf);(refine wkx ?_;refine ⟨?_,?_,?_⟩<;>(conv=>whnf)<;>repeat' first | exact wkc | (with_reducible refine And.intro ?_ ?_)<;>first | exact wks | refine wko ?_ | refine wki ?_ | refine wkb ?_ | (refine zan ?_;conv=>whnf) | (refine zah ?_;conv=>whnf) | (refine zag ?_;conv=>whnf) | conv=>whnf))
 all_goals first | rfl | (refine zaz (by kernel_rfl) ?_;rw [hset];done) | (refine zaz (by kernel_rfl) ?_;rw [hset];rfl) | (simp only [List.length_append,List.length_cons,List.length_nil];done) | trace_state
set_option maxHeartbeats 2000000 in
theorem zxp (r : Rft) (out : List (List PV)) (ho : out.length ≤ 4294967) (k f t tm ix lt cm rd : Int) (y : Bool) (cf : Conf) (rows : List (List PV)) (to term : Int) :
    CtrE Tryz.prog 121 [.pt 1000000 0,.ag (msgV k f t tm ix lt cm rd y (.nl) cf (.sl 1 rows)),iv to,iv term] [(1000000,repFI r out)] [(1000000,rdO r),(1000001,some (false,16,out))] (.tu []) [(1000000,repFM r (out++[msgV k r.id to term ix lt cm rd y (.nl) cf (.sl 1 rows)]))] [(1000000,rdO r),(1000001,none),(1,some (false,16,out++[msgV k r.id to term ix lt cm rd y (.nl) cf (.sl 1 rows)]))]:=by
 have hget:∀ z:List PV,(List.take out.length out++[z])[0+((out.length:Nat):Int).toNat]?=some z:=fun z=>by
  rw [List.take_length,Nat.zero_add,Int.toNat_natCast,List.getElem?_append_right (Nat.le_refl _),Nat.sub_self];rfl
 have hset:∀ z u:List PV,(List.take out.length out++[z]).set (0+((out.length:Nat):Int).toNat) u=out++[u]:=fun z u=>by
  rw [List.take_length,Nat.zero_add,Int.toNat_natCast,List.set_append_right _ _ (Nat.le_refl _),Nat.sub_self];rfl
 have b1:(out.length+1) * 176≤140737488355328:=by omega
 have b2:out.length+1≤maxLen:=zak (by omega)
 refine za1 Tryz.func121 ?_;conv=>whnf
 (refine And.intro rfl ?_;(conv=>whnf);refine And.intro (And.intro (And.intro (by kernel_rfl) (And.intro (Nat.le_refl _) (And.intro (b1) (And.intro (b2) (by intro r hr;rw [List.mem_singleton.1 hr];rfl))))) (And.intro (by decide) rfl)) ?_;conv=>whnf)
 refine ⟨⟨by omega,by first | omega | (simp only [List.length_cons,List.length_nil];omega)⟩,?_⟩
 conv=>whnf
 refine ⟨_,hget _,?_⟩
 conv=>whnf
 (refine zae [(1000000,1000000),(1000001,1000001),(1,400)] [] ?_;(conv=>whnf);(refine wkx ?_;refine ⟨?_,?_,?_⟩<;>(conv=>whnf)<;>repeat' first | exact wkc | (with_reducible refine And.intro ?_ ?_)<;>first | exact wks | refine wko ?_ | refine wki ?_ | refine wkb ?_ | (refine zan ?_;conv=>whnf) | (refine zah ?_;conv=>whnf) | (refine zag ?_;conv=>whnf) | conv=>whnf))
 all_goals first | rfl | (refine zaz (by kernel_rfl) ?_;rw [hset];done) | (refine zaz (by kernel_rfl) ?_;rw [hset];rfl) | (simp only [List.length_append,List.length_cons,List.length_nil];done) | trace_state
abbrev askM (r:Rft) (kind term:Int) (i:Int):List PV:=msgV kind r.id i term (lastI r.hard) (lastT r.hard) 0 0 false .nl cz .nl
noncomputable def votL (r:Rft):List Int:=othN r.id (bor (zac r).full (zac r).wit) 7
set_option maxHeartbeats 4000000 in
theorem zmu (r : Rft) (hm : r.hard.log.length ≤ maxLen) (out : List (List PV)) (ho : out.length ≤ 4000000) (kind term : Int) :
    CtrE Tryz.prog 125 [.pt 1000000 0,iv kind,iv term] [(1000000,repI r out)] (obI r out) (.tu []) [(1000000,repM r (out++(votL r).map (askM r kind term)))] (obM r (out++(votL r).map (askM r kind term))):=by
 have kl:=zd4 r.hard hm
 have kv:=zx4 r hm out
 have hlen:(votL r).length≤7:=zc4 _ _ _
 have ks:=fun (o:List (List PV)) (ho:o.length≤4294967) (i:Int)=>zmg r o ho kind 0 0 0 (lastI r.hard) (lastT r.hard) 0 0 false cz i term
 unfold votL at hlen ⊢
 generalize othN r.id (bor (zac r).full (zac r).wit) 7=vs at *
 have hvm:(vs.map encI).length=vs.length:=List.length_map ..
 refine za1 Tryz.func125 ?_;conv=>whnf
 ((try (refine Exists.intro none ?_;conv=>whnf));refine tOwn0 ?_;conv=>whnf)
 ((try (refine Exists.intro none ?_;conv=>whnf));refine tOwn0 ?_;conv=>whnf)
 ((try ((refine Exists.intro none ?_);(conv=>whnf)));first | (refine zai (kl) (by simp only [List.drop_zero,List.take_length]) ?_;conv=>whnf))
 ((refine Exists.intro (some ([(1000000,1000000)],[(1000000,1000000),(1000001,1000001),(1000002,1000002),(1000003,1000003)],[(1,901)])) ?_);(conv=>whnf);first | ((with_reducible refine zam (kv) ?_);conv=>whnf))
 refine zww 1000003 2000 rfl rfl ?_
 conv=>whnf
 refine tFor (fun i:Nat=>i≤vs.length) (fun i=>[(22,iv i)]) (fun i=>[(1000000,repV r (snW r 1000000) (lgW r 1000001) (rdW r 1000002) (.ow 2000 0 (out++(vs.take i).map (askM r kind term)).length))]) (fun i=>[(1000000,snO r),(1000001,lgO r),(1000002,rdO r),(1000003,none),(901,some (false,1,vs.map encI)),(2000,some (false,16,out++(vs.take i).map (askM r kind term)))]) [(1000000,1000000),(1000001,1000001),(1000002,1000002),(1000003,1000003),(901,901),(2000,2000)] (fun i=>vs.length - i) 0 (Nat.zero_le _) ?_ ?_
 ·conv=>whnf
  (refine wkx ?_;refine ⟨?_,?_,?_⟩<;>(conv=>whnf)<;>repeat' first | exact wkc | (with_reducible refine And.intro ?_ ?_)<;>first | exact wks | refine wko ?_ | refine wki ?_ | refine wkb ?_ | (refine zan ?_;conv=>whnf) | (refine zah ?_;conv=>whnf) | (refine zag ?_;conv=>whnf) | conv=>whnf)
  all_goals first | rfl | (refine zaz (by kernel_rfl) ?_;exact (List.append_nil _).symm) | exact (congrArg List.length (List.append_nil _)).symm | trace_state
 intro i hi
 have hol:(out++(vs.take i).map (askM r kind term)).length≤4294967:=by rw [List.length_append,List.length_map,List.length_take];omega
 conv=>whnf
 (refine tSp (fun h=>?_) (fun h=>?_)<;>conv=>whnf)
 ·have hlt:i < vs.length:=by omega
  clear h
  have hrow:(vs.map encI)[0+((i:Nat):Int).toNat]?=some (encI (vs[i]'hlt)):=by
   rw [Nat.zero_add,Int.toNat_natCast,List.getElem?_map,List.getElem?_eq_getElem hlt];rfl
  have hsucc:out++(vs.take (i+1)).map (askM r kind term)=(out++(vs.take i).map (askM r kind term))++[askM r kind term (vs[i]'hlt)]:=by
   rw [List.take_succ_eq_append_getElem hlt,List.map_append,List.append_assoc];rfl
  have k:=ks _ hol (vs[i]'hlt)
  generalize vs[i]'hlt=v at *
  refine ⟨⟨by omega,by omega⟩,?_⟩
  conv=>whnf
  refine ⟨_,hrow,?_⟩
  conv=>whnf
  ((refine Exists.intro (some ([(1000000,1000000)],[(1000000,1000000),(1000001,1000001),(1000002,1000002),(1000003,2000)],[(1,902)])) ?_);(conv=>whnf);first | ((with_reducible refine zam (k) ?_);conv=>whnf))
  refine ⟨i+1,[(1000000,1000000),(1000001,1000001),(1000002,1000002),(1000003,1000003),(901,901),(2000,902)],⟨by omega,by omega⟩,?_⟩
  rw [hsucc]
  conv=>whnf
  exact wkD
 ·have ei:i=vs.length:=by omega
  subst ei
  rw [List.take_length]
  (refine zae [(1000000,1000000),(1000001,1000001),(1000002,1000002),(1000003,1000003),(1,2000)] [] ?_;(conv=>whnf);exact wkD)
end Go.Proofs
