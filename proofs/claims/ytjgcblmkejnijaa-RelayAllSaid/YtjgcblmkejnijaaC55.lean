/- Contracts of functions: grow.Take. -/
import Derived.Test.YtjgcblmkejnijaaC54
import Derived.Test.YtjgcblmkejnijaaC51
set_option linter.unusedSimpArgs false
set_option linter.unusedVariables false
namespace Go.Proofs
open Go.Pv
set_option maxRecDepth 100000

abbrev mzv : List PV := [iv 0, iv 0, iv 0, iv 0, iv 0, iv 0, iv 0, iv 0, bv false, .nl, iv 0, iv 0, iv 0, iv 0, .nl, .nl]
abbrev ansV (yes : Bool) (i : Int) : List PV := [iv 6, iv 0, iv 0, iv 0, iv i, iv 0, iv 0, iv 0, bv yes, .nl, iv 0, iv 0, iv 0, iv 0, .nl, .nl]
def resG (e : Int) (o : GOut) : PV := if e = 0 then .tu [.ag (o.h.own 0), iv o.c, .ag (ansV o.yes o.i), iv 0] else .tu [.ag hzv, iv 0, .ag mzv, iv e]
def resGO (e : Int) (o : GOut) : List (Nat × List (List PV)) := if e = 0 then o.h.obs else []
def resGW (e : Int) (o : GOut) : PV := if e = 0 then .tu [.ag o.h.enc, iv o.c, .ag (ansV o.yes o.i), iv 0] else .tu [.ag hzv, iv 0, .ag mzv, iv e]
theorem ctr_resG {f : Nat} {ps : List PV} {e : Int} {o : GOut} (h : Ctr Try.prog f ps (resG e o) (resGO e o)) : Ctr Try.prog f ps (resGW e o) [] := by
  unfold resG resGO at h
  unfold resGW
  by_cases he : e = 0
  · rw [if_pos he, if_pos he] at h
    rw [if_pos he]
    refine h.frz (wkV_tu ?_)
    refine ⟨wkV_ag ?_, wkV_same _ rfl, wkV_same _ rfl, wkV_same _ rfl, rfl⟩
    conv => whnf
    repeat' (first | exact rfl | ((with_reducible refine And.intro ?_ ?_) <;> (first | (with_reducible exact wkV_same _ rfl) | exact wkV_fz (b := false) (List.Mem.head _) rfl | exact wkV_fz (b := false) (List.Mem.tail _ (List.Mem.head _)) rfl | (conv => whnf))))
  · rw [if_neg he, if_neg he] at h
    rw [if_neg he]
    exact h
theorem resG_ok {e : Int} {o : GOut} (he : e = 0) : resG e o = .tu [.ag (o.h.own 0), iv o.c, .ag (ansV o.yes o.i), iv 0] ∧ resGO e o = o.h.obs ∧ resGW e o = .tu [.ag o.h.enc, iv o.c, .ag (ansV o.yes o.i), iv 0] := by
  subst he; exact ⟨rfl, rfl, rfl⟩
theorem resG_no {e : Int} {o : GOut} (he : ¬ e = 0) : resG e o = .tu [.ag hzv, iv 0, .ag mzv, iv e] ∧ resGO e o = [] ∧ resGW e o = .tu [.ag hzv, iv 0, .ag mzv, iv e] := by
  unfold resG resGO resGW
  rw [if_neg he, if_neg he, if_neg he]; exact ⟨rfl, rfl, rfl⟩

end Go.Proofs
