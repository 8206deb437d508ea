/- Contracts of functions: which questions are ready. -/
import Derived.Test.YtbhfokahocgndaaC13
set_option linter.unusedSimpArgs false
set_option linter.unusedVariables false
namespace Go.Proofs
open Go.Pv
set_option maxRecDepth 100000

noncomputable def rdy (c : Conf) (applied : Int) (x : Rd) : Bool := quorum c x.acks && decide (x.index ≤ applied)
noncomputable def rdyL (l : List Rd) (c : Conf) (applied : Int) (i : Nat) : List Rd := (l.take i).filter (rdy c applied)
noncomputable def lftL (l : List Rd) (c : Conf) (applied : Int) (i : Nat) : List Rd := (l.take i).filter fun x => !rdy c applied x

theorem rdyL_succ {l : List Rd} {c : Conf} {applied : Int} {i : Nat} (h : i < l.length) : rdyL l c applied (i + 1) = rdyL l c applied i ++ if rdy c applied (l[i]'h) then [l[i]'h] else [] := by
  unfold rdyL
  rw [List.take_succ_eq_append_getElem h, List.filter_append]
  congr 1
  cases hr : rdy c applied (l[i]'h) <;> simp [hr]
theorem lftL_succ {l : List Rd} {c : Conf} {applied : Int} {i : Nat} (h : i < l.length) : lftL l c applied (i + 1) = lftL l c applied i ++ if rdy c applied (l[i]'h) then [] else [l[i]'h] := by
  unfold lftL
  rw [List.take_succ_eq_append_getElem h, List.filter_append]
  congr 1
  cases hr : rdy c applied (l[i]'h) <;> simp [hr]
theorem rdyL_len (l : List Rd) (c : Conf) (applied : Int) (i : Nat) : (rdyL l c applied i).length ≤ l.length := by
  unfold rdyL
  exact Nat.le_trans (List.length_filter_le _ _) (by simp; omega)
theorem lftL_len (l : List Rd) (c : Conf) (applied : Int) (i : Nat) : (lftL l c applied i).length ≤ l.length := by
  unfold lftL
  exact Nat.le_trans (List.length_filter_le _ _) (by simp; omega)

def heavyRd (l : List Rd) : Bool := decide (100 < (l.length : Int)) || l.any fun x => heavyCmd x.call.cmd
end Go.Proofs
