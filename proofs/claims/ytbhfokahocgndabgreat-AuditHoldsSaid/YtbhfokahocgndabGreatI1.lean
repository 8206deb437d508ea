import Derived.Test.YtbhfokahocgndabGreatC1
import Derived.Test.YtbhfokahocgndabGreatH10
import Derived.Test.YtbhfokahocgndabGreatY3
/- Contracts of functions: a message is taken, by its kind: one kind. (genH17.py writes this) -/
set_option linter.unusedSimpArgs false
set_option linter.unusedVariables false
namespace Go.Proofs
open Go.Pv
set_option maxRecDepth 100000
abbrev hc (c : Conf) : Hrd := ⟨0, -1, 0, 0, c, [], []⟩
abbrev ak (c : Conf) (id role votes wait quiet : Int) : Rft := ⟨id, hc c, 0, role, -1, wait, quiet, votes, 0, zA, zA, zA, []⟩
theorem zxj {n : Nat} (hn : n < 7) (b : Int) : bitB b n = tb b n := by
 rw [← zh1 (by simp [zaj]; omega), zcv b n (by omega)]
theorem shl_fit {n : Nat} (hn : n < 7) : 0 ≤ shl 1 n ∧ shl 1 n ≤ 127 := by
 rw [zgo n (by omega)]
 rcases (by omega : n = 0 ∨ n = 1 ∨ n = 2 ∨ n = 3 ∨ n = 4 ∨ n = 5 ∨ n = 6) with rfl | rfl | rfl | rfl | rfl | rfl | rfl <;> decide
noncomputable def zjv (r : Rft) (m : Mg) : Bool := inR 6 m.frm && (decide (¬ m.frm = r.id) && (decide (m.to = r.id) && (decide (1 ≤ m.kind) && (decide (m.kind ≤ 8) && ((inR far m.term && inR far m.logTerm) && (inR far m.index && inR far m.round))))))
abbrev rzv : List PV := [iv 0, iv 0, iv 0, iv 0, iv 0, iv 0, iv 0, iv 0, iv 0, .nl, .nl, iv 0, iv 0, iv 0, iv 0, iv 0, iv 0, iv 0, iv 0, iv 0, iv 0, iv 0, iv 0, iv 0, iv 0, iv 0, iv 0, iv 0, iv 0, iv 0, iv 0, iv 0, iv 0, iv 0, iv 0, iv 0, iv 0, iv 0, iv 0, .nl]
end Go.Proofs
