import Derived.Test.YtbhfokahocgndaaGreatC1
import Derived.Test.YtbhfokahocgndaaGreatPvN
/- Contracts of functions: near configurations. -/
set_option linter.unusedSimpArgs false
set_option linter.unusedVariables false
namespace Go.Proofs
open Go.Pv
set_option maxRecDepth 100000

theorem eqOk23 : EqOk Tryz.prog 23 := ⟨by kernel_rfl, by kernel_rfl, by kernel_rfl, by kernel_rfl⟩
theorem eqConf (a b : Conf) : eqInts (Tryz.prog.fieldsOf 23).toList a.enc b.enc = some (decide (a = b)) := by
  have h : eqInts (Tryz.prog.fieldsOf 23).toList a.enc b.enc = some (a.full == b.full && (a.wit == b.wit && (a.learn == b.learn && (a.lwit == b.lwit && true)))) := by kernel_rfl
  rw [h]
  congr 1
  rw [Bool.eq_iff_iff]
  simp only [Bool.and_eq_true, beq_iff_eq, decide_eq_true_eq, and_true]
  exact ⟨fun ⟨h1, h2, h3, h4⟩ => Conf.ext' h1 h2 h3 h4, fun e => by subst e; exact ⟨rfl, rfl, rfl, rfl⟩⟩

def hitS (s : Conf × Int) (b : Conf) : Bool := s.2 == 0 && decide (s.1 = b)
noncomputable def stp (a : Conf) (i : Int) (k : Nat) : Conf × Int := match k with
  | 0 => learnR a i false
  | 1 => learnR a i true
  | 2 => promoteR a i
  | _ => removeR a i
noncomputable def nearI (a b : Conf) (i : Int) : Bool := hitS (learnR a i false) b || (hitS (learnR a i true) b || (hitS (promoteR a i) b || hitS (removeR a i) b))
noncomputable def nearR (a b : Conf) : Bool := confB a && (confB b && (decide (a = b) || (List.range 7).any fun i => nearI a b i))

end Go.Proofs

/- Plain facts: near configurations. -/
namespace Go.Proofs
open Go.Pv
set_option maxRecDepth 100000

/-- The same, but for one node. -/
def but (a b : Conf) (n : Nat) : Prop := ∀ j, j ≠ n → tb b.full j = tb a.full j ∧ tb b.wit j = tb a.wit j ∧ tb b.learn j = tb a.learn j ∧ tb b.lwit j = tb a.lwit j

end Go.Proofs

/- Plain facts: what a step changes. -/
namespace Go.Proofs
open Go.Pv
set_option maxRecDepth 100000

def kind4 (f w l x : Bool) : ByteArray := if f then sFull else if w then sWit else if l then sLearn else if x then sLwit else sE
end Go.Proofs

/- Contracts of functions: the reference's steps. -/
namespace Go.Proofs
open Go.Pv
set_option maxRecDepth 100000

end Go.Proofs
