/- A replica, step by step, in plain Lean: what each step makes of it. -/
import Derived.Test.YtbhfokahocgndaaGreatC16
import Derived.Test.YtbhfokahocgndaaGreatC54
set_option linter.unusedSimpArgs false
set_option linter.unusedVariables false
namespace Go.Proofs
open Go.Pv
set_option maxRecDepth 100000

abbrev zA : Arr := ⟨0, 0, 0, 0, 0, 0, 0⟩
abbrev far : Int := 1099511627776
def Arr.all (a : Arr) (p : Int → Prop) : Prop := p a.a0 ∧ p a.a1 ∧ p a.a2 ∧ p a.a3 ∧ p a.a4 ∧ p a.a5 ∧ p a.a6
def Arr.put (a : Arr) (i : Nat) (v : Int) : Arr := match i with
  | 0 => { a with a0 := v }
  | 1 => { a with a1 := v }
  | 2 => { a with a2 := v }
  | 3 => { a with a3 := v }
  | 4 => { a with a4 := v }
  | 5 => { a with a5 := v }
  | 6 => { a with a6 := v }
  | _ => a
/-- A replica falls to a term. -/
noncomputable def fallR (r : Rft) (term lead : Int) : Rft :=
  { r with role := 0, lead := lead, votes := 0, reads := [], next := zA, mtch := zA, silent := zA, wait := delay (inForce r) r.id, hard := if term > r.hard.term then { r.hard with term := term, vote := -1 } else r.hard }
/-- The others of some bits. -/
noncomputable def othN (id bits : Int) (i : Nat) : List Int := ((List.range i).filter fun k : Nat => decide ((k : Int) ≠ id) && tb bits k).map fun k : Nat => (k : Int)
end Go.Proofs
