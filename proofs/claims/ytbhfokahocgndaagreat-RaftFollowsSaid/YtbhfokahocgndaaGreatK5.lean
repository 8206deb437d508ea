/- Plain law: a replica that is apart asks, again and again. -/
import Derived.Test.YtbhfokahocgndaaGreatK1
set_option linter.unusedSimpArgs false
set_option linter.unusedVariables false
namespace Go.Proofs
open Go.Pv
set_option maxRecDepth 100000

theorem bitB_tb {n : Nat} (hn : n < 7) (b : Int) : bitB b n = tb b n := by
  rw [← hasB_eq (by simp [withinB]; omega), hasB_nat b n (by omega)]
theorem delay_v {c : Conf} {n : Nat} (hn : n < 7) (hv : bitB (bor c.full c.wit) n = true) : 6 ≤ delay c n ∧ delay c n ≤ 32 := by
  rw [bitB_tb hn, tb_or] at hv
  rw [delay_eq, bitB_tb hn, bitB_tb hn]
  cases h1 : tb c.full n with
  | true => rw [if_pos rfl]; omega
  | false =>
    rw [h1, Bool.false_or] at hv
    rw [if_neg (by decide), if_pos hv]; omega
abbrev roI (d i : Nat) : Int := if i / d = 0 then 0 else 1
noncomputable abbrev voI (id : Int) (d i : Nat) : Int := if i / d = 0 then 0 else shl 1 id
abbrev wI (d i : Nat) : Int := (d : Int) - ((i % d : Nat) : Int)
noncomputable abbrev oI (c : Conf) (id : Int) (d i : Nat) : List Int := if i % d + 1 = d then othN id (bor c.full c.wit) 7 else []
end Go.Proofs
