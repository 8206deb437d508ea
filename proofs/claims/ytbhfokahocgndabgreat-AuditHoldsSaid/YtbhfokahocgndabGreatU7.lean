import Derived.Test.YtbhfokahocgndabGreatR3
/- Contracts of functions: the program's tick of a leader; of anyone. -/
set_option linter.unusedSimpArgs false
set_option linter.unusedVariables false
namespace Go.Proofs
open Go.Pv
set_option maxRecDepth 100000
noncomputable def tkR (r : Rft) : Rft := if r.role = 3 then beatF r else tickR r
noncomputable def tkO (r : Rft) : List (List PV) := if r.role = 3 then beatO r else tickO r
theorem tk_stp {n : Nat} {r : Rft} (h : Rp n r.id r) (hn : n ≤ 199) : Stp n r (tkR r) (tkO r) := by
 unfold tkR tkO
 by_cases hr : r.role = 3
 ·rw [if_pos hr, if_pos hr]; exact zzp h hn
 ·rw [if_neg hr, if_neg hr]; exact zzc h hn hr
end Go.Proofs
