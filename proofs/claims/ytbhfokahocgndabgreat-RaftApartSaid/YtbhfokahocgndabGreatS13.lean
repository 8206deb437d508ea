import Derived.Test.YtbhfokahocgndabGreatC1
import Derived.Test.YtbhfokahocgndabGreatS11
import Derived.Test.YtbhfokahocgndabGreatR3
import Derived.Test.YtbhfokahocgndabGreatC24
/- Contracts of functions: a page's leader's tick. (genS14.py prints this) -/
set_option linter.unusedSimpArgs false
set_option linter.unusedVariables false
namespace Go.Proofs
open Go.Pv
set_option maxRecDepth 100000
set_option maxHeartbeats 8000000 in
theorem c_zTickL (r : Rft) (hf : Fit r) (hn : r.role = 3) : Ctr Tryz.prog 33 [.ag r.enc] (.tu [.ag (beatF r).enc, .sl 16 (beatO r)]) [] := by
 have kt := zar r hf.small
 have kb := c_zbeat r hf
 refine sBody Tryz.func33 ?_; conv => whnf
 ((try (refine Exists.intro none ?_; conv => whnf)); (with_reducible refine zaa (kt) ?_); conv => whnf)
 (refine new0 ?_; conv => whnf)
 (first | refine tYes ?_ | refine tNo ?_)
 conv => whnf
 ((refine Exists.intro (some ([(1000000, 1)], [], [])) ?_); (conv => whnf); refine zau (kb) (by kernel_rfl) (by kernel_rfl) (by kernel_rfl) ?_; conv => whnf)
 exact zaq [] (by intro q hq; cases hq) (zag ⟨zae agD, zah _ rfl, rfl⟩)
theorem my_sh (y : My) {kb ko : List (Nat × Nat)} : shE kb ko (.ag y.enc) = .ag y.enc := by
 obtain ⟨kd, fr, tt, tm, ix, lt, cm, rd, ye, cf, bd⟩ := y
 cases bd <;> rfl
end Go.Proofs
