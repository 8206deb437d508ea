import Derived.Test.YtbhfokahocgndabGreatC1
import Derived.Test.YtbhfokahocgndabGreatH8
import Derived.Test.YtbhfokahocgndabGreatC60
/- Contracts of functions: all others are sent what they lack. -/
set_option linter.unusedSimpArgs false
set_option linter.unusedVariables false
namespace Go.Proofs
open Go.Pv
set_option maxRecDepth 100000
theorem zho {id bits : Int} {n : Nat} {v : Int} (h : v ∈ othN id bits n) : 0 ≤ v ∧ v < n := by
 unfold othN at h
 obtain ⟨k, hk, rfl⟩ := List.mem_map.1 h
 have := List.mem_range.1 (List.mem_filter.1 hk).1
 omega
def zbc (r : Rft) (i : Int) : List PV := if r.next.at i.toNat ≤ r.hard.base then msgV 7 r.id i r.hard.term r.hard.base r.hard.baseTerm r.commit r.round false .nl r.hard.baseConf (.sl 1 (r.hard.snap.map encB))
 else msgV 5 r.id i r.hard.term (feedP r.hard (r.next.at i.toNat)) (zbk r.hard (feedP r.hard (r.next.at i.toNat))) r.commit r.round false (.sl 16 ((feedL r.hard (r.next.at i.toNat)).map Ent.enc)) cz .nl
noncomputable def allL (r : Rft) : List Int := othN r.id (bor (bor (bor (zac r).full (zac r).wit) (zac r).learn) (zac r).lwit) 7
structure SendOk (r : Rft) : Prop where
 log : r.hard.log.length ≤ 4294967
 snap : r.hard.snap.length ≤ 4294967296
 base : 0 ≤ r.hard.base ∧ r.hard.base ≤ 1099511627776
 next : ∀ i, i < 7 → isI (r.next.at i)
end Go.Proofs
