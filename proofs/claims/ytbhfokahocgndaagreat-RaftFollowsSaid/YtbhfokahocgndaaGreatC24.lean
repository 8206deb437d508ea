import Derived.Test.YtbhfokahocgndaaGreatC22
import Derived.Test.YtbhfokahocgndaaGreatC6
/- Contracts of functions: logs that match, that agree (the program's). -/
set_option linter.unusedSimpArgs false
set_option linter.unusedVariables false
namespace Go.Proofs
open Go.Pv
set_option maxRecDepth 100000

def lkB (r : Rft) : Bool := withinB r.hard.base 0 1099511627776
abbrev entE (r : Rft) (k : Int) : Ent := (entAt r.hard k).getD ez

/-- A replica whose log is played. -/
structure Rft.small (r : Rft) : Prop where
  log : r.hard.log.length ≤ 4294967296
  base : isI r.hard.base
  snap : r.hard.snap.length ≤ 4294967296
  reads : r.reads.length ≤ 4294967296
theorem Rft.small.len {r : Rft} (h : r.small) : r.hard.log.length ≤ maxLen := smallM h.log

abbrev lastR (r : Rft) : Int := r.hard.base + r.hard.log.length
def bothAll (e : Int → Ent → Ent → Bool) (a b : Rft) : Prop := lkB a = true → lkB b = true → ∀ k : Int, a.hard.base < k → b.hard.base < k → k ≤ lastR a → k ≤ lastR b → e k (entE a k) (entE b k) = true

def agreeE (a b : Rft) (k : Int) (x y : Ent) : Bool := decide (a.commit < k) || (decide (b.commit < k) || decide (x.nrm = y.nrm))
noncomputable def agreeF (a b : Rft) : Bool := dec (bothAll (agreeE a b) a b)
/-! Matches: the closure writes what it has captured. -/
/-- One term at an index. -/
def oneT (a b : Rft) (k : Int) : Prop := (entE a k).term = (entE b k).term
def metP (a b : Rft) (hi k : Int) : Prop := ∃ n : Int, k < n ∧ n ≤ hi ∧ oneT a b n
def matchP (a b : Rft) : Prop := lkB a = true → lkB b = true → ∀ k : Int, a.hard.base < k → b.hard.base < k → k ≤ lastR a → k ≤ lastR b → (∃ n : Int, k ≤ n ∧ n ≤ lastR a ∧ n ≤ lastR b ∧ oneT a b n) → (entE a k).nrm = (entE b k).nrm

noncomputable def matchF (a b : Rft) : Bool := dec (matchP a b)
end Go.Proofs

/- Contracts of functions: leaders, logs that match, that agree (the reference's). -/
namespace Go.Proofs
open Go.Pv
set_option maxRecDepth 100000

def agreeP (a b : Rft) : Prop := bothAll (agreeE a b) a b

end Go.Proofs

/- Contracts of functions: logs that match, that agree, of many (the reference's); what is more than is played; twins as values. -/
namespace Go.Proofs
open Go.Pv
set_option maxRecDepth 100000

def heavy1 (r : Rft) : Bool := heavyH r.hard || decide (200 < (r.reads.length : Int))
def heavyL (l : List Rft) : Bool := decide (30 < (l.length : Int)) || l.any heavy1
theorem wkV_fz {kb : List Nat} {rn : List (Nat × Nat)} {fz : List (Nat × Bool × Nat × List (List PV))} {k n : Nat} {b : Bool} {sz : Nat} {rows : List (List PV)} (h : (k, b, sz, rows) ∈ fz) (hn : n = rows.length) : WkV kb rn fz (.ow k 0 n) (.sl sz rows) := by
  subst hn
  simp only [WkV]
  exact .inr (.inr ⟨k, 0, _, b, rows, rfl, h, by omega, by simp⟩)

end Go.Proofs
