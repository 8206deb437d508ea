import Derived.Test.YtbhfokahocgndaaC22
import Derived.Test.YtbhfokahocgndaaC6
/- Contracts of functions: logs that match, that agree (the program's). -/
set_option linter.unusedSimpArgs false
set_option linter.unusedVariables false
namespace Go.Proofs
open Go.Pv
set_option maxRecDepth 100000

def lkB (r : Rft) : Bool := withinB r.hard.base 0 1099511627776
theorem lkB_iff {r : Rft} : lkB r = true ↔ 0 ≤ r.hard.base ∧ r.hard.base ≤ 1099511627776 := by simp [lkB, withinB]

abbrev entE (r : Rft) (k : Int) : Ent := (entAt r.hard k).getD ez

/-- A replica whose log is played. -/
structure Rft.small (r : Rft) : Prop where
  log : r.hard.log.length ≤ 4294967296
  base : isI r.hard.base
  snap : r.hard.snap.length ≤ 4294967296
  reads : r.reads.length ≤ 4294967296
theorem Rft.small.len {r : Rft} (h : r.small) : r.hard.log.length ≤ maxLen := smallM h.log

abbrev lastR (r : Rft) : Int := r.hard.base + r.hard.log.length
theorem lastI_ok {r : Rft} (h : r.small) (hh : lkB r = true) : lastI r.hard = lastR r := by
  obtain ⟨h1, h2⟩ := lkB_iff.1 hh
  have := h.log
  unfold lastI
  split
  · rename_i e; unfold lastR; rw [e]; simp
  · exact wrap_id (by omega) (by omega)

def bothAll (e : Int → Ent → Ent → Bool) (a b : Rft) : Prop := lkB a = true → lkB b = true → ∀ k : Int, a.hard.base < k → b.hard.base < k → k ≤ lastR a → k ≤ lastR b → e k (entE a k) (entE b k) = true

def agreeE (a b : Rft) (k : Int) (x y : Ent) : Bool := decide (a.commit < k) || (decide (b.commit < k) || decide (x.nrm = y.nrm))
noncomputable def agreeF (a b : Rft) : Bool := dec (bothAll (agreeE a b) a b)
/-! Matches: the closure writes what it has captured. -/
/-- One term at an index. -/
def oneT (a b : Rft) (k : Int) : Prop := (entE a k).term = (entE b k).term
def metP (a b : Rft) (hi k : Int) : Prop := ∃ n : Int, k < n ∧ n ≤ hi ∧ oneT a b n
def matchP (a b : Rft) : Prop := lkB a = true → lkB b = true → ∀ k : Int, a.hard.base < k → b.hard.base < k → k ≤ lastR a → k ≤ lastR b → (∃ n : Int, k ≤ n ∧ n ≤ lastR a ∧ n ≤ lastR b ∧ oneT a b n) → (entE a k).nrm = (entE b k).nrm

theorem met_step (a b : Rft) (hi k : Int) (h : k ≤ hi) : dec (metP a b hi (k - 1)) = (dec (metP a b hi k) || ((entE a k).term == (entE b k).term)) := by
  rw [Bool.eq_iff_iff, Bool.or_eq_true, dec_eq_true, dec_eq_true, beq_iff_eq]
  constructor
  · rintro ⟨n, h1, h2, h3⟩
    by_cases e : n = k
    · subst e; exact .inr h3
    · exact .inl ⟨n, by omega, h2, h3⟩
  · rintro (⟨n, h1, h2, h3⟩ | h3)
    · exact ⟨n, by omega, h2, h3⟩
    · exact ⟨k, by omega, h, h3⟩

noncomputable def matchF (a b : Rft) : Bool := dec (matchP a b)
end Go.Proofs

/- Contracts of functions: leaders, logs that match, that agree (the reference's). -/
namespace Go.Proofs
open Go.Pv
set_option maxRecDepth 100000

/-- The reference's entry. -/
theorem c_rAtR (r : Rft) (sr : r.small) (hh : lkB r = true) (i : Int) (hi : isI i) : Ctr Try.prog 21 [.ag r.hard.enc, iv i] (.tu [.ag (entE r i).enc, bv (entAt r.hard i).isSome]) [] := by
  obtain ⟨h1, h2⟩ := lkB_iff.1 hh
  have := sr.log
  exact c_rAt r.hard sr.len h1 (by omega) i hi

theorem entAt_in {r : Rft} {k : Int} (h1 : r.hard.base < k) (h2 : k ≤ lastR r) : (entAt r.hard k).isSome = true := by
  rw [entAt_some h1 (by unfold lastR at h2; omega)]; rfl

def agreeP (a b : Rft) : Prop := bothAll (agreeE a b) a b

end Go.Proofs

/- Contracts of functions: logs that match, that agree, of many (the reference's); what is more than is played; twins as values. -/
namespace Go.Proofs
open Go.Pv
set_option maxRecDepth 100000

theorem matchP_comm (a b : Rft) : matchP a b ↔ matchP b a := by
  have one : ∀ a b : Rft, matchP a b → matchP b a := by
    intro a b h ha hb k k1 k2 k3 k4 ⟨n, n1, n2, n3, n4⟩
    exact (h hb ha k k2 k1 k4 k3 ⟨n, n1, n3, n2, n4.symm⟩).symm
  exact ⟨one a b, one b a⟩
theorem agreeP_comm (a b : Rft) : agreeP a b ↔ agreeP b a := by
  have one : ∀ a b : Rft, agreeP a b → agreeP b a := by
    intro a b h ha hb k k1 k2 k3 k4
    have := h hb ha k k2 k1 k4 k3
    simp only [agreeE, Bool.or_eq_true, decide_eq_true_eq] at this ⊢
    rcases this with q | q | q
    · exact .inr (.inl q)
    · exact .inl q
    · exact .inr (.inr q.symm)
  exact ⟨one a b, one b a⟩

def heavy1 (r : Rft) : Bool := heavyH r.hard || decide (200 < (r.reads.length : Int))
def heavyL (l : List Rft) : Bool := decide (30 < (l.length : Int)) || l.any heavy1
theorem heavyL_small {l : List Rft} (h : heavyL l = false) (hok : ∀ r ∈ l, r.ok) : l.length ≤ 30 ∧ ∀ r ∈ l, r.small := by
  unfold heavyL at h
  simp only [Bool.or_eq_false_iff, decide_eq_false_iff_not, List.any_eq_false] at h
  refine ⟨by omega, fun r hr => ?_⟩
  have h1 := h.2 r hr
  simp only [heavy1, heavyH, heavyEs, Bool.not_eq_true, Bool.or_eq_false_iff, decide_eq_false_iff_not] at h1
  obtain ⟨⟨⟨h1, _⟩, h2⟩, h3⟩ := h1
  exact ⟨by omega, (hok r hr).2.1.2.2.1, by omega, by omega⟩

theorem wkV_fz {kb : List Nat} {rn : List (Nat × Nat)} {fz : List (Nat × Bool × Nat × List (List PV))} {k n : Nat} {b : Bool} {sz : Nat} {rows : List (List PV)} (h : (k, b, sz, rows) ∈ fz) (hn : n = rows.length) : WkV kb rn fz (.ow k 0 n) (.sl sz rows) := by
  subst hn
  simp only [WkV]
  exact .inr (.inr ⟨k, 0, _, b, rows, rfl, h, by omega, by simp⟩)

end Go.Proofs
