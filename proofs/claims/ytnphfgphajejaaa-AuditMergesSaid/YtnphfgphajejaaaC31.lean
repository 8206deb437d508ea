/- Plain facts: one entry that is another one is seen. -/
import Derived.Test.YtnphfgphajejaaaC24
import Derived.Test.YtnphfgphajejaaaC22
set_option linter.unusedSimpArgs false
set_option linter.unusedVariables false
namespace Go.Proofs
open Go.Pv
set_option maxRecDepth 100000

abbrev az : Arr := ⟨0, 0, 0, 0, 0, 0, 0⟩
abbrev hz : Hrd := ⟨0, 0, 0, 0, cz, [], []⟩
abbrev rz : Rft := ⟨0, hz, 0, 0, 0, 0, 0, 0, 0, az, az, az, []⟩
/-- A replica of a hard state. -/
abbrev mkR (h : Hrd) (c : Int) : Rft := { rz with hard := h, commit := c }
abbrev setL (h : Hrd) (k : Nat) (x : Ent) : Hrd := { h with log := h.log.set k x }

theorem pairs2 (f : Rft → Rft → Bool) (a b : Rft) : dec (pairsP f [a, b]) = f a b := by
  cases h : f a b
  · apply dec_false
    intro hh
    have : f a b = true := hh 1 (by show 1 < 2; decide) 0 (by decide)
    rw [h] at this; cases this
  · apply dec_true
    intro i hi k hk
    have hi' : i < 2 := hi
    obtain rfl : i = 1 := by omega
    obtain rfl : k = 0 := by omega
    exact h

theorem same_match (h : Hrd) (c : Int) : matchF (mkR h c) (mkR h c) = true := dec_true fun _ _ _ _ _ _ _ _ => rfl
theorem same_agree (h : Hrd) (c : Int) : agreeF (mkR h c) (mkR h c) = true := dec_true fun _ _ k _ _ _ _ => by simp [agreeE]

section sees
variable {h : Hrd} {k : Nat} {x : Ent} (hk : k < h.log.length)
include hk

theorem ent_set (i : Int) : entAt (setL h k x) i = if i = h.base + k + 1 then some x else entAt h i := by
  unfold entAt
  simp only [List.length_set]
  by_cases e : i = h.base + k + 1
  · rw [if_pos e, if_pos (by omega)]
    rw [show (i - h.base - 1).toNat = k by omega]
    simp [hk]
  · rw [if_neg e]
    split
    · rw [List.getElem?_set_ne (by omega)]
    · rfl

theorem see_match (hb : 0 ≤ h.base ∧ h.base ≤ 1099511627776) (c : Int) (hne : ¬ x.nrm = (h.log[k]'hk).nrm) :
    matchF (mkR h c) (mkR (setL h k x) c) = (decide (¬ x.term = (h.log[k]'hk).term) && decide (¬ k + 1 < h.log.length)) := by
  have la : lkB (mkR h c) = true := lkB_iff.2 hb
  have lb : lkB (mkR (setL h k x) c) = true := lkB_iff.2 hb
  have le : lastR (mkR h c) = h.base + h.log.length := rfl
  have ll : lastR (mkR (setL h k x) c) = lastR (mkR h c) := by simp [lastR]
  have e1 : entE (mkR h c) (h.base + k + 1) = h.log[k]'hk := by
    unfold entE
    rw [entAt_some (by show h.base < _; omega) (by show h.base + k + 1 - h.base ≤ (h.log.length : Int); omega)]
    simp only [Option.getD_some]
    congr 1
    show (h.base + k + 1 - h.base - 1).toNat = k
    omega
  have e2 : entE (mkR (setL h k x) c) (h.base + k + 1) = x := by
    unfold entE
    rw [ent_set hk, if_pos rfl]; rfl
  have e3 : ∀ i : Int, i ≠ h.base + k + 1 → entE (mkR (setL h k x) c) i = entE (mkR h c) i := by
    intro i hi
    unfold entE
    rw [ent_set hk, if_neg hi]
  unfold matchF
  rw [Bool.eq_iff_iff, dec_eq_true, Bool.and_eq_true, decide_eq_true_eq, decide_eq_true_eq]
  constructor
  · intro hm
    have hat := hm la lb (h.base + k + 1) (by show h.base < _; omega) (by show h.base < _; omega) (by rw [le]; omega) (by rw [ll, le]; omega)
    rw [e1, e2] at hat
    constructor
    · intro ht
      exact hne (hat ⟨h.base + k + 1, by omega, by rw [le]; omega, by rw [ll, le]; omega, by unfold oneT; rw [e1, e2]; exact ht.symm⟩).symm
    · intro hl
      exact hne (hat ⟨h.base + k + 1 + 1, by omega, by rw [le]; omega, by rw [ll, le]; omega, by unfold oneT; rw [e3 _ (by omega)]⟩).symm
  · rintro ⟨ht, hl⟩ _ _ j j1 j2 j3 j4 ⟨n, n1, n2, n3, n4⟩
    by_cases e : j = h.base + k + 1
    · exfalso
      rw [le] at n2
      have en : n = h.base + k + 1 := by omega
      unfold oneT at n4
      rw [en, e1, e2] at n4
      exact ht n4.symm
    · rw [e3 j e]

theorem see_agree (hb : 0 ≤ h.base ∧ h.base ≤ 1099511627776) (c : Int) (hne : ¬ x.nrm = (h.log[k]'hk).nrm) :
    agreeF (mkR h c) (mkR (setL h k x) c) = decide (c < h.base + k + 1) := by
  have la : lkB (mkR h c) = true := lkB_iff.2 hb
  have lb : lkB (mkR (setL h k x) c) = true := lkB_iff.2 hb
  have le : lastR (mkR h c) = h.base + h.log.length := rfl
  have ll : lastR (mkR (setL h k x) c) = lastR (mkR h c) := by simp [lastR]
  have e1 : entE (mkR h c) (h.base + k + 1) = h.log[k]'hk := by
    unfold entE
    rw [entAt_some (by show h.base < _; omega) (by show h.base + k + 1 - h.base ≤ (h.log.length : Int); omega)]
    simp only [Option.getD_some]
    congr 1
    show (h.base + k + 1 - h.base - 1).toNat = k
    omega
  have e2 : entE (mkR (setL h k x) c) (h.base + k + 1) = x := by
    unfold entE
    rw [ent_set hk, if_pos rfl]; rfl
  have e3 : ∀ i : Int, i ≠ h.base + k + 1 → entE (mkR (setL h k x) c) i = entE (mkR h c) i := by
    intro i hi
    unfold entE
    rw [ent_set hk, if_neg hi]
  unfold agreeF
  rw [Bool.eq_iff_iff, dec_eq_true, decide_eq_true_eq]
  constructor
  · intro hm
    have hat := hm la lb (h.base + k + 1) (by show h.base < _; omega) (by show h.base < _; omega) (by rw [le]; omega) (by rw [ll, le]; omega)
    rw [e1, e2] at hat
    simp only [agreeE, Bool.or_eq_true, decide_eq_true_eq] at hat
    rcases hat with q | q | q
    · exact q
    · exact q
    · exact absurd q.symm hne
  · intro hc _ _ j j1 j2 j3 j4
    simp only [agreeE, Bool.or_eq_true, decide_eq_true_eq]
    by_cases e : j = h.base + k + 1
    · left; rw [e]; exact hc
    · right; right; rw [e3 j e]
end sees
end Go.Proofs
