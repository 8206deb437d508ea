/- Contracts of functions: logs.Compact, logs.Install. -/
import Derived.Test.YtjgcblmkejnijaaC41
set_option linter.unusedSimpArgs false
set_option linter.unusedVariables false
namespace Go.Proofs
open Go.Pv
set_option maxRecDepth 100000

noncomputable def compE (h : Hrd) (i : Int) (s : List Int) : Int := if hardB h = true then (if h.base < i ∧ i ≤ lastI h ∧ i ≤ 1099511627776 then (if 16384 < s.length then 2 else 0) else 1) else 6
def compH (h : Hrd) (i : Int) (s : List Int) : Hrd := ⟨h.term, h.vote, i, termAt h i, (force h i).1, s, h.log.drop (i - h.base).toNat⟩

/-! Install. -/
noncomputable def instE (h : Hrd) (i t : Int) (c : Conf) (s : List Int) : Int := if hardB h = true then (if (h.base < i ∧ i ≤ 1099511627776) ∧ (1 ≤ t ∧ t ≤ h.term ∧ h.baseTerm ≤ t) then (if confB c = true then (if 16384 < s.length then 2 else 0) else 14) else 1) else 6
def instH (h : Hrd) (i t : Int) (c : Conf) (s : List Int) : Hrd := ⟨h.term, h.vote, i, t, c, s, if fits h i t = true then h.log.drop (i - h.base).toNat else []⟩
/-- A hard state in memory of its own, without a log. -/
abbrev Hrd.own0 (x : Hrd) (k : Nat) : List PV := [iv x.term, iv x.vote, iv x.base, iv x.baseTerm, iv x.baseConf.full, iv x.baseConf.wit, iv x.baseConf.learn, iv x.baseConf.lwit, .ow k 0 (x.snap.map encB).length, .nl]

theorem fits_in {a : Hrd} {i t : Int} (ht : t ≠ -1) (hf : fits a i t = true) (hi : a.base < i) : i - a.base ≤ a.log.length := by
  unfold fits at hf
  simp only [Bool.and_eq_true, beq_iff_eq] at hf
  have h2 := hf.2
  unfold termAt at h2
  rw [if_neg (by omega)] at h2
  cases he : entAt a i with
  | none => rw [he] at h2; simp only at h2; omega
  | some x => exact (entAt_inH he).2

end Go.Proofs
