/- Plain law: who has taken what another one feeds has its entries. -/
import Derived.Test.YtnphfgphajejaaaC54
set_option linter.unusedSimpArgs false
set_option linter.unusedVariables false
namespace Go.Proofs
open Go.Pv
set_option maxRecDepth 100000

theorem grow_matches {h : Hrd} {c : Int} {m : Mg} (hl : h.log.length ≤ 4294000) (e : growE h c m = 0) (hy : (growO h c m).yes = true) :
    hardB (growO h c m).h = true ∧ (growO h c m).h.base = h.base ∧ (∀ k (hk : k < m.entries.length), h.base < m.index + 1 + k → ∃ a, entAt (growO h c m).h (m.index + 1 + k) = some a ∧ a.term = (m.entries[k]'hk).term) ∧ (growO h c m).i = max (m.index + m.entries.length) h.base := by
  obtain ⟨h1, h2⟩ := growE_hard e
  cases hf : fits h (gP h m) (gT h m) with
  | false => rw [(growE_no h1 h2 hf).2] at hy; cases hy
  | true =>
    obtain ⟨n, k⟩ := growFit (by omega) e hf
    have hr := k.ko.right
    rw [k.ko.log] at hr
    have hat := k.ko.at'
    have hP : gP h m = max m.index h.base := by unfold gP; split <;> omega
    have hLl : ((gL h m).length : Int) = max 0 (m.entries.length - max 0 (h.base - m.index)) := by
      unfold gL
      rw [List.length_drop]; omega
    rw [k.out]
    refine ⟨hr, rfl, ?_, ?_⟩
    · intro i hi hgt
      obtain ⟨j, hj⟩ : ∃ j, i = (h.base - m.index).toNat + j := ⟨i - (h.base - m.index).toNat, by omega⟩
      have hjl : j < (gL h m).length := by omega
      obtain ⟨a, ha1, ha2⟩ := putM_term (h.log.drop n) (gL h m) j hjl
      rw [← putG_drop h.log (gL h m) k.ko.le, List.getElem?_drop] at ha1
      refine ⟨a, ?_, ?_⟩
      · rw [entAt_nat (h := { h with log := putG h.log n (gL h m) }) (m := n + j) (by show _ = h.base + 1 + _; omega)]
        exact ha1
      · have e5 : (gL h m)[j]? = m.entries[i]? := by unfold gL; rw [List.getElem?_drop, hj]
        rw [List.getElem?_eq_getElem hjl, List.getElem?_eq_getElem hi] at e5
        injection e5 with e5
        rw [ha2, e5]
    · show gP h m + ((gL h m).length : Int) = _
      omega
end Go.Proofs
