/- Plain law: a log that is cut at an index. -/
import Derived.Test.YtjgcblmkejnijaaC47
import Derived.Test.YtjgcblmkejnijaaC41
set_option linter.unusedSimpArgs false
set_option linter.unusedVariables false
namespace Go.Proofs
open Go.Pv
set_option maxRecDepth 100000

/-- A log that begins behind entry q. -/
def cutH (h : Hrd) (q : Nat) (c : Conf) (s : List Int) : Hrd := ⟨h.term, h.vote, h.base + q, behind h.log h.baseTerm q, c, s, h.log.drop q⟩
theorem row_behind {h : Hrd} (hr : rowB h.log h.baseTerm h.term = true) {q : Nat} (h1 : 1 ≤ q) (hq : q ≤ h.log.length) : 1 ≤ behind h.log h.baseTerm q ∧ behind h.log h.baseTerm q ≤ h.term := by
  obtain ⟨p, rfl⟩ : ∃ p, q = p + 1 := ⟨q - 1, by omega⟩
  rw [behind_succ (by omega)]
  have := (rowB_iff _ _ _).1 hr p (by omega)
  omega
theorem row_drop {h : Hrd} (hr : rowB h.log h.baseTerm h.term = true) {q : Nat} (hq : q ≤ h.log.length) : rowB (h.log.drop q) (behind h.log h.baseTerm q) h.term = true := by
  have := (rowB_parts hr q).2
  rwa [behind_take _ _ _ hq] at this
theorem cut_hard {h : Hrd} (hh : hardB h = true) {q : Nat} {c : Conf} {s : List Int} (h1 : 1 ≤ q) (hq : q ≤ h.log.length) (hi : h.base + q ≤ 1099511627776) (hc : confB c = true) (hs : s.length ≤ 16384) : hardB (cutH h q c s) = true := by
  obtain ⟨hA, _, _, hr⟩ := hardB_A hh
  have hb := hA.b
  have ht := hA.t
  obtain ⟨b1, b2⟩ := row_behind hr h1 hq
  unfold hardB
  rw [dec_true (show HardA (cutH h q c s) from ⟨ht, hA.v, by show 0 ≤ h.base + q ∧ h.base + q ≤ _; omega, by show 0 ≤ behind h.log h.baseTerm q ∧ behind h.log h.baseTerm q ≤ h.term; omega, by show behind h.log h.baseTerm q = 0 ↔ h.base + q = 0; omega⟩)]
  rw [show confB (cutH h q c s).baseConf = true from hc, show rowB (cutH h q c s).log (cutH h q c s).baseTerm (cutH h q c s).term = true from row_drop hr hq]
  simp only [Bool.and_true, Bool.true_and, decide_eq_true_eq]
  exact ⟨hs, .inl (by show 0 < h.base + q; omega)⟩
theorem cut_lastI {h : Hrd} (hb : 0 ≤ h.base) (hs : h.base + h.log.length < 9223372036854775808) {q : Nat} (hq : q ≤ h.log.length) (c : Conf) (s : List Int) : lastI (cutH h q c s) = lastI h := by
  have e : (cutH h q c s).log.length = h.log.length - q := List.length_drop
  have e2 : (cutH h q c s).base = h.base + q := rfl
  rw [lastI_sum (h := cutH h q c s) (by rw [e2]; omega) (by rw [e2, e]; omega), lastI_sum hb hs, e, e2]; omega
theorem lastT_beh (h : Hrd) : lastT h = behind h.log h.baseTerm h.log.length := by
  unfold lastT behind
  rw [List.take_length]
  cases h.log.getLast? <;> rfl
theorem behind_drop (g : List Ent) (b : Int) (q m : Nat) (h : q + m ≤ g.length) : behind (g.drop q) (behind g b q) m = behind g b (q + m) := by
  cases m with
  | zero => rw [behind_0, Nat.add_zero]
  | succ m =>
    rw [behind_succ (by rw [List.length_drop]; omega), ← Nat.add_assoc, behind_succ (by omega), List.getElem_drop]
theorem cut_lastT {h : Hrd} {q : Nat} (hq : q ≤ h.log.length) (c : Conf) (s : List Int) : lastT (cutH h q c s) = lastT h := by
  rw [lastT_beh, lastT_beh]
  show behind (h.log.drop q) (behind h.log h.baseTerm q) (h.log.drop q).length = _
  rw [List.length_drop, behind_drop _ _ _ _ (by omega)]
  congr 1; omega
theorem cut_ent {h : Hrd} {q : Nat} {c : Conf} {s : List Int} {k : Int} (hk : h.base + q < k) : entAt (cutH h q c s) k = entAt h k := by
  rw [entAt_nat (h := h) (m := (k - h.base - 1).toNat) (by omega), entAt_nat (h := cutH h q c s) (m := (k - h.base - 1).toNat - q) (by show k = h.base + q + 1 + _; omega)]
  show (h.log.drop q)[_]? = _
  rw [List.getElem?_drop]
  congr 1; omega
theorem cut_term {h : Hrd} {q : Nat} (hq : q ≤ h.log.length) {c : Conf} {s : List Int} {k : Int} (hk : h.base + q ≤ k) : termAt (cutH h q c s) k = termAt h k := by
  by_cases e : k = h.base + q
  · rw [termAt_nat (h := h) (n := q) e hq, termAt_nat (h := cutH h q c s) (n := 0) (by show k = h.base + q + ((0 : Nat) : Int); omega) (Nat.zero_le _), behind_0]; rfl
  · unfold termAt
    rw [cut_ent (by omega), if_neg (by show ¬ k = h.base + q; exact e), if_neg (by omega)]
theorem cut_term_no {h : Hrd} {q : Nat} {c : Conf} {s : List Int} {k : Int} (hk : k < h.base + q) : termAt (cutH h q c s) k = -1 := by
  unfold termAt
  rw [if_neg (by show ¬ k = h.base + q; omega), entAt_none (by show ¬ (h.base + q < k ∧ _); omega)]
theorem cut_from {h : Hrd} {q : Nat} {c : Conf} {s : List Int} {m : Int} (hm : 0 ≤ m) : fromL (cutH h q c s) (h.base + q + 1) m = fromL h (h.base + q + 1) m := by
  rw [fromL_eq (by show h.base + q < _; omega) hm, fromL_eq (by omega) hm]
  show ((h.log.drop q).drop (h.base + q + 1 - (h.base + q) - 1).toNat).take m.toNat = _
  rw [List.drop_drop]
  congr 2; omega

/-! The configuration in force. -/
theorem idx_eq {h : Hrd} (hb : 0 ≤ h.base ∧ h.base ≤ 1099511627776) {k : Nat} (hk : k ≤ 4294967) : idx h k = h.base + k + 1 := by
  show IntKind.i64.wrap (IntKind.i64.wrap (h.base + k) + 1) = _
  rw [show IntKind.i64.wrap (h.base + (k : Int)) = h.base + k from wrap_id (by omega) (by omega), wrap_id (by omega) (by omega)]
theorem fwd_upto {h : Hrd} (hb : 0 ≤ h.base ∧ h.base ≤ 1099511627776) {u v : Int} : ∀ {i : Nat}, i ≤ 4294967 → h.base + i ≤ u → h.base + i ≤ v → fwd h u i = fwd h v i
  | 0, _, _, _ => rfl
  | i + 1, hi, h1, h2 => by
    unfold fwd
    rw [fwd_upto hb (u := u) (v := v) (by omega) (by omega) (by omega), idx_eq hb (by omega)]
    have a1 : h.base + (i : Int) + 1 ≤ u := by omega
    have a2 : h.base + (i : Int) + 1 ≤ v := by omega
    simp only [a1, a2, true_and]
theorem fwd_above {h : Hrd} (hb : 0 ≤ h.base ∧ h.base ≤ 1099511627776) {q : Nat} : ∀ {m : Nat}, q + m ≤ 4294967 → fwd h (h.base + q) (q + m) = fwd h (h.base + q) q
  | 0, _ => rfl
  | m + 1, hm => by
    rw [← Nat.add_assoc]
    conv => lhs; unfold fwd
    rw [fwd_above hb (by omega), idx_eq hb (by omega)]
    have a1 : ¬ (h.base + ((q + m : Nat) : Int) + 1 ≤ h.base + q) := by omega
    simp only [a1, false_and, if_false]
    cases h.log[q + m]? <;> rfl
theorem force_at {h : Hrd} (hb : 0 ≤ h.base ∧ h.base ≤ 1099511627776) (hl : h.log.length ≤ 4294967) {q : Nat} (hq : q ≤ h.log.length) {u : Int} (hu : h.base + q ≤ u) : force h (h.base + q) = fwd h u q := by
  unfold force
  obtain ⟨m, hm⟩ : ∃ m, h.log.length = q + m := ⟨h.log.length - q, by omega⟩
  rw [hm, fwd_above hb (by omega)]
  exact fwd_upto hb (by omega) (Int.le_refl _) hu
theorem fwd_cut {h : Hrd} (hb : 0 ≤ h.base) (hb2 : h.base + h.log.length ≤ 1099511627776 + 4294967) (hl : h.log.length ≤ 4294967) {q : Nat} (hq : h.base + q ≤ 1099511627776) {s : List Int} {u : Int} : ∀ {m : Nat}, q + m ≤ h.log.length → (fwd (cutH h q (fwd h u q).1 s) u m).1 = (fwd h u (q + m)).1
  | 0, _ => rfl
  | m + 1, hm => by
    have ih := fwd_cut (h := h) hb hb2 hl hq (s := s) (u := u) (m := m) (by omega)
    have e1 : idx (cutH h q (fwd h u q).1 s) m = h.base + ((q + m : Nat) : Int) + 1 := by
      rw [idx_eq (h := cutH h q (fwd h u q).1 s) (by show 0 ≤ h.base + q ∧ h.base + q ≤ _; omega) (by omega)]
      show h.base + q + (m : Int) + 1 = _
      omega
    have e2 : idx h (q + m) = h.base + ((q + m : Nat) : Int) + 1 := idx_eq (by omega) (by omega)
    have hx : (cutH h q (fwd h u q).1 s).log[m]? = h.log[q + m]? := List.getElem?_drop
    rw [← Nat.add_assoc]
    show (match (cutH h q (fwd h u q).1 s).log[m]? with
      | some x => if idx (cutH h q (fwd h u q).1 s) m ≤ u ∧ x.kind = 2 then (x.conf, idx (cutH h q (fwd h u q).1 s) m) else fwd (cutH h q (fwd h u q).1 s) u m
      | none => fwd (cutH h q (fwd h u q).1 s) u m).1 = (match h.log[q + m]? with
      | some x => if idx h (q + m) ≤ u ∧ x.kind = 2 then (x.conf, idx h (q + m)) else fwd h u (q + m)
      | none => fwd h u (q + m)).1
    rw [hx, e1, e2]
    cases h.log[q + m]? with
    | none => exact ih
    | some x =>
      by_cases hc : h.base + ((q + m : Nat) : Int) + 1 ≤ u ∧ x.kind = 2
      · simp only [if_pos hc]
      · simp only [if_neg hc]; exact ih
theorem fwd_conf {h : Hrd} (hc : confB h.baseConf = true) (hr : rowB h.log h.baseTerm h.term = true) (u : Int) : ∀ i : Nat, i ≤ h.log.length → confB (fwd h u i).1 = true
  | 0, _ => hc
  | i + 1, hi => by
    have ih := fwd_conf hc hr u i (by omega)
    have hx := ((rowB_iff _ _ _).1 hr i (by omega)).2.2
    unfold fwd
    rw [List.getElem?_eq_getElem (by omega)]
    by_cases hk : idx h i ≤ u ∧ (h.log[i]'(by omega)).kind = 2
    · simp only [if_pos hk]
      unfold entryB at hx
      rw [if_neg (by omega), if_neg (by omega), if_pos hk.2, Bool.and_eq_true] at hx
      exact hx.2
    · simp only [if_neg hk]; exact ih
end Go.Proofs
