/-
  Floats: nought added. Generic over the program.
-/
import Derived.Test.YtjgcblmkejnijaaPvZ
set_option linter.unusedSimpArgs false
set_option linter.unusedVariables false
namespace Go.Pv
open Ieee

def Fin2 : Datum → Prop
  | .number _ m i => (i = -1074 ∨ 4503599627370496 ≤ m) ∧ -1074 ≤ i ∧ i ≤ 971 ∧ m < 9007199254740992
  | _ => True
theorem read_fin2 (b : Nat) : Fin2 (Ieee.double.read b) := by
  unfold Format.read
  simp only [d_sign, d_bin, d_inf, d_least]
  split
  · exact ⟨.inl rfl, by omega, by omega, by omega⟩
  · split
    · exact ⟨.inr (by omega), by omega, by omega, by omega⟩
    · split <;> simp [Fin2]

theorem read_word (neg : Bool) (r : Nat) (hr : r < 9223372036854775808) : double.read (double.word neg r) = (if r < 4503599627370496 then .number neg r (-1074) else if r < 9218868437227405312 then .number neg (4503599627370496 + r % 4503599627370496) (-1074 + ((r / 4503599627370496 - 1 : Nat) : Int)) else if r = 9218868437227405312 then .infinity neg else .nan neg (r - 9218868437227405312)) := by
  have h1 : double.word neg r / 9223372036854775808 % 2 = if neg then 1 else 0 := by
    unfold Format.word
    rw [d_sign]
    cases neg
    · simp only [Bool.false_eq_true, if_false]; omega
    · simp only [if_true]; omega
  have h2 : double.word neg r % 9223372036854775808 = r := by
    unfold Format.word
    rw [d_sign]
    cases neg
    · simp only [Bool.false_eq_true, if_false]; omega
    · simp only [if_true]; omega
  unfold Format.read
  simp only [d_sign, d_bin, d_inf, d_least, show (2 : Nat) ^ 63 = 9223372036854775808 by decide, show (2 : Nat) ^ 52 = 4503599627370496 by decide, show (2047 * 4503599627370496 : Nat) = 9218868437227405312 by decide, h1, h2]
  cases neg <;> rfl

theorem cut_zero (neg : Bool) (n : Nat) : Toward.even.cut neg n 0 = n := by
  unfold Toward.cut
  simp [Nat.mod_one]
theorem cut_pow (neg : Bool) (m k : Nat) (hm : 0 < m) : Toward.even.cut neg (m * 2 ^ k) k = m := by
  have hp : 0 < 2 ^ k := Nat.pow_pos (by decide)
  have hlog : k ≤ (m * 2 ^ k).log2 := by
    rw [Nat.le_log2 (by have := Nat.mul_pos hm hp; omega)]
    exact Nat.le_mul_of_pos_left _ hm
  unfold Toward.cut
  simp only [Nat.min_eq_left (show k ≤ (m * 2 ^ k).log2 + 2 by omega), Nat.one_shiftLeft, Nat.mul_div_cancel m hp, Nat.mul_mod_left]
  have h2 : ¬ (2 ^ k < 2 * 0) := by omega
  have h3 : (2 ^ k == 2 * 0) = false := by rw [beq_eq_false_iff_ne]; omega
  simp [h3]

theorem near_exact (neg : Bool) (m k : Nat) (hm : m < 9007199254740992) (hk : k ≤ 2045) (hn : k = 0 ∨ 4503599627370496 ≤ m) :
    ∃ i, double.read (double.nearest neg (m * 2 ^ k) (-1074)) = .number neg m i ∧ i = -1074 + k := by
  by_cases h0 : m = 0
  · subst h0
    have hk0 : k = 0 := by omega
    subst hk0
    refine ⟨-1074, ?_, by omega⟩
    unfold Format.nearest
    rw [if_pos (by simp), read_word neg 0 (by decide), if_pos (by decide)]
  · have hp : 0 < 2 ^ k := Nat.pow_pos (by decide)
    have hM : m * 2 ^ k ≠ 0 := by have := Nat.mul_pos (Nat.pos_of_ne_zero h0) hp; omega
    unfold Format.nearest
    rw [if_neg hM]
    simp only [d_least, d_bin, d_inf, show double.fractionBits = 52 from rfl]
    by_cases hk0 : k = 0
    · subst hk0
      have hl : (m * 2 ^ 0).log2 < 53 := by
        rw [Nat.log2_lt hM, Nat.pow_zero, Nat.mul_one]
        exact hm
      have hlast : max ((-1074 : Int) + ((m * 2 ^ 0).log2 : Int) - ((52 : Nat) : Int)) (-1074) = -1074 := by omega
      rw [hlast]
      simp only [Int.sub_self, Int.toNat_zero, Nat.shiftLeft_zero, Nat.zero_mul, Nat.zero_add, cut_zero, Nat.pow_zero, Nat.mul_one]
      rw [Nat.min_eq_left (by omega), read_word neg m (by omega)]
      by_cases hb : m < 4503599627370496
      · rw [if_pos hb]; exact ⟨_, rfl, by omega⟩
      · rw [if_neg hb, if_pos (by omega)]
        refine ⟨-1074, ?_, by omega⟩
        rw [show 4503599627370496 + m % 4503599627370496 = m by omega, show m / 4503599627370496 - 1 = 0 by omega]
        rfl
    · have hmb : 4503599627370496 ≤ m := by omega
      have e52 : (4503599627370496 : Nat) = 2 ^ 52 := by decide
      have e53 : (9007199254740992 : Nat) = 2 ^ 53 := by decide
      have hl : (m * 2 ^ k).log2 = 52 + k := by
        have l1 : 52 + k ≤ (m * 2 ^ k).log2 := by
          rw [Nat.le_log2 hM, Nat.pow_add, ← e52]
          exact Nat.mul_le_mul_right _ hmb
        have l2 : (m * 2 ^ k).log2 < 53 + k := by
          rw [Nat.log2_lt hM, Nat.pow_add, ← e53]
          exact Nat.mul_lt_mul_of_pos_right hm hp
        omega
      have hlast : max ((-1074 : Int) + ((m * 2 ^ k).log2 : Int) - ((52 : Nat) : Int)) (-1074) = -1074 + k := by rw [hl]; omega
      rw [hlast]
      have t1 : ((-1074 : Int) - (-1074 + (k : Int))).toNat = 0 := by omega
      have t2 : ((-1074 : Int) + (k : Int) - -1074).toNat = k := by omega
      rw [t1, t2, Nat.shiftLeft_zero, cut_pow neg m k (by omega), show (2 : Nat) ^ 52 = 4503599627370496 by decide]
      rw [Nat.min_eq_left (by omega), read_word neg _ (by omega), if_neg (by omega), if_pos (by omega)]
      refine ⟨-1074 + k, ?_, rfl⟩
      rw [show 4503599627370496 + (k * 4503599627370496 + m) % 4503599627370496 = m by omega, show (k * 4503599627370496 + m) / 4503599627370496 - 1 = k by omega]

theorem add_zero_f {b : Nat} (h : fnanB b = false) : ∃ r, double.add b 0 = some r ∧ fnanB r = false ∧ fv r = fv b := by
  have f2 := read_fin2 b
  unfold fnanB at h
  have e0 : double.read 0 = .number false 0 (-1074) := by
    have := read_word false 0 (by decide)
    rw [if_pos (by decide)] at this
    exact this
  unfold Format.add fv fnanB
  rw [e0]
  cases hd : double.read b with
  | nan s t => rw [hd] at h; simp [Datum.isNaN] at h
  | infinity s =>
    refine ⟨double.word s double.infRung, rfl, ?_⟩
    rw [d_inf, show (2047 * 2 ^ 52 : Nat) = 9218868437227405312 by decide, read_word s _ (by decide), if_neg (by decide), if_neg (by decide), if_pos rfl]
    exact ⟨rfl, rfl⟩
  | number s m i =>
    rw [hd] at f2
    simp only [Fin2] at f2
    obtain ⟨hn, h1, h2, h3⟩ := f2
    obtain ⟨k, hk⟩ : ∃ k : Nat, i = -1074 + k := ⟨(i + 1074).toNat, by omega⟩
    subst hk
    have hmin : min (-1074 + (k : Int)) (-1074) = -1074 := by omega
    have tk : ((-1074 : Int) + (k : Int) - -1074).toNat = k := by omega
    have hsum : Datum.sum (.number s m (-1074 + (k : Int))) (.number false 0 (-1074)) = some (.number (if signed s m k = 0 then false else decide (signed s m k < 0)) (signed s m k).natAbs (-1074)) := by
      simp only [Datum.sum, hmin, tk, Int.sub_self, Int.toNat_zero]
      have : signed false 0 0 = 0 := rfl
      rw [this, Int.add_zero, Bool.and_false]
    have habs : (signed s m k).natAbs = m * 2 ^ k := by
      unfold signed
      rw [Nat.shiftLeft_eq]
      cases s
      · rw [if_neg (by decide)]; exact Int.natAbs_natCast _
      · rw [if_pos rfl, Int.natAbs_neg]; exact Int.natAbs_natCast _
    refine ⟨_, by rw [hsum]; rfl, ?_⟩
    show (Datum.isNaN (double.read (double.nearest _ (signed s m k).natAbs (-1074)))) = false ∧ dv (double.read (double.nearest _ (signed s m k).natAbs (-1074))) = dv (.number s m (-1074 + (k : Int)))
    rw [habs]
    obtain ⟨j, e1, e2⟩ := near_exact (if signed s m k = 0 then false else decide (signed s m k < 0)) m k h3 (by omega) (by omega)
    rw [e1]
    refine ⟨rfl, ?_⟩
    have tk2 : ((-1074 : Int) + (k : Int) + 1074).toNat = k := by omega
    subst e2
    simp only [dv, tk2]
    by_cases hz : signed s m k = 0
    · rw [if_pos hz, hz]
      have hm0 : m * 2 ^ k = 0 := by rw [← habs, hz]; rfl
      unfold signed
      rw [Nat.shiftLeft_eq, hm0]; simp
    · rw [if_neg hz]
      have hp : m * 2 ^ k ≠ 0 := fun e => hz (by
        unfold signed; rw [Nat.shiftLeft_eq, e]; simp)
      cases s with
      | false =>
        have : ¬ signed false m k < 0 := by
          unfold signed; rw [if_neg (by decide)]; exact Int.not_lt.2 (Int.natCast_nonneg _)
        rw [decide_eq_false this]
      | true =>
        have : signed true m k < 0 := by
          unfold signed; rw [if_pos rfl, Nat.shiftLeft_eq]
          have : (0 : Int) < ((m * 2 ^ k : Nat) : Int) := by omega
          omega
        rw [decide_eq_true this]
end Go.Pv
