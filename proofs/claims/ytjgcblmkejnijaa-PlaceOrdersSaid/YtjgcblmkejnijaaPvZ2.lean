/-
  Floats: a sum of greater ones is no less; what is written exactly; a quotient by one. Generic over the program.
-/
import Derived.Test.YtjgcblmkejnijaaPvZ1
set_option linter.unusedSimpArgs false
set_option linter.unusedVariables false
namespace Go.Pv
open Ieee

/-- To the nearest whole number of 2 ^ e, the even one between two. -/
def rnd (n e : Nat) : Nat := n / 2 ^ e + if 2 ^ e < 2 * (n % 2 ^ e) ∨ (2 ^ e = 2 * (n % 2 ^ e) ∧ n / 2 ^ e % 2 = 1) then 1 else 0
theorem rnd_lo (n e : Nat) : n / 2 ^ e ≤ rnd n e := Nat.le_add_right _ _
theorem rnd_hi (n e : Nat) : rnd n e ≤ n / 2 ^ e + 1 := by unfold rnd; split <;> omega
theorem rnd_mono {n m e : Nat} (h : n ≤ m) : rnd n e ≤ rnd m e := by
  have hq : n / 2 ^ e ≤ m / 2 ^ e := Nat.div_le_div_right h
  by_cases hlt : n / 2 ^ e < m / 2 ^ e
  · exact Nat.le_trans (rnd_hi n e) (Nat.le_trans hlt (rnd_lo m e))
  · have heq : n / 2 ^ e = m / 2 ^ e := by omega
    have h1 := Nat.div_add_mod n (2 ^ e)
    have h2 := Nat.div_add_mod m (2 ^ e)
    rw [heq] at h1
    generalize 2 ^ e * (m / 2 ^ e) = u at *
    have hr : n % 2 ^ e ≤ m % 2 ^ e := by omega
    unfold rnd
    rw [heq]
    generalize n % 2 ^ e = a at *
    generalize m % 2 ^ e = b at *
    generalize m / 2 ^ e = q at *
    generalize 2 ^ e = g at *
    by_cases c1 : g < 2 * a ∨ (g = 2 * a ∧ q % 2 = 1)
    · have c2 : g < 2 * b ∨ (g = 2 * b ∧ q % 2 = 1) := by
        rcases c1 with c | ⟨c, d⟩
        · exact .inl (by omega)
        · by_cases e2 : g = 2 * b
          · exact .inr ⟨e2, d⟩
          · exact .inl (by omega)
      rw [if_pos c1, if_pos c2]; exact Nat.le_refl _
    · rw [if_neg c1]; omega

theorem cut_rnd (neg : Bool) (n drop : Nat) (h : drop ≤ n.log2 + 2) : Toward.even.cut neg n drop = rnd n drop := by
  unfold Toward.cut rnd
  simp only [Nat.min_eq_left h, Nat.one_shiftLeft]
  congr 1
  by_cases c1 : 2 ^ drop < 2 * (n % 2 ^ drop)
  · rw [if_pos (.inl c1)]; simp [c1]
  · by_cases c2 : 2 ^ drop = 2 * (n % 2 ^ drop)
    · by_cases c3 : n / 2 ^ drop % 2 = 1
      · rw [if_pos (.inr ⟨c2, c3⟩), decide_eq_false c1, beq_iff_eq.2 c2, beq_iff_eq.2 c3]; rfl
      · rw [if_neg (by omega), decide_eq_false c1, (beq_eq_false_iff_ne).2 c3]; simp
    · rw [if_neg (by omega), decide_eq_false c1, (beq_eq_false_iff_ne).2 c2]; rfl

/-- The rung of n * 2 ^ -1074. -/
def exG (n : Nat) : Nat := n.log2 - 52
def rungR (n : Nat) : Nat := if n = 0 then 0 else min (exG n * 4503599627370496 + rnd n (exG n)) 9218868437227405312

theorem rnd_scale (n e p : Nat) : rnd (n * 2 ^ p) (e + p) = rnd n e := by
  have hp : 0 < 2 ^ p := Nat.pow_pos (by decide)
  unfold rnd
  have h1 : n * 2 ^ p / 2 ^ (e + p) = n / 2 ^ e := by rw [Nat.pow_add, Nat.mul_div_mul_right _ _ hp]
  have h2 : n * 2 ^ p % 2 ^ (e + p) = n % 2 ^ e * 2 ^ p := by rw [Nat.pow_add, Nat.mul_mod_mul_right]
  rw [h1, h2, Nat.pow_add]
  have k1 : 2 ^ e * 2 ^ p < 2 * (n % 2 ^ e * 2 ^ p) ↔ 2 ^ e < 2 * (n % 2 ^ e) := by
    rw [← Nat.mul_assoc]
    exact Nat.mul_lt_mul_right hp
  have k2 : 2 ^ e * 2 ^ p = 2 * (n % 2 ^ e * 2 ^ p) ↔ 2 ^ e = 2 * (n % 2 ^ e) := by
    rw [← Nat.mul_assoc]
    exact Nat.mul_left_inj (by omega)
  simp only [k1, k2]

theorem log2_mul_pow {m p : Nat} (hm : m ≠ 0) : (m * 2 ^ p).log2 = m.log2 + p := by
  have hp : 0 < 2 ^ p := Nat.pow_pos (by decide)
  have hM : m * 2 ^ p ≠ 0 := by have := Nat.mul_pos (Nat.pos_of_ne_zero hm) hp; omega
  have l1 : m.log2 + p ≤ (m * 2 ^ p).log2 := by
    rw [Nat.le_log2 hM, Nat.pow_add]
    exact Nat.mul_le_mul_right _ (Nat.log2_self_le hm)
  have l2 : (m * 2 ^ p).log2 < m.log2 + 1 + p := by
    rw [Nat.log2_lt hM, Nat.pow_add]
    exact Nat.mul_lt_mul_of_pos_right Nat.lt_log2_self hp
  omega

theorem nearest_rung (neg : Bool) (m p : Nat) : double.nearest neg m (-1074 + (p : Int)) = double.word neg (rungR (m * 2 ^ p)) := by
  have hp : 0 < 2 ^ p := Nat.pow_pos (by decide)
  unfold Format.nearest rungR
  by_cases h0 : m = 0
  · subst h0; rw [if_pos rfl, if_pos (by simp)]
  · have hM : m * 2 ^ p ≠ 0 := by have := Nat.mul_pos (Nat.pos_of_ne_zero h0) hp; omega
    rw [if_neg h0, if_neg hM]
    simp only [d_least, d_bin, d_inf, show double.fractionBits = 52 from rfl]
    unfold exG
    have hl := log2_mul_pow (p := p) h0
    generalize hg : (m * 2 ^ p).log2 = g at *
    have hlast : max ((-1074 : Int) + (p : Int) + (m.log2 : Int) - ((52 : Nat) : Int)) (-1074) = -1074 + ((g - 52 : Nat) : Int) := by omega
    rw [hlast]
    have t1 : ((-1074 : Int) + ((g - 52 : Nat) : Int) - -1074).toNat = g - 52 := by omega
    have t2 : ((-1074 : Int) + (p : Int) - (-1074 + ((g - 52 : Nat) : Int))).toNat = p - (g - 52) := by omega
    have t3 : ((-1074 : Int) + ((g - 52 : Nat) : Int) - (-1074 + (p : Int))).toNat = g - 52 - p := by omega
    rw [t1, t2, t3, show (2047 * 2 ^ 52 : Nat) = 9218868437227405312 by decide, show (2 : Nat) ^ 52 = 4503599627370496 by decide]
    have hc : Toward.even.cut neg (m <<< (p - (g - 52))) (g - 52 - p) = rnd (m * 2 ^ p) (g - 52) := by
      by_cases hpe : g - 52 ≤ p
      · obtain ⟨q, hq⟩ : ∃ q, p = q + (g - 52) := ⟨p - (g - 52), by omega⟩
        rw [show g - 52 - p = 0 by omega, cut_zero, Nat.shiftLeft_eq, show p - (g - 52) = q by omega]
        generalize g - 52 = e at *
        subst hq
        have := rnd_scale (m * 2 ^ q) 0 e
        rw [Nat.zero_add, Nat.mul_assoc, ← Nat.pow_add] at this
        rw [this]
        unfold rnd
        simp [Nat.mod_one]
      · obtain ⟨q, hq⟩ : ∃ q, g - 52 = q + p := ⟨g - 52 - p, by omega⟩
        rw [show p - (g - 52) = 0 by omega, Nat.shiftLeft_zero, cut_rnd _ _ _ (by omega), hq, rnd_scale, show q + p - p = q by omega]
    rw [hc]

theorem rungR_le (n : Nat) : rungR n ≤ 9218868437227405312 := by unfold rungR; split <;> omega
theorem rungR_mono {n m : Nat} (h : n ≤ m) : rungR n ≤ rungR m := by
  by_cases hn : n = 0
  · subst hn; unfold rungR; rw [if_pos rfl]; exact Nat.zero_le _
  · have hm : m ≠ 0 := by omega
    unfold rungR
    rw [if_neg hn, if_neg hm]
    have hlog : n.log2 ≤ m.log2 := by
      rw [Nat.le_log2 hm]
      exact Nat.le_trans (Nat.log2_self_le hn) h
    have key : exG n * 4503599627370496 + rnd n (exG n) ≤ exG m * 4503599627370496 + rnd m (exG m) := by
      by_cases he : exG n = exG m
      · rw [he]; have := rnd_mono (e := exG m) h; omega
      · have hlt : exG n < exG m := by unfold exG at *; omega
        have h1 : n < 2 ^ (53 + exG n) := by
          have := Nat.lt_log2_self (n := n)
          exact Nat.lt_of_lt_of_le this (two_le (by unfold exG; omega))
        have h2 : 2 ^ (52 + exG m) ≤ m := by
          refine Nat.le_trans (two_le ?_) (Nat.log2_self_le hm)
          unfold exG at *; omega
        have r1 : n / 2 ^ exG n < 9007199254740992 := by
          rw [Nat.div_lt_iff_lt_mul (two_pos _), show (9007199254740992 : Nat) = 2 ^ 53 by decide, ← Nat.pow_add]; exact h1
        have r2 : 4503599627370496 ≤ m / 2 ^ exG m := by
          rw [Nat.le_div_iff_mul_le (two_pos _), show (4503599627370496 : Nat) = 2 ^ 52 by decide, ← Nat.pow_add]; exact h2
        have r3 := rnd_hi n (exG n)
        have r4 := rnd_lo m (exG m)
        omega
    omega

/-- What a rung stands for, in units of 2 ^ -1074. -/
def rv (r : Nat) : Int := if r < 4503599627370496 then (r : Int) else if r < 9218868437227405312 then (((4503599627370496 + r % 4503599627370496) * 2 ^ (r / 4503599627370496 - 1) : Nat) : Int) else bigI
theorem rv_nonneg (r : Nat) : 0 ≤ rv r := by
  have := bigI_pos
  unfold rv; split
  · omega
  · split
    · exact Int.natCast_nonneg _
    · omega
theorem rv_zero : rv 0 = 0 := rfl
theorem rv_inf : rv 9218868437227405312 = bigI := by
  unfold rv
  rw [if_neg (by decide), if_neg (by decide)]
theorem rv_mono {r s : Nat} (h : r ≤ s) (hs : s ≤ 9218868437227405312) : rv r ≤ rv s := by
  unfold rv
  by_cases a1 : s < 4503599627370496
  · rw [if_pos a1, if_pos (by omega)]; omega
  · rw [if_neg a1]
    by_cases a2 : s < 9218868437227405312
    · rw [if_pos a2]
      by_cases b1 : r < 4503599627370496
      · rw [if_pos b1]
        have := two_pos (s / 4503599627370496 - 1)
        have h3 : 4503599627370496 * 1 ≤ (4503599627370496 + s % 4503599627370496) * 2 ^ (s / 4503599627370496 - 1) := Nat.mul_le_mul (by omega) this
        omega
      · rw [if_neg b1, if_pos (by omega)]
        refine Int.ofNat_le.2 ?_
        by_cases c : r / 4503599627370496 = s / 4503599627370496
        · rw [c]
          exact Nat.mul_le_mul_right _ (by omega)
        · have c2 : r / 4503599627370496 < s / 4503599627370496 := by
            have : r / 4503599627370496 ≤ s / 4503599627370496 := Nat.div_le_div_right h
            omega
          refine Nat.le_trans (Nat.mul_le_mul_right _ (show 4503599627370496 + r % 4503599627370496 ≤ 2 * 4503599627370496 by omega)) ?_
          refine Nat.le_trans ?_ (Nat.mul_le_mul_right _ (show 4503599627370496 ≤ 4503599627370496 + s % 4503599627370496 by omega))
          rw [Nat.mul_comm 2, Nat.mul_assoc, ← Nat.pow_succ']
          exact Nat.mul_le_mul_left _ (two_le (by omega))
    · rw [if_neg a2]
      by_cases b1 : r < 4503599627370496
      · rw [if_pos b1]
        have e : (2 : Nat) ^ 52 = 4503599627370496 := by decide
        have h52 : ((4503599627370496 : Nat) : Int) ≤ bigI := by
          have h2 : ∀ n, 52 ≤ n → (2 : Nat) ^ 52 ≤ 2 ^ n := fun n h => two_le h
          have h3 := h2 2100 (by decide)
          rw [e] at h3
          unfold bigI
          generalize (2 : Nat) ^ 2100 = v at *
          omega
        omega
      · rw [if_neg b1]
        by_cases b2 : r < 9218868437227405312
        · rw [if_pos b2]
          have key : ∀ m a e : Nat, m < 2 ^ 53 → 53 + a ≤ e → m * 2 ^ a < 2 ^ e := fun m a e h1 h2 => two_mul_lt h1 h2
          have h3 := key (4503599627370496 + r % 4503599627370496) (r / 4503599627370496 - 1) 2100 (by rw [show (2 : Nat) ^ 53 = 9007199254740992 by decide]; omega) (by omega)
          unfold bigI
          generalize (2 : Nat) ^ 2100 = v at *
          exact Int.ofNat_le.2 (Nat.le_of_lt h3)
        · rw [if_neg b2]; exact Int.le_refl _
def sgnI (neg : Bool) (x : Int) : Int := if neg then -x else x
theorem fv_word (neg : Bool) (r : Nat) (hr : r ≤ 9218868437227405312) : fv (double.word neg r) = sgnI neg (rv r) ∧ fnanB (double.word neg r) = false := by
  unfold fv fnanB rv sgnI
  rw [read_word neg r (by omega)]
  by_cases h1 : r < 4503599627370496
  · rw [if_pos h1, if_pos h1]
    refine ⟨?_, rfl⟩
    simp [dv, signed]
  · rw [if_neg h1, if_neg h1]
    by_cases h2 : r < 9218868437227405312
    · rw [if_pos h2, if_pos h2]
      refine ⟨?_, rfl⟩
      simp only [dv, signed]
      rw [show ((-1074 : Int) + ((r / 4503599627370496 - 1 : Nat) : Int) + 1074).toNat = r / 4503599627370496 - 1 by omega, Nat.shiftLeft_eq]
    · rw [if_neg h2, if_neg h2, if_pos (by omega)]
      exact ⟨rfl, rfl⟩

/-- What is written of a whole number of units. -/
def wrI (s : Int) : Int := if s < 0 then -(rv (rungR s.natAbs)) else rv (rungR s.natAbs)
theorem wrI_mono {s t : Int} (h : s ≤ t) : wrI s ≤ wrI t := by
  unfold wrI
  have p1 := rv_nonneg (rungR s.natAbs)
  have p2 := rv_nonneg (rungR t.natAbs)
  by_cases a : s < 0
  · rw [if_pos a]
    by_cases b : t < 0
    · rw [if_pos b]
      have := rv_mono (rungR_mono (show t.natAbs ≤ s.natAbs by omega)) (rungR_le _)
      omega
    · rw [if_neg b]; omega
  · rw [if_neg a, if_neg (by omega)]
    exact rv_mono (rungR_mono (show s.natAbs ≤ t.natAbs by omega)) (rungR_le _)
def finB (b : Nat) : Bool := match double.read b with
  | .number .. => true
  | _ => false
theorem fin_num {b : Nat} (h : finB b = true) : fnanB b = false := by
  unfold finB at h
  unfold fnanB
  split at h
  · rename_i e; rw [e]; rfl
  · cases h
/-- A sum of two numbers. -/
theorem add_fin {a b : Nat} (ha : finB a = true) (hb : finB b = true) : ∃ r, double.add a b = some r ∧ fnanB r = false ∧ fv r = wrI (fv a + fv b) := by
  have f1 := read_fin a
  have f2 := read_fin b
  unfold finB at ha hb
  unfold Format.add
  cases hda : double.read a with
  | nan s t => rw [hda] at ha; cases ha
  | infinity s => rw [hda] at ha; cases ha
  | number s m i =>
    cases hdb : double.read b with
    | nan s t => rw [hdb] at hb; cases hb
    | infinity s => rw [hdb] at hb; cases hb
    | number t n j =>
      rw [hda] at f1
      rw [hdb] at f2
      simp only [Fin1] at f1 f2
      refine ⟨_, rfl, ?_⟩
      have e1 : (i + 1074).toNat = (i - min i j).toNat + (min i j + 1074).toNat := by omega
      have e2 : (j + 1074).toNat = (j - min i j).toNat + (min i j + 1074).toNat := by omega
      have hs : fv a + fv b = (signed s m (i - min i j).toNat + signed t n (j - min i j).toNat) * ((2 ^ (min i j + 1074).toNat : Nat) : Int) := by
        unfold fv
        rw [hda, hdb]
        simp only [dv]
        rw [e1, e2, signed_add, signed_add, Int.add_mul]
      rw [hs]
      show fnanB (double.nearest _ _ _) = false ∧ fv (double.nearest _ _ _) = _
      generalize signed s m (i - min i j).toNat + signed t n (j - min i j).toNat = S
      obtain ⟨p, hp⟩ : ∃ p : Nat, min i j = -1074 + (p : Int) := ⟨(min i j + 1074).toNat, by omega⟩
      rw [hp, show ((-1074 : Int) + (p : Int) + 1074).toNat = p by omega, nearest_rung]
      obtain ⟨w1, w2⟩ := fv_word (if S = 0 then (s && t) else decide (S < 0)) (rungR (S.natAbs * 2 ^ p)) (rungR_le _)
      refine ⟨w2, w1.trans ?_⟩
      have hp0 : (0 : Int) < ((2 ^ p : Nat) : Int) := Int.ofNat_lt.2 (two_pos p)
      have habs : (S * ((2 ^ p : Nat) : Int)).natAbs = S.natAbs * 2 ^ p := by rw [Int.natAbs_mul]; rfl
      unfold wrI
      rw [habs]
      by_cases h0 : S = 0
      · subst h0
        rw [if_pos rfl, Int.zero_mul, if_neg (by decide)]
        simp only [Int.natAbs_zero, Nat.zero_mul]
        have : rungR 0 = 0 := rfl
        rw [this, rv_zero]
        unfold sgnI; split <;> rfl
      · rw [if_neg h0]
        by_cases hneg : S < 0
        · rw [decide_eq_true hneg, if_pos (Int.mul_neg_of_neg_of_pos hneg hp0)]; rfl
        · have : 0 ≤ S * ((2 ^ p : Nat) : Int) := Int.mul_nonneg (by omega) (by omega)
          rw [decide_eq_false hneg, if_neg (by omega)]; rfl

/-- What a number is written as that the format has. -/
theorem near_gen (neg : Bool) (m k : Nat) (i : Int) (hm : m < 9007199254740992) (hi : -1074 ≤ i) (hi2 : i ≤ 971) (hn : i = -1074 ∨ 4503599627370496 ≤ m) :
    fv (double.nearest neg (m * 2 ^ k) (i - k)) = sgnI neg (signed false m (i + 1074).toNat) ∧ fnanB (double.nearest neg (m * 2 ^ k) (i - k)) = false := by
  by_cases h0 : m = 0
  · subst h0
    have e : double.nearest neg (0 * 2 ^ k) (i - k) = double.word neg 0 := by unfold Format.nearest; rw [if_pos (by simp)]
    rw [e]
    obtain ⟨w1, w2⟩ := fv_word neg 0 (by decide)
    refine ⟨w1.trans ?_, w2⟩
    rw [rv_zero]
    unfold signed
    rw [if_neg (by decide), Nat.zero_shiftLeft]; rfl
  · have hp : 0 < 2 ^ k := two_pos k
    have hM : m * 2 ^ k ≠ 0 := by have := Nat.mul_pos (Nat.pos_of_ne_zero h0) hp; omega
    obtain ⟨p, hpi⟩ : ∃ p : Nat, i = -1074 + (p : Int) := ⟨(i + 1074).toNat, by omega⟩
    subst hpi
    have hl := log2_mul_pow (p := k) h0
    have hlm : p = m.log2 - 52 ∨ True := .inr trivial
    have hl53 : m.log2 < 53 := by rw [Nat.log2_lt h0]; exact hm
    have hl52 : 4503599627370496 ≤ m → 52 ≤ m.log2 := fun h => by
      rw [Nat.le_log2 h0]; exact h
    have hlast : max ((-1074 : Int) + (p : Int) - (k : Int) + ((m * 2 ^ k).log2 : Int) - ((52 : Nat) : Int)) (-1074) = -1074 + (p : Int) := by
      rw [hl]; omega
    have e : double.nearest neg (m * 2 ^ k) (-1074 + (p : Int) - k) = double.word neg (min (p * 4503599627370496 + m) 9218868437227405312) := by
      unfold Format.nearest
      rw [if_neg hM]
      simp only [d_least, d_bin, d_inf, show double.fractionBits = 52 from rfl]
      rw [hlast]
      have t1 : ((-1074 : Int) + (p : Int) - -1074).toNat = p := by omega
      have t2 : ((-1074 : Int) + (p : Int) - (k : Int) - (-1074 + (p : Int))).toNat = 0 := by omega
      have t3 : ((-1074 : Int) + (p : Int) - (-1074 + (p : Int) - (k : Int))).toNat = k := by omega
      rw [t1, t2, t3, Nat.shiftLeft_zero, cut_pow neg m k (by omega), show (2047 * 2 ^ 52 : Nat) = 9218868437227405312 by decide, show (2 : Nat) ^ 52 = 4503599627370496 by decide]
    rw [e, Nat.min_eq_left (by omega)]
    obtain ⟨w1, w2⟩ := fv_word neg (p * 4503599627370496 + m) (by omega)
    refine ⟨w1.trans (congrArg (sgnI neg) ?_), w2⟩
    unfold rv signed
    rw [show ((-1074 : Int) + (p : Int) + 1074).toNat = p by omega, Nat.shiftLeft_eq, if_neg (by decide : ¬ (false = true))]
    by_cases hb : m < 4503599627370496
    · have : p = 0 := by omega
      subst this
      rw [if_pos (by omega)]; simp
    · by_cases hp0 : p = 0
      · subst hp0
        rw [if_neg (by omega), if_pos (by omega)]
        rw [show 4503599627370496 + (0 * 4503599627370496 + m) % 4503599627370496 = m by omega, show (0 * 4503599627370496 + m) / 4503599627370496 - 1 = 0 by omega]
      · rw [if_neg (by omega), if_pos (by omega)]
        rw [show 4503599627370496 + (p * 4503599627370496 + m) % 4503599627370496 = m by omega, show (p * 4503599627370496 + m) / 4503599627370496 - 1 = p by omega]
def oneF : Nat := 4607182418800017408
theorem one_read : double.read oneF = .number false 4503599627370496 (-52) := by
  have := read_word false 4607182418800017408 (by decide)
  rw [if_neg (by decide), if_pos (by decide)] at this
  exact this
/-- A number, or an infinity, by one. -/
theorem div_one_f {b : Nat} (h : fnanB b = false) : ∃ r, double.div b oneF = some r ∧ fnanB r = false ∧ fv r = fv b := by
  have f2 := read_fin2 b
  unfold fnanB at h
  unfold Format.div
  rw [one_read]
  unfold fv
  cases hd : double.read b with
  | nan s t => rw [hd] at h; simp [Datum.isNaN] at h
  | infinity s =>
    refine ⟨double.word s 9218868437227405312, ?_, ?_⟩
    · simp only [Datum.quotient, Option.map_some, Bool.xor_false]
      unfold Format.write
      rw [d_inf, show (2047 * 2 ^ 52 : Nat) = 9218868437227405312 by decide]
    · obtain ⟨w1, w2⟩ := fv_word s 9218868437227405312 (by decide)
      refine ⟨w2, w1.trans ?_⟩
      rw [rv_inf]
      cases s <;> rfl
  | number s m i =>
    rw [hd] at f2
    simp only [Fin2] at f2
    obtain ⟨hn, h1, h2, h3⟩ := f2
    have hl1 : (4503599627370496 : Nat).log2 = 52 := by
      have a1 : 52 ≤ (4503599627370496 : Nat).log2 := by rw [Nat.le_log2 (by decide)]; decide
      have a2 : (4503599627370496 : Nat).log2 < 53 := by rw [Nat.log2_lt (by decide)]; decide
      omega
    have hlm : m.log2 ≤ 52 := by
      by_cases h0 : m = 0
      · subst h0; simp
      · have : m.log2 < 53 := by rw [Nat.log2_lt h0]; exact h3
        omega
    obtain ⟨u, hu⟩ : ∃ u : Nat, 52 + 2 + 52 - m.log2 = u + 52 := ⟨52 + 2 + 52 - m.log2 - 52, by omega⟩
    have hq : Datum.quotient (double.fractionBits + 2) (.number s m i) (.number false 4503599627370496 (-52)) = some (.number s (m * 2 ^ (u + 1)) (i - ((u + 1 : Nat) : Int))) := by
      simp only [Datum.quotient, show double.fractionBits = 52 from rfl, hl1]
      rw [if_neg (by decide), hu]
      have e1 : m <<< (u + 52) = m * 2 ^ u * 4503599627370496 := by
        rw [Nat.shiftLeft_eq, Nat.pow_add, Nat.mul_assoc, show (2 : Nat) ^ 52 = 4503599627370496 by decide]
      rw [e1, Nat.mul_div_cancel _ (by decide), Nat.mul_mod_left]
      simp only [Bool.xor_false, bne_self_eq_false, Bool.toNat_false, Nat.add_zero, Option.some.injEq, Datum.number.injEq, true_and]
      refine ⟨?_, by omega⟩
      rw [Nat.pow_succ]
      generalize 2 ^ u = v
      rw [Nat.mul_comm 2, Nat.mul_assoc]
    rw [hq]
    obtain ⟨w1, w2⟩ := near_gen s m (u + 1) i h3 h1 h2 (by omega)
    refine ⟨_, rfl, w2, w1.trans ?_⟩
    unfold dv sgnI signed
    cases s <;> rfl
/-- Nought, and a float. -/
theorem zero_add_f {b : Nat} (h : fnanB b = false) : ∃ r, double.add 0 b = some r ∧ fnanB r = false ∧ fv r = fv b := by
  have h0 : double.read 0 = .number false 0 (-1074) := by
    have := read_word false 0 (by decide)
    rw [if_pos (by decide)] at this
    exact this
  cases hd : double.read b with
  | nan s t => unfold fnanB at h; rw [hd] at h; simp [Datum.isNaN] at h
  | infinity s =>
    refine ⟨double.word s 9218868437227405312, ?_, ?_⟩
    · unfold Format.add
      rw [h0, hd]
      simp only [Datum.sum, Option.map_some]
      unfold Format.write
      rw [d_inf, show (2047 * 2 ^ 52 : Nat) = 9218868437227405312 by decide]
    · obtain ⟨w1, w2⟩ := fv_word s 9218868437227405312 (by decide)
      refine ⟨w2, w1.trans ?_⟩
      unfold fv
      rw [hd, rv_inf]
      cases s <;> rfl
  | number s m i =>
    have f2 := read_fin2 b
    rw [hd] at f2
    simp only [Fin2] at f2
    obtain ⟨hn, h1, h2, h3⟩ := f2
    have hb : finB b = true := by unfold finB; rw [hd]
    have hz : finB 0 = true := by unfold finB; rw [h0]
    obtain ⟨r, e1, e2, e3⟩ := add_fin hz hb
    obtain ⟨r2, g1, g2, g3⟩ := add_zero_f h
    obtain ⟨r3, k1, k2, k3⟩ := add_fin hb hz
    rw [g1] at k1
    injection k1 with k1
    subst k1
    refine ⟨r, e1, e2, ?_⟩
    rw [e3, Int.add_comm, ← k3, g3]
end Go.Pv
