/-
  Floats: each word that is no NaN has a whole number, by which floats are ordered. Generic over the program.
-/
import Derived.Test.YtjgcblmkejnijaaPvG
set_option linter.unusedSimpArgs false
set_option linter.unusedVariables false
namespace Go.Pv
open Ieee

def bigI : Int := ((2 ^ 2100 : Nat) : Int)
theorem two_pos (n : Nat) : 0 < 2 ^ n := Nat.pow_pos (by decide)
theorem two_le {m n : Nat} (h : m ≤ n) : 2 ^ m ≤ 2 ^ n := Nat.pow_le_pow_right (by decide) h
theorem two_mul_lt {m a e : Nat} (h : m < 2 ^ 53) (ha : 53 + a ≤ e) : m * 2 ^ a < 2 ^ e := by
  refine Nat.lt_of_lt_of_le (Nat.mul_lt_mul_of_pos_right h (two_pos a)) ?_
  rw [← Nat.pow_add]
  exact two_le ha
theorem bigI_pos : 0 < bigI := by
  have h := two_pos 2100
  unfold bigI
  generalize (2 ^ 2100 : Nat) = v at *
  omega
def dv : Datum → Int
  | .number s m i => signed s m (i + 1074).toNat
  | .infinity s => if s then -bigI else bigI
  | .nan .. => 0
def fv (b : Nat) : Int := dv (Ieee.double.read b)
def fnanB (b : Nat) : Bool := (Ieee.double.read b).isNaN
def Fin1 : Datum → Prop
  | .number _ m i => -1074 ≤ i ∧ i ≤ 971 ∧ m < 2 ^ 53
  | _ => True

theorem d_sign : double.signWeight = 2 ^ 63 := by decide
theorem d_bin : double.binade = 2 ^ 52 := by decide
theorem d_inf : double.infRung = 2047 * 2 ^ 52 := by decide
theorem d_least : double.leastPlace = -1074 := by decide
theorem read_fin (b : Nat) : Fin1 (Ieee.double.read b) := by
  unfold Format.read
  simp only [d_sign, d_bin, d_inf, d_least]
  split
  · simp only [Fin1]; omega
  · split
    · simp only [Fin1]; omega
    · split <;> simp [Fin1]

theorem signed_add (s : Bool) (m a e : Nat) : signed s m (a + e) = signed s m a * ((2 ^ e : Nat) : Int) := by
  have h : m <<< (a + e) = (m <<< a) * 2 ^ e := by rw [Nat.shiftLeft_eq, Nat.shiftLeft_eq, Nat.pow_add, Nat.mul_assoc]
  unfold signed
  rw [h]
  cases s
  · simp only [Bool.false_eq_true, if_false, Int.natCast_mul]
  · simp only [if_true, Int.natCast_mul, Int.neg_mul]
theorem cmp_def (x y : Int) : compare x y = if x < y then Ordering.lt else if x = y then .eq else .gt := rfl
theorem cmp_mul {x y c : Int} (hc : 0 < c) : compare (x * c) (y * c) = compare x y := by
  rw [cmp_def, cmp_def]
  rcases Int.lt_trichotomy x y with h | h | h
  · rw [if_pos h, if_pos (Int.mul_lt_mul_of_pos_right h hc)]
  · subst h; simp
  · have h2 := Int.mul_lt_mul_of_pos_right h hc
    rw [if_neg (by omega), if_neg (by omega), if_neg (by omega), if_neg (by omega)]
theorem toNat_2045 {i : Int} (h1 : -1074 ≤ i) (h2 : i ≤ 971) : 53 + (i + 1074).toNat ≤ 2100 := by omega
theorem dv_bound {s : Bool} {m : Nat} {i : Int} (h : Fin1 (.number s m i)) : -bigI < dv (.number s m i) ∧ dv (.number s m i) < bigI := by
  simp only [Fin1] at h
  obtain ⟨h1, h2, h3⟩ := h
  have hb := two_mul_lt h3 (toNat_2045 h1 h2)
  rw [← Nat.shiftLeft_eq] at hb
  show -bigI < signed s m (i + 1074).toNat ∧ signed s m (i + 1074).toNat < bigI
  unfold signed bigI
  generalize m <<< (i + 1074).toNat = u at *
  generalize (2 ^ 2100 : Nat) = v at *
  cases s with
  | false => rw [if_neg (by decide)]; omega
  | true => rw [if_pos rfl]; omega
theorem order_fv {a b : Nat} (ha : fnanB a = false) (hb : fnanB b = false) : double.order a b = some (compare (fv a) (fv b)) := by
  unfold fnanB at ha hb
  have f1 := read_fin a
  have f2 := read_fin b
  unfold Format.order fv
  generalize double.read a = d at *
  generalize double.read b = e at *
  have hp := bigI_pos
  cases d with
  | nan s t => simp [Datum.isNaN] at ha
  | infinity s =>
    cases e with
    | nan s t => simp [Datum.isNaN] at hb
    | infinity t =>
      cases s <;> cases t <;> simp only [Datum.order, dv, Option.some.injEq, if_true, Bool.false_eq_true, if_false, cmp_def]
      · rw [if_neg (by omega)]; (try rw [if_pos rfl]); rfl
      · rw [if_neg (by omega), if_neg (by omega)]; rfl
      · rw [if_pos (by omega)]; rfl
      · rw [if_neg (by omega)]; (try rw [if_pos rfl]); rfl
    | number t n j =>
      obtain ⟨g1, g2⟩ := dv_bound f2
      generalize hy : dv (.number t n j) = y at *
      cases s <;> simp only [Datum.order, dv, Option.some.injEq, if_true, Bool.false_eq_true, if_false, cmp_def]
      · rw [if_neg (by omega), if_neg (by omega)]
      · rw [if_pos (by omega)]
  | number s m i =>
    cases e with
    | nan s t => simp [Datum.isNaN] at hb
    | infinity t =>
      obtain ⟨g1, g2⟩ := dv_bound f1
      generalize hx : dv (.number s m i) = x at *
      cases t <;> simp only [Datum.order, dv, Option.some.injEq, if_true, Bool.false_eq_true, if_false, cmp_def]
      · rw [if_pos (by omega)]
      · rw [if_neg (by omega), if_neg (by omega)]
    | number t n j =>
      simp only [Fin1] at f1 f2
      have e1 : (i + 1074).toNat = (i - min i j).toNat + (min i j + 1074).toNat := by omega
      have e2 : (j + 1074).toNat = (j - min i j).toNat + (min i j + 1074).toNat := by omega
      simp only [Datum.order, dv]
      rw [e1, e2, signed_add, signed_add, cmp_mul]
      have : 0 < 2 ^ (min i j + 1074).toNat := Nat.pow_pos (by decide)
      omega
theorem order_nan {a b : Nat} (h : fnanB a = true ∨ fnanB b = true) : double.order a b = none := (nan_arith h).2.2.2.2
theorem ord_lt {a b : Nat} (ha : fnanB a = false) (hb : fnanB b = false) : (FloatKind.f64.format.order a b == some .lt) = decide (fv a < fv b) := by
  rw [show FloatKind.f64.format = double from rfl, order_fv ha hb, cmp_def]
  by_cases h : fv a < fv b
  · rw [if_pos h, decide_eq_true h]; rfl
  · rw [if_neg h, decide_eq_false h]; split <;> rfl
theorem ord_eq {a b : Nat} (ha : fnanB a = false) (hb : fnanB b = false) : (FloatKind.f64.format.order a b == some .eq) = decide (fv a = fv b) := by
  rw [show FloatKind.f64.format = double from rfl, order_fv ha hb, cmp_def]
  by_cases h : fv a < fv b
  · rw [if_pos h, decide_eq_false (by omega)]; rfl
  · rw [if_neg h]
    by_cases h2 : fv a = fv b
    · rw [if_pos h2, decide_eq_true h2]; rfl
    · rw [if_neg h2, decide_eq_false h2]; rfl
theorem ord_gt {a b : Nat} (ha : fnanB a = false) (hb : fnanB b = false) : (FloatKind.f64.format.order a b == some .gt) = decide (fv b < fv a) := by
  rw [show FloatKind.f64.format = double from rfl, order_fv ha hb, cmp_def]
  by_cases h : fv a < fv b
  · rw [if_pos h, decide_eq_false (by omega)]; rfl
  · rw [if_neg h]
    by_cases h2 : fv a = fv b
    · rw [if_pos h2, decide_eq_false (by omega)]; rfl
    · rw [if_neg h2, decide_eq_true (by omega)]; rfl
end Go.Pv
