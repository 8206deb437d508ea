/- Bits of numbers: plain arithmetic, no program in sight. -/
import Derived.Test.YtnphfgphajejaaaC1
namespace Go.Proofs
open Go.Pv
set_option maxRecDepth 100000

abbrev w64 (n : Int) : Int := IntKind.i64.wrap n
noncomputable abbrev bandn (a b : Int) : Int := iandn .i64 a b
abbrev shl (a b : Int) : Int := ishl .i64 a b

/-- Bit i, as two's complement has it. -/
def tb (a : Int) (i : Nat) : Bool := (BitVec.ofInt 64 a).getLsbD i

theorem wrap64 (n : Int) : IntKind.i64.wrap n = if n % 18446744073709551616 < 9223372036854775808 then n % 18446744073709551616 else n % 18446744073709551616 - 18446744073709551616 := by
  simp only [IntKind.wrap, IntKind.signed, IntKind.bits]
  simp
  split <;> split <;> omega
theorem isI_wrap (n : Int) : isI (IntKind.i64.wrap n) := by
  rw [wrap64]; unfold isI; split <;> omega

theorem ofInt_wrap (x : BitVec 64) : BitVec.ofInt 64 (IntKind.i64.wrap (x.toNat : Int)) = x := by
  have h : IntKind.i64.wrap (x.toNat : Int) = x.toInt := by
    rw [BitVec.toInt_eq_toNat_bmod]
    rw [wrap64]
    have := x.isLt
    simp only [Int.bmod]
    split <;> split <;> omega
  rw [h, BitVec.ofInt_toInt]

theorem tb_and (a b : Int) (i : Nat) : tb (band a b) i = (tb a i && tb b i) := by
  unfold tb
  rw [band, iand_eq]
  rw [show IntKind.i64.bits = 64 from rfl, ofInt_wrap]
  simp
theorem tb_or (a b : Int) (i : Nat) : tb (bor a b) i = (tb a i || tb b i) := by
  unfold tb
  rw [bor, ior_eq]
  rw [show IntKind.i64.bits = 64 from rfl, ofInt_wrap]
  simp
theorem tb_andn (a b : Int) (i : Nat) (h : i < 64) : tb (bandn a b) i = (tb a i && !tb b i) := by
  unfold tb
  rw [bandn, iandn_eq]
  rw [show IntKind.i64.bits = 64 from rfl, ofInt_wrap]
  simp [h]

noncomputable abbrev bxor (a b : Int) : Int := ixor .i64 a b
theorem tb_xor (a b : Int) (i : Nat) : tb (bxor a b) i = (tb a i ^^ tb b i) := by
  unfold tb
  rw [bxor, ixor_eq]
  rw [show IntKind.i64.bits = 64 from rfl, ofInt_wrap]
  simp

/-- Of numbers that are not negative, the bits are those of the number. -/
theorem tb_nat (n i : Nat) (h : n < 2 ^ 64) : tb (n : Int) i = n.testBit i := by
  unfold tb
  rw [show (BitVec.ofInt 64 (n : Int)) = BitVec.ofNat 64 n from by simp]
  simp only [BitVec.getLsbD_ofNat]
  by_cases hi : i < 64
  · simp [hi]
  · simp only [hi, decide_false, Bool.false_and]
    symm
    apply Nat.testBit_lt_two_pow
    exact Nat.lt_of_lt_of_le h (Nat.pow_le_pow_right (by omega) (by omega))

theorem tb_eq (a : Int) (i : Nat) (hi : i < 64) : tb a i = decide (a / 2 ^ i % 2 = 1) := by
  unfold tb
  rw [BitVec.getLsbD, BitVec.toNat_ofInt, Nat.testBit_eq_decide_div_mod_eq]
  have h0 : 0 ≤ a % 2 ^ 64 := Int.emod_nonneg _ (by decide)
  have e1 : (((a % ((2 ^ 64 : Nat) : Int)).toNat / 2 ^ i % 2 : Nat) : Int) = (a % 2 ^ 64) / 2 ^ i % 2 := by
    rw [Int.natCast_emod, Int.natCast_ediv, Int.toNat_of_nonneg (by exact h0), Int.natCast_pow]
    rfl
  have e2 : (a % 2 ^ 64) / 2 ^ i % 2 = a / 2 ^ i % 2 := by
    obtain ⟨k, hk⟩ : ∃ k, 64 = i + 1 + k := ⟨63 - i, by omega⟩
    have hp : (2 : Int) ^ 64 = 2 ^ i * (2 * 2 ^ k) := by rw [hk, Int.pow_add, Int.pow_add]; simp [Int.mul_assoc]
    have hpos : (0 : Int) < 2 ^ i := Int.pow_pos (by decide)
    have hd : a % 2 ^ 64 = a - 2 ^ i * (2 * 2 ^ k * (a / 2 ^ 64)) := by
      rw [Int.emod_def, hp]
      simp [Int.mul_assoc]
    rw [hd, show a - 2 ^ i * (2 * 2 ^ k * (a / 2 ^ 64)) = a + 2 ^ i * (-(2 * 2 ^ k * (a / 2 ^ 64))) by simp [Int.mul_neg, Int.sub_eq_add_neg], Int.add_mul_ediv_left _ _ (by omega)]
    rw [show (2 : Int) * 2 ^ k * (a / 2 ^ 64) = 2 * (2 ^ k * (a / 2 ^ 64)) by simp [Int.mul_assoc]]
    omega
  have e3 := e1.trans e2
  generalize (a % ((2 ^ 64 : Nat) : Int)).toNat / 2 ^ i % 2 = m at e3
  rw [← e3]
  by_cases hx : m = 1
  · subst hx; rfl
  · rw [decide_eq_false hx, decide_eq_false (by omega)]

def nb (b : Bool) : Int := if b then 1 else 0
theorem nb_cases (b : Bool) : nb b = 0 ∨ nb b = 1 := by cases b <;> simp [nb]
@[simp] theorem nb_true : nb true = 1 := rfl
@[simp] theorem nb_false : nb false = 0 := rfl

theorem band_one (a : Int) : band a 1 = nb (tb a 0) := by
  have h := tb_eq a 0 (by decide)
  rw [band, iand_eq]
  have e : (BitVec.ofInt 64 a &&& BitVec.ofInt 64 1) = if tb a 0 then 1#64 else 0#64 := by
    apply BitVec.eq_of_getLsbD_eq
    intro i hi
    simp only [BitVec.getLsbD_and]
    have h1 : (BitVec.ofInt 64 1).getLsbD i = decide (i = 0) := by
      rw [show BitVec.ofInt 64 1 = 1#64 from by decide]; simp [BitVec.getLsbD_one]
    rw [h1]
    by_cases h0 : i = 0
    · subst h0
      show (tb a 0 && true) = _
      cases tb a 0 <;> simp
    · cases tb a 0 <;> simp [h0]
  rw [show IntKind.i64.bits = 64 from rfl, e]
  cases tb a 0 <;> rfl

theorem bit_shr (a : Int) (i : Nat) (hi : i < 64) : band (shr a i) 1 = nb (tb a i) := by
  rw [band_one]
  congr 1
  unfold shr ishr
  rw [tb_eq _ 0 (by decide), tb_eq a i hi]
  rw [show IntKind.i64.bits = 64 from rfl, show min ((i : Int)).toNat 64 = i by omega]
  rw [Int.fdiv_eq_ediv_of_nonneg _ (Int.pow_nonneg (by decide))]
  simp

theorem shl_one (i : Nat) (hi : i < 63) : shl 1 i = ((2 ^ i : Nat) : Int) := by
  unfold shl ishl
  rw [show IntKind.i64.bits = 64 from rfl, show min ((i : Int)).toNat 64 = i by omega]
  have h : (2 : Nat) ^ i < 2 ^ 63 := Nat.pow_lt_pow_right (by decide) hi
  have e : (1 : Int) * 2 ^ i = ((2 ^ i : Nat) : Int) := by simp
  rw [e]
  generalize (2 : Nat) ^ i = m at h
  exact wrap_id (by omega) (by omega)

theorem tb_shl (i j : Nat) (hi : i < 63) : tb (shl 1 i) j = decide (i = j) := by
  rw [shl_one i hi, tb_nat _ _ (Nat.pow_lt_pow_right (by decide) (by omega)), Nat.testBit_two_pow]

theorem tb_zero (i : Nat) : tb 0 i = false := by simp [tb]

/-- Numbers of seven bits. -/
def Bits7 (a : Int) : Prop := 0 ≤ a ∧ a ≤ 127
theorem tb_high {a : Int} (h : Bits7 a) {i : Nat} (hi : 7 ≤ i) : tb a i = false := by
  obtain ⟨n, rfl⟩ := Int.eq_ofNat_of_zero_le h.1
  have hn : n < 2 ^ 7 := by have := h.2; omega
  rw [tb_nat _ _ (Nat.lt_trans hn (by decide))]
  exact Nat.testBit_lt_two_pow (Nat.lt_of_lt_of_le hn (Nat.pow_le_pow_right (by decide) hi))
theorem ext64 {a b : Int} (ha : isI a) (hb : isI b) (h : ∀ i, i < 64 → tb a i = tb b i) : a = b := by
  have e : BitVec.ofInt 64 a = BitVec.ofInt 64 b := BitVec.eq_of_getLsbD_eq fun i hi => h i hi
  have := congrArg BitVec.toInt e
  unfold isI at ha hb
  rw [BitVec.toInt_ofInt, BitVec.toInt_ofInt] at this
  simp only [Int.bmod] at this
  split at this <;> split at this <;> omega
theorem isI_band (a b : Int) : isI (band a b) := by
  rw [band, iand_eq]
  exact isI_wrap _
theorem isI_bor (a b : Int) : isI (bor a b) := by
  rw [bor, ior_eq]
  exact isI_wrap _
theorem isI_bandn (a b : Int) : isI (bandn a b) := by
  rw [bandn, iandn_eq]
  exact isI_wrap _
theorem Bits7.isI {a : Int} (h : Bits7 a) : isI a := by unfold Proofs.isI; unfold Bits7 at h; omega
theorem bits7_of {a : Int} (ha : isI a) (h : ∀ i, 7 ≤ i → i < 64 → tb a i = false) : Bits7 a := by
  have e : BitVec.ofInt 64 a &&& 127#64 = BitVec.ofInt 64 a := by
    apply BitVec.eq_of_getLsbD_eq
    intro i hi
    simp only [BitVec.getLsbD_and]
    by_cases h7 : i < 7
    · have : (127#64).getLsbD i = true := by
        rcases i with _ | _ | _ | _ | _ | _ | _ | i <;> first | rfl | omega
      simp [this]
    · have := h i (by omega) hi
      unfold tb at this
      simp [this]
  have h2 := congrArg BitVec.toNat e
  rw [BitVec.toNat_and, BitVec.toNat_ofInt] at h2
  have h3 : (a % ((2 ^ 64 : Nat) : Int)).toNat ≤ 127 := by
    rw [← h2]; exact Nat.and_le_right
  unfold isI at ha
  unfold Bits7
  omega
theorem ext7 {a b : Int} (ha : Bits7 a) (hb : Bits7 b) (h : ∀ i, i < 7 → tb a i = tb b i) : a = b :=
  ext64 ha.isI hb.isI fun i _ => if h7 : i < 7 then h i h7 else by rw [tb_high ha (by omega), tb_high hb (by omega)]
theorem ext0 {a : Int} (ha : isI a) (h : ∀ i, i < 64 → tb a i = false) : a = 0 := ext64 ha (by unfold isI; omega) fun i hi => by rw [h i hi, tb_zero]
theorem eq0_iff {a : Int} (ha : isI a) : a = 0 ↔ ∀ i, i < 64 → tb a i = false := ⟨fun h => by subst h; exact fun i _ => tb_zero i, ext0 ha⟩
theorem bits7_and {a b : Int} (ha : Bits7 a) : Bits7 (band a b) := bits7_of (isI_band _ _) fun i h7 _ => by rw [tb_and, tb_high ha h7]; rfl
theorem bits7_and' {a b : Int} (ha : Bits7 b) : Bits7 (band a b) := bits7_of (isI_band _ _) fun i h7 _ => by rw [tb_and, tb_high ha h7]; simp
theorem bits7_or {a b : Int} (ha : Bits7 a) (hb : Bits7 b) : Bits7 (bor a b) := bits7_of (isI_bor _ _) fun i h7 _ => by rw [tb_or, tb_high ha h7, tb_high hb h7]; rfl
theorem bits7_andn {a b : Int} (ha : Bits7 a) : Bits7 (bandn a b) := bits7_of (isI_bandn _ _) fun i h7 h => by rw [tb_andn _ _ _ h, tb_high ha h7]; rfl
theorem tb_127 (i : Nat) : tb 127 i = decide (i < 7) := by
  by_cases h : i < 7
  · rcases i with _ | _ | _ | _ | _ | _ | _ | i <;> first | rfl | omega
  · rw [tb_high (by unfold Bits7; omega) (by omega)]; simp [h]
theorem tb_not (a : Int) (i : Nat) (h : i < 64) : tb (-1 - a) i = !tb a i := by
  rw [tb_eq _ _ h, tb_eq _ _ h]
  have hpos : (0 : Int) < 2 ^ i := Int.pow_pos (by decide)
  have e : (-1 - a) / 2 ^ i = -1 - a / 2 ^ i := by
    have h1 := Int.emod_add_mul_ediv a (2 ^ i)
    have h2 := Int.emod_nonneg a (by omega : (2 : Int) ^ i ≠ 0)
    have h3 := Int.emod_lt_of_pos a hpos
    rw [show -1 - a = (2 ^ i - 1 - a % 2 ^ i) + 2 ^ i * (-1 - a / 2 ^ i) by
      rw [Int.mul_sub, Int.mul_neg]; omega, Int.add_mul_ediv_left _ _ (by omega), Int.ediv_eq_zero_of_lt (by omega) (by omega)]
    omega
  rw [e]
  by_cases hx : a / 2 ^ i % 2 = 1
  · simp [hx]; omega
  · simp [hx]; omega

end Go.Proofs
