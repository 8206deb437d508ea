import Derived.Test.YtbhfokahocgndaaGreatA1
import Derived.Test.YtbhfokahocgndaaGreatPvU
import Derived.Test.YtbhfokahocgndaaGreatPvN
/- Contracts of functions: configurations, delays. -/
set_option linter.unusedSimpArgs false
set_option linter.unusedVariables false
namespace Go.Proofs
open Go.Pv
set_option maxRecDepth 100000

noncomputable abbrev band (a b : Int) : Int := iand .i64 a b
noncomputable abbrev bor (a b : Int) : Int := ior .i64 a b
abbrev shr (a b : Int) : Int := ishr .i64 a b

noncomputable def bitB (b i : Int) : Bool := decide (0 ≤ i) && decide (i < 7) && (band (shr b i) 1 == 1)

theorem c_bit (b i : Int) : Ctr Tryz.prog 111 [iv b, iv i] (bv (bitB b i)) [] := by
  refine spec_of_body mixed Tryz.func111 rfl (by kernel_rfl) (by kernel_rfl) ?_
  conv => whnf
  repeat' (first
    | (refine split_dec (fun h => ?_) (fun h => ?_) <;> conv => whnf)
    | (refine And.intro (And.intro (by first | decide | omega) (by first | decide | omega)) ?_; conv => whnf))
  all_goals (refine exit_plain rfl ?_; simp [bitB, *]; try rfl)

def withinB (n lo hi : Int) : Bool := decide (lo ≤ n) && decide (n ≤ hi)

theorem c_within (n lo hi : Int) : Ctr Tryz.prog 65 [iv n, iv lo, iv hi] (bv (withinB n lo hi)) [] := by
  refine spec_of_body mixed Tryz.func65 rfl (by kernel_rfl) (by kernel_rfl) ?_
  conv => whnf
  repeat' (first
    | (refine split_dec (fun h => ?_) (fun h => ?_) <;> conv => whnf))
  all_goals (refine exit_plain rfl ?_; simp [withinB, *])

theorem c_Node (i : Int) : Ctr Tryz.prog 24 [iv i] (bv (withinB i 0 6)) [] := by
  refine spec_of_body mixed Tryz.func24 rfl (by kernel_rfl) (by kernel_rfl) ?_
  conv => whnf
  refine Exists.intro none ?_; (conv => whnf); refine call_by (c_within _ _ _) ?_
  conv => whnf
  exact exit_plain rfl rfl

theorem c_Bits (i : Int) : Ctr Tryz.prog 36 [iv i] (bv (withinB i 0 127)) [] := by
  refine spec_of_body mixed Tryz.func36 rfl (by kernel_rfl) (by kernel_rfl) ?_
  conv => whnf
  refine Exists.intro none ?_; (conv => whnf); refine call_by (c_within _ _ _) ?_
  conv => whnf
  exact exit_plain rfl rfl

/-- 'b >> uint(i) & 1 == 1' -/
noncomputable def hasB (b i : Int) : Bool := band (shr b (IntKind.u64.wrap i)) 1 == 1

noncomputable def delay (c : Conf) (i : Int) : Int := if bitB c.full i then IntKind.i64.wrap (6 + IntKind.i64.wrap (2 * i)) else if bitB c.wit i then IntKind.i64.wrap (6 + IntKind.i64.wrap (2 * IntKind.i64.wrap (7 + i))) else 0

theorem c_Delay (c : Conf) (i : Int) : Ctr Tryz.prog 72 [.ag c.enc, iv i] (iv (delay c i)) [] := by
  refine spec_of_body mixed Tryz.func72 rfl (by kernel_rfl) (by kernel_rfl) ?_
  conv => whnf
  repeat' (first
    | (refine Exists.intro none ?_; (conv => whnf); refine call_by (c_bit _ _) ?_; conv => whnf)
    | (refine split_intro (fun h => ?_) (fun h => ?_) <;> conv => whnf))
  all_goals (refine exit_plain rfl ?_; simp [delay, *])

noncomputable def confB (c : Conf) : Bool :=
  withinB c.full 0 127 && (withinB c.wit 0 127 && (withinB c.learn 0 127 && (withinB c.lwit 0 127 && (c.full != 0 && (band c.full c.wit == 0 && (band (bor c.full c.wit) c.learn == 0 && band (bor (bor c.full c.wit) c.learn) c.lwit == 0))))))

set_option maxHeartbeats 1000000 in
theorem c_rConf (c : Conf) : Ctr Tryz.prog 23 [.ag c.enc] (bv (confB c)) [] := by
  refine spec_of_body mixed Tryz.func23 rfl (by kernel_rfl) (by kernel_rfl) ?_
  conv => whnf
  repeat' (first
    | (refine Exists.intro none ?_; (conv => whnf); refine call_by (c_Bits _) ?_; conv => whnf)
    | (refine split_beq (fun h => ?_) (fun h => ?_) <;> conv => whnf)
    | (refine split_bne (fun h => ?_) (fun h => ?_) <;> conv => whnf)
    | (refine split_intro (fun h => ?_) (fun h => ?_) <;> conv => whnf))
  all_goals (refine exit_plain rfl ?_; simp [confB, *])

def sE : ByteArray := ⟨#[]⟩
def sFull : ByteArray := ⟨#[102, 117, 108, 108]⟩
def sWit : ByteArray := ⟨#[119, 105, 116]⟩
def sLearn : ByteArray := ⟨#[108, 101, 97, 114, 110]⟩
def sLwit : ByteArray := ⟨#[108, 101, 97, 114, 110, 119, 105, 116]⟩

noncomputable def kind (c : Conf) (i : Int) : ByteArray :=
  if withinB i 0 6 then (if hasB c.full i then sFull else if hasB c.wit i then sWit else if hasB c.learn i then sLearn else if hasB c.lwit i then sLwit else sE) else sE

theorem wrap_id {n : Int} (h1 : -9223372036854775808 ≤ n) (h2 : n < 9223372036854775808) : IntKind.i64.wrap n = n := by
  simp [IntKind.wrap, IntKind.signed, IntKind.bits]; omega

theorem wrapu_id {n : Int} (h1 : 0 ≤ n) (h2 : n < 18446744073709551616) : IntKind.u64.wrap n = n := by
  simp [IntKind.wrap, IntKind.signed, IntKind.bits]; omega

theorem bitB_range {b i : Int} (h : bitB b i = true) : 0 ≤ i ∧ i < 7 := by
  simp [bitB] at h; exact ⟨h.1.1, h.1.2⟩

theorem hasB_eq {b i : Int} (h : withinB i 0 6 = true) : hasB b i = bitB b i := by
  simp [withinB] at h
  simp [hasB, bitB, wrapu_id (n := i) (by omega) (by omega)]
  intro _; omega

theorem delay_eq (c : Conf) (i : Int) : delay c i = if bitB c.full i then 6 + 2 * i else if bitB c.wit i then 20 + 2 * i else 0 := by
  unfold delay
  split
  · rename_i h; have := bitB_range h
    rw [wrap_id (n := 2 * i) (by omega) (by omega), wrap_id (by omega) (by omega)]
  · split
    · rename_i h; have := bitB_range h
      rw [wrap_id (n := 7 + i) (by omega) (by omega), wrap_id (n := 2 * (7 + i)) (by omega) (by omega), wrap_id (by omega) (by omega)]; omega
    · rfl

end Go.Proofs

/- Bits of numbers: plain arithmetic, no program in sight. -/
namespace Go.Proofs
open Go.Pv
set_option maxRecDepth 100000

abbrev w64 (n : Int) : Int := IntKind.i64.wrap n
noncomputable abbrev bandn (a b : Int) : Int := iandn .i64 a b
abbrev shl (a b : Int) : Int := ishl .i64 a b

/-- Bit i, as two's complement has it. -/
def tb (a : Int) (i : Nat) : Bool := (BitVec.ofInt 64 a).getLsbD i

theorem wrap64 (n : Int) : IntKind.i64.wrap n = if n % 18446744073709551616 < 9223372036854775808 then n % 18446744073709551616 else n % 18446744073709551616 - 18446744073709551616 := by
  simp only [IntKind.wrap, IntKind.signed, IntKind.bits]
  simp
  split <;> split <;> omega
theorem isI_wrap (n : Int) : isI (IntKind.i64.wrap n) := by
  rw [wrap64]; unfold isI; split <;> omega

theorem ofInt_wrap (x : BitVec 64) : BitVec.ofInt 64 (IntKind.i64.wrap (x.toNat : Int)) = x := by
  have h : IntKind.i64.wrap (x.toNat : Int) = x.toInt := by
    rw [BitVec.toInt_eq_toNat_bmod]
    rw [wrap64]
    have := x.isLt
    simp only [Int.bmod]
    split <;> split <;> omega
  rw [h, BitVec.ofInt_toInt]

theorem tb_and (a b : Int) (i : Nat) : tb (band a b) i = (tb a i && tb b i) := by
  unfold tb
  rw [band, iand_eq]
  rw [show IntKind.i64.bits = 64 from rfl, ofInt_wrap]
  simp
theorem tb_or (a b : Int) (i : Nat) : tb (bor a b) i = (tb a i || tb b i) := by
  unfold tb
  rw [bor, ior_eq]
  rw [show IntKind.i64.bits = 64 from rfl, ofInt_wrap]
  simp
noncomputable abbrev bxor (a b : Int) : Int := ixor .i64 a b
/-- Of numbers that are not negative, the bits are those of the number. -/
theorem tb_nat (n i : Nat) (h : n < 2 ^ 64) : tb (n : Int) i = n.testBit i := by
  unfold tb
  rw [show (BitVec.ofInt 64 (n : Int)) = BitVec.ofNat 64 n from by simp]
  simp only [BitVec.getLsbD_ofNat]
  by_cases hi : i < 64
  · simp [hi]
  · simp only [hi, decide_false, Bool.false_and]
    symm
    apply Nat.testBit_lt_two_pow
    exact Nat.lt_of_lt_of_le h (Nat.pow_le_pow_right (by omega) (by omega))

theorem tb_eq (a : Int) (i : Nat) (hi : i < 64) : tb a i = decide (a / 2 ^ i % 2 = 1) := by
  unfold tb
  rw [BitVec.getLsbD, BitVec.toNat_ofInt, Nat.testBit_eq_decide_div_mod_eq]
  have h0 : 0 ≤ a % 2 ^ 64 := Int.emod_nonneg _ (by decide)
  have e1 : (((a % ((2 ^ 64 : Nat) : Int)).toNat / 2 ^ i % 2 : Nat) : Int) = (a % 2 ^ 64) / 2 ^ i % 2 := by
    rw [Int.natCast_emod, Int.natCast_ediv, Int.toNat_of_nonneg (by exact h0), Int.natCast_pow]
    rfl
  have e2 : (a % 2 ^ 64) / 2 ^ i % 2 = a / 2 ^ i % 2 := by
    obtain ⟨k, hk⟩ : ∃ k, 64 = i + 1 + k := ⟨63 - i, by omega⟩
    have hp : (2 : Int) ^ 64 = 2 ^ i * (2 * 2 ^ k) := by rw [hk, Int.pow_add, Int.pow_add]; simp [Int.mul_assoc]
    have hpos : (0 : Int) < 2 ^ i := Int.pow_pos (by decide)
    have hd : a % 2 ^ 64 = a - 2 ^ i * (2 * 2 ^ k * (a / 2 ^ 64)) := by
      rw [Int.emod_def, hp]
      simp [Int.mul_assoc]
    rw [hd, show a - 2 ^ i * (2 * 2 ^ k * (a / 2 ^ 64)) = a + 2 ^ i * (-(2 * 2 ^ k * (a / 2 ^ 64))) by simp [Int.mul_neg, Int.sub_eq_add_neg], Int.add_mul_ediv_left _ _ (by omega)]
    rw [show (2 : Int) * 2 ^ k * (a / 2 ^ 64) = 2 * (2 ^ k * (a / 2 ^ 64)) by simp [Int.mul_assoc]]
    omega
  have e3 := e1.trans e2
  generalize (a % ((2 ^ 64 : Nat) : Int)).toNat / 2 ^ i % 2 = m at e3
  rw [← e3]
  by_cases hx : m = 1
  · subst hx; rfl
  · rw [decide_eq_false hx, decide_eq_false (by omega)]

def nb (b : Bool) : Int := if b then 1 else 0
theorem nb_cases (b : Bool) : nb b = 0 ∨ nb b = 1 := by cases b <;> simp [nb]
@[simp] theorem nb_true : nb true = 1 := rfl
@[simp] theorem nb_false : nb false = 0 := rfl

theorem band_one (a : Int) : band a 1 = nb (tb a 0) := by
  have h := tb_eq a 0 (by decide)
  rw [band, iand_eq]
  have e : (BitVec.ofInt 64 a &&& BitVec.ofInt 64 1) = if tb a 0 then 1#64 else 0#64 := by
    apply BitVec.eq_of_getLsbD_eq
    intro i hi
    simp only [BitVec.getLsbD_and]
    have h1 : (BitVec.ofInt 64 1).getLsbD i = decide (i = 0) := by
      rw [show BitVec.ofInt 64 1 = 1#64 from by decide]; simp [BitVec.getLsbD_one]
    rw [h1]
    by_cases h0 : i = 0
    · subst h0
      show (tb a 0 && true) = _
      cases tb a 0 <;> simp
    · cases tb a 0 <;> simp [h0]
  rw [show IntKind.i64.bits = 64 from rfl, e]
  cases tb a 0 <;> rfl

theorem bit_shr (a : Int) (i : Nat) (hi : i < 64) : band (shr a i) 1 = nb (tb a i) := by
  rw [band_one]
  congr 1
  unfold shr ishr
  rw [tb_eq _ 0 (by decide), tb_eq a i hi]
  rw [show IntKind.i64.bits = 64 from rfl, show min ((i : Int)).toNat 64 = i by omega]
  rw [Int.fdiv_eq_ediv_of_nonneg _ (Int.pow_nonneg (by decide))]
  simp

theorem tb_zero (i : Nat) : tb 0 i = false := by simp [tb]

/-- Numbers of seven bits. -/
def Bits7 (a : Int) : Prop := 0 ≤ a ∧ a ≤ 127
theorem tb_high {a : Int} (h : Bits7 a) {i : Nat} (hi : 7 ≤ i) : tb a i = false := by
  obtain ⟨n, rfl⟩ := Int.eq_ofNat_of_zero_le h.1
  have hn : n < 2 ^ 7 := by have := h.2; omega
  rw [tb_nat _ _ (Nat.lt_trans hn (by decide))]
  exact Nat.testBit_lt_two_pow (Nat.lt_of_lt_of_le hn (Nat.pow_le_pow_right (by decide) hi))
theorem ext64 {a b : Int} (ha : isI a) (hb : isI b) (h : ∀ i, i < 64 → tb a i = tb b i) : a = b := by
  have e : BitVec.ofInt 64 a = BitVec.ofInt 64 b := BitVec.eq_of_getLsbD_eq fun i hi => h i hi
  have := congrArg BitVec.toInt e
  unfold isI at ha hb
  rw [BitVec.toInt_ofInt, BitVec.toInt_ofInt] at this
  simp only [Int.bmod] at this
  split at this <;> split at this <;> omega
theorem isI_band (a b : Int) : isI (band a b) := by
  rw [band, iand_eq]
  exact isI_wrap _
theorem Bits7.isI {a : Int} (h : Bits7 a) : isI a := by unfold Proofs.isI; unfold Bits7 at h; omega
theorem ext7 {a b : Int} (ha : Bits7 a) (hb : Bits7 b) (h : ∀ i, i < 7 → tb a i = tb b i) : a = b :=
  ext64 ha.isI hb.isI fun i _ => if h7 : i < 7 then h i h7 else by rw [tb_high ha (by omega), tb_high hb (by omega)]
theorem ext0 {a : Int} (ha : isI a) (h : ∀ i, i < 64 → tb a i = false) : a = 0 := ext64 ha (by unfold isI; omega) fun i hi => by rw [h i hi, tb_zero]
theorem eq0_iff {a : Int} (ha : isI a) : a = 0 ↔ ∀ i, i < 64 → tb a i = false := ⟨fun h => by subst h; exact fun i _ => tb_zero i, ext0 ha⟩
end Go.Proofs

/- Rows: one more; some of them changed. -/
namespace Go.Proofs
open Go.Pv
set_option maxRecDepth 100000

def upTo {α : Type} (f : α → α) (l : List α) (i : Nat) : List α := (l.take i).map f ++ l.drop i
theorem obj_eq {b : Bool} {sz sz' : Nat} {r r' : List (List PV)} (h : sz = sz') (h2 : r = r') : (b, sz, r) = (b, sz', r') := by subst h; subst h2; rfl
end Go.Proofs

/- Contracts of functions: counts, quorums, steps of configurations (the program's). -/
namespace Go.Proofs
open Go.Pv
set_option maxRecDepth 100000

def cnt (b : Int) : Nat → Int
  | 0 => 0
  | n + 1 => cnt b n + nb (tb b n)
def count (b : Int) : Int := cnt b 7
theorem cnt_le (b : Int) : ∀ n, 0 ≤ cnt b n ∧ cnt b n ≤ n
  | 0 => by simp [cnt]
  | n + 1 => by
    have := cnt_le b n
    simp only [cnt]
    rcases nb_cases (tb b n) with h | h <;> rw [h] <;> omega
theorem count_le (b : Int) : 0 ≤ count b ∧ count b ≤ 7 := cnt_le b 7

theorem hasB_nat (b : Int) (i : Nat) (hi : i < 64) : hasB b i = tb b i := by
  unfold hasB
  rw [wrapu_id (by omega) (by omega), bit_shr b i hi]
  cases tb b i <;> rfl

theorem c_Count (b : Int) : Ctr Tryz.prog 139 [iv b] (iv (count b)) [] := by
  refine spec_of_body mixed Tryz.func139 rfl (by kernel_rfl) (by kernel_rfl) ?_; conv => whnf
  refine tri_rounds mixed (by kernel_rfl) 8 ?_
  conv => whnf
  repeat' ((with_reducible refine And.intro (And.intro (by first | decide | omega) (by first | decide | omega)) ?_); conv => whnf)
  refine exit_plain rfl ?_
  have h0 := bit_shr b 0 (by decide)
  have h1 := bit_shr b 1 (by decide)
  have h2 := bit_shr b 2 (by decide)
  have h3 := bit_shr b 3 (by decide)
  have h4 := bit_shr b 4 (by decide)
  have h5 := bit_shr b 5 (by decide)
  have h6 := bit_shr b 6 (by decide)
  show iv (w64 (w64 (w64 (w64 (w64 (w64 (w64 (0 + band (shr b ((0 : Nat) : Int)) 1) + band (shr b ((1 : Nat) : Int)) 1) + band (shr b ((2 : Nat) : Int)) 1) + band (shr b ((3 : Nat) : Int)) 1) + band (shr b ((4 : Nat) : Int)) 1) + band (shr b ((5 : Nat) : Int)) 1) + band (shr b ((6 : Nat) : Int)) 1)) = _
  rw [h0, h1, h2, h3, h4, h5, h6]
  have e : ∀ k, k ≤ 6 → w64 (cnt b k + nb (tb b k)) = cnt b (k + 1) := by
    intro k hk
    have := cnt_le b k
    rcases nb_cases (tb b k) with h | h <;> simp only [cnt, h] <;> exact wrap_id (by omega) (by omega)
  rw [show (0 : Int) = cnt b 0 from rfl, e 0 (by decide), e 1 (by decide), e 2 (by decide), e 3 (by decide), e 4 (by decide), e 5 (by decide), e 6 (by decide)]
  rfl

noncomputable def checkR (c : Conf) : Int :=
  if c.full < 0 ∨ 127 < c.full ∨ band c.full 0 ≠ 0 then 14 else
  if c.wit < 0 ∨ 127 < c.wit ∨ band c.wit (bor 0 c.full) ≠ 0 then 14 else
  if c.learn < 0 ∨ 127 < c.learn ∨ band c.learn (bor (bor 0 c.full) c.wit) ≠ 0 then 14 else
  if c.lwit < 0 ∨ 127 < c.lwit ∨ band c.lwit (bor (bor (bor 0 c.full) c.wit) c.learn) ≠ 0 then 14 else
  if c.full = 0 then 14 else 0

theorem c_Check0 (c : Conf) : Ctr Tryz.prog 94 [.ag c.enc] (iv (checkR c)) [] := by
  refine spec_of_body mixed Tryz.func94 rfl (by kernel_rfl) (by kernel_rfl) ?_; conv => whnf
  refine tri_rounds mixed (by kernel_rfl) 5 ?_
  conv => whnf
  repeat' (first | ((first | (with_reducible refine split_dec (fun h => ?_) (fun h => ?_)) | (with_reducible refine split_beq (fun h => ?_) (fun h => ?_)) | (with_reducible refine split_bne (fun h => ?_) (fun h => ?_)) | (with_reducible refine split_not (fun h => ?_) (fun h => ?_)) | (with_reducible refine split_beqS (fun h => ?_) (fun h => ?_)) | (with_reducible refine split_intro (fun h => ?_) (fun h => ?_))) <;> conv => whnf) | ((with_reducible refine And.intro (by with_unfolding_all decide) ?_); refine Exists.intro _ (And.intro (by with_unfolding_all rfl) ?_); conv => whnf))
  all_goals (refine exit_plain rfl ?_)
  all_goals simp [checkR, band, bor, *]

/-- A right configuration, bit by bit. -/
structure Cok (c : Conf) : Prop where
  f : Bits7 c.full
  w : Bits7 c.wit
  l : Bits7 c.learn
  x : Bits7 c.lwit
  ne : c.full ≠ 0
  fw : ∀ i : Nat, (tb c.full i && tb c.wit i) = false
  fl : ∀ i : Nat, (tb c.full i && tb c.learn i) = false
  wl : ∀ i : Nat, (tb c.wit i && tb c.learn i) = false
  fx : ∀ i : Nat, (tb c.full i && tb c.lwit i) = false
  wx : ∀ i : Nat, (tb c.wit i && tb c.lwit i) = false
  lx : ∀ i : Nat, (tb c.learn i && tb c.lwit i) = false

theorem and0 {a b : Int} : band a b = 0 ↔ ∀ i : Nat, (tb a i && tb b i) = false := by
  rw [eq0_iff (isI_band a b)]
  constructor
  · intro h i
    by_cases hi : i < 64
    · rw [← tb_and]; exact h i hi
    · rw [show tb a i = false from BitVec.getLsbD_of_ge _ _ (by omega)]; rfl
  · intro h i _
    rw [tb_and]; exact h i

theorem checkR_eq (c : Conf) : checkR c = if confB c then 0 else 14 := by
  have hc : ∀ a b : Int, band a b = band b a := by
    intro a b
    exact ext64 (isI_band _ _) (isI_band _ _) fun i _ => by rw [tb_and, tb_and, Bool.and_comm]
  have h0 : ∀ a : Int, band a 0 = 0 := by
    intro a; rw [and0]; intro i; simp [tb_zero]
  have ho : ∀ a x : Int, band a (bor 0 x) = band x a := by
    intro a x
    exact ext64 (isI_band _ _) (isI_band _ _) fun i _ => by rw [tb_and, tb_and, tb_or, tb_zero, Bool.false_or, Bool.and_comm]
  have ho2 : ∀ a x y : Int, band a (bor (bor 0 x) y) = band (bor x y) a := by
    intro a x y
    exact ext64 (isI_band _ _) (isI_band _ _) fun i _ => by simp only [tb_and, tb_or, tb_zero, Bool.false_or]; rw [Bool.and_comm]
  have ho3 : ∀ a x y z : Int, band a (bor (bor (bor 0 x) y) z) = band (bor (bor x y) z) a := by
    intro a x y z
    exact ext64 (isI_band _ _) (isI_band _ _) fun i _ => by simp only [tb_and, tb_or, tb_zero, Bool.false_or]; rw [Bool.and_comm]
  unfold checkR
  simp only [h0, ho, ho2, ho3]
  by_cases h : confB c = true
  · rw [if_pos h]
    unfold confB at h
    simp only [Bool.and_eq_true, withinB, decide_eq_true_eq, bne_iff_ne, beq_iff_eq] at h
    obtain ⟨h1, h2, h3, h4, h5, h6, h7, h8⟩ := h
    rw [if_neg (by omega), if_neg (by omega), if_neg (by omega), if_neg (by omega), if_neg h5]
  · rw [if_neg h]
    unfold confB at h
    simp only [Bool.and_eq_true, withinB, decide_eq_true_eq, bne_iff_ne, beq_iff_eq] at h
    repeat' split
    all_goals first | rfl | skip
    exfalso; apply h
    refine ⟨?_, ?_, ?_, ?_, ?_, ?_, ?_, ?_⟩ <;> omega

theorem c_Check (c : Conf) : Ctr Tryz.prog 94 [.ag c.enc] (iv (if confB c then 0 else 14)) [] := by
  rw [← checkR_eq]; exact c_Check0 c

theorem c_Voters (c : Conf) : Ctr Tryz.prog 140 [.ag c.enc] (iv (bor c.full c.wit)) [] := by
  refine spec_of_body mixed Tryz.func140 rfl (by kernel_rfl) (by kernel_rfl) ?_; conv => whnf
  exact exit_plain rfl rfl
theorem c_All (c : Conf) : Ctr Tryz.prog 52 [.ag c.enc] (iv (bor (bor (bor c.full c.wit) c.learn) c.lwit)) [] := by
  refine spec_of_body mixed Tryz.func52 rfl (by kernel_rfl) (by kernel_rfl) ?_; conv => whnf
  exact exit_plain rfl rfl

noncomputable def quorum (c : Conf) (b : Int) : Bool := decide (count (bor c.full c.wit) < 2 * count (band (bor c.full c.wit) b))

theorem c_Quorum (c : Conf) (b : Int) : Ctr Tryz.prog 104 [.ag c.enc, iv b] (bv (quorum c b)) [] := by
  refine spec_of_body mixed Tryz.func104 rfl (by kernel_rfl) (by kernel_rfl) ?_; conv => whnf
  repeat' (first | ((try ((refine Exists.intro none ?_); (conv => whnf))); first | ((with_reducible refine call_by (c_Voters c) ?_); conv => whnf) | ((with_reducible refine call_by (c_Count _) ?_); conv => whnf)) | ((with_reducible refine And.intro (And.intro (by first | decide | omega) (by first | decide | omega)) ?_); conv => whnf))
  refine exit_plain rfl ?_
  have h1 := count_le (bor c.full c.wit)
  have h2 := count_le (band (bor c.full c.wit) b)
  show bv (decide (w64 ((count (bor c.full c.wit)).tdiv 2) < count (band (bor c.full c.wit) b))) = _
  rw [Int.tdiv_eq_ediv_of_nonneg h1.1]
  rw [show w64 (count (bor c.full c.wit) / 2) = count (bor c.full c.wit) / 2 from wrap_id (by omega) (by omega)]
  exact congrArg (fun b : Bool => bv b) (decide_eq_decide.2 (by omega))

end Go.Proofs

/- Contracts of functions: steps of configurations (the program's). -/
namespace Go.Proofs
open Go.Pv
set_option maxRecDepth 100000

noncomputable def wrongR (c : Conf) (i : Int) : Int := if confB c then (if withinB i 0 6 then 0 else 1) else 14
abbrev cz : Conf := ⟨0, 0, 0, 0⟩
noncomputable def steppedR (c : Conf) : Conf × Int := if confB c then (c, 0) else (cz, 14)
abbrev cev (x : Conf × Int) : PV := .tu [.ag x.1.enc, iv x.2]
noncomputable def allB (c : Conf) : Int := bor (bor (bor c.full c.wit) c.learn) c.lwit

noncomputable def learnR (c : Conf) (i : Int) (wit : Bool) : Conf × Int :=
  if wrongR c i = 0 then
    if band (allB c) (shl 1 i) = 0 then (if wit then steppedR ⟨c.full, c.wit, c.learn, bor c.lwit (shl 1 i)⟩ else steppedR ⟨c.full, c.wit, bor c.learn (shl 1 i), c.lwit⟩) else (cz, 14)
  else (cz, wrongR c i)

noncomputable def promoteR (c : Conf) (i : Int) : Conf × Int :=
  if wrongR c i = 0 then
    if band c.learn (shl 1 i) = 0 then (if band c.lwit (shl 1 i) = 0 then (cz, 14) else steppedR ⟨c.full, bor c.wit (shl 1 i), c.learn, bandn c.lwit (shl 1 i)⟩)
    else steppedR ⟨bor c.full (shl 1 i), c.wit, bandn c.learn (shl 1 i), c.lwit⟩
  else (cz, wrongR c i)

noncomputable def removeR (c : Conf) (i : Int) : Conf × Int :=
  if wrongR c i = 0 then
    if band (allB c) (shl 1 i) = 0 then (cz, 14) else steppedR ⟨bandn c.full (shl 1 i), bandn c.wit (shl 1 i), bandn c.learn (shl 1 i), bandn c.lwit (shl 1 i)⟩
  else (cz, wrongR c i)

noncomputable def kindR (c : Conf) (i : Int) : ByteArray :=
  if withinB i 0 6 then (if band c.full (shl 1 i) ≠ 0 then sFull else if band c.wit (shl 1 i) ≠ 0 then sWit else if band c.learn (shl 1 i) ≠ 0 then sLearn else if band c.lwit (shl 1 i) ≠ 0 then sLwit else sE) else sE

end Go.Proofs

/- Plain facts: quorums and steps, bit by bit; the first wake. -/
namespace Go.Proofs
open Go.Pv
set_option maxRecDepth 100000

def Nat7 (i : Int) : Prop := 0 ≤ i ∧ i < 7

noncomputable abbrev voters (c : Conf) : Int := bor c.full c.wit

theorem Cok.some {c : Conf} (h : Cok c) : ∃ i, i < 7 ∧ tb c.full i = true := by
  apply Classical.byContradiction
  intro hn
  apply h.ne
  refine ext7 h.f (by unfold Bits7; omega) fun i hi => ?_
  rw [tb_zero]
  cases hb : tb c.full i
  · rfl
  · exact absurd ⟨i, hi, hb⟩ hn

end Go.Proofs

/- Plain facts: steps of configurations. -/
namespace Go.Proofs
open Go.Pv
set_option maxRecDepth 100000

def one4 (a b c d : Bool) : Bool := !(a && b) && !(a && c) && !(b && c) && !(a && d) && !(b && d) && !(c && d)
def any4 (a b c d : Bool) : Bool := a || b || c || d

theorem Cok.one {c : Conf} (h : Cok c) (i : Nat) : one4 (tb c.full i) (tb c.wit i) (tb c.learn i) (tb c.lwit i) = true := by
  have h1 := h.fw i; have h2 := h.fl i; have h3 := h.wl i; have h4 := h.fx i; have h5 := h.wx i; have h6 := h.lx i
  simp [one4, h1, h2, h3, h4, h5, h6]

theorem Cok.of {c : Conf} (f : Bits7 c.full) (w : Bits7 c.wit) (l : Bits7 c.learn) (x : Bits7 c.lwit) (i0 : Nat) (h0 : tb c.full i0 = true) (h : ∀ i, one4 (tb c.full i) (tb c.wit i) (tb c.learn i) (tb c.lwit i) = true) : Cok c := by
  refine ⟨f, w, l, x, ?_, ?_, ?_, ?_, ?_, ?_, ?_⟩
  · intro e; rw [e, tb_zero] at h0; cases h0
  all_goals (intro i; have := h i; revert this; unfold one4; cases tb c.full i <;> cases tb c.wit i <;> cases tb c.learn i <;> cases tb c.lwit i <;> simp)

/-- None at n. -/
def free (c : Conf) (n : Nat) : Prop := tb c.full n = false ∧ tb c.wit n = false ∧ tb c.learn n = false ∧ tb c.lwit n = false
noncomputable abbrev addL (c : Conf) (n : Nat) : Conf := ⟨c.full, c.wit, bor c.learn (shl 1 n), c.lwit⟩
noncomputable abbrev addX (c : Conf) (n : Nat) : Conf := ⟨c.full, c.wit, c.learn, bor c.lwit (shl 1 n)⟩
noncomputable abbrev proL (c : Conf) (n : Nat) : Conf := ⟨bor c.full (shl 1 n), c.wit, bandn c.learn (shl 1 n), c.lwit⟩
noncomputable abbrev proX (c : Conf) (n : Nat) : Conf := ⟨c.full, bor c.wit (shl 1 n), c.learn, bandn c.lwit (shl 1 n)⟩
noncomputable abbrev dele (c : Conf) (n : Nat) : Conf := ⟨bandn c.full (shl 1 n), bandn c.wit (shl 1 n), bandn c.learn (shl 1 n), bandn c.lwit (shl 1 n)⟩

theorem Conf.ext' {a b : Conf} (h1 : a.full = b.full) (h2 : a.wit = b.wit) (h3 : a.learn = b.learn) (h4 : a.lwit = b.lwit) : a = b := by
  cases a; cases b; simp_all

/-- Right configurations are the same if their bits are. -/
theorem Cok.ext {a b : Conf} (ha : Cok a) (hb : Cok b) (h : ∀ i, i < 7 → tb a.full i = tb b.full i ∧ tb a.wit i = tb b.wit i ∧ tb a.learn i = tb b.learn i ∧ tb a.lwit i = tb b.lwit i) : a = b :=
  Conf.ext' (ext7 ha.f hb.f fun i hi => (h i hi).1) (ext7 ha.w hb.w fun i hi => (h i hi).2.1) (ext7 ha.l hb.l fun i hi => (h i hi).2.2.1) (ext7 ha.x hb.x fun i hi => (h i hi).2.2.2)

theorem c_kConf (a b : Conf) : Ctr Tryz.prog 55 [.ag a.enc, .ag b.enc] (bv (decide (a = b))) [] := by
  refine spec_of_body mixed Tryz.func55 rfl (by kernel_rfl) (by kernel_rfl) ?_; conv => whnf
  repeat' ((first | (with_reducible refine split_dec (fun h => ?_) (fun h => ?_)) | (with_reducible refine split_beq (fun h => ?_) (fun h => ?_)) | (with_reducible refine split_bne (fun h => ?_) (fun h => ?_)) | (with_reducible refine split_not (fun h => ?_) (fun h => ?_)) | (with_reducible refine split_beqS (fun h => ?_) (fun h => ?_)) | (with_reducible refine split_intro (fun h => ?_) (fun h => ?_))) <;> conv => whnf)
  all_goals (refine exit_plain rfl ?_)
  all_goals (refine congrArg (fun b : Bool => bv b) ?_; symm)
  · have e : a = b ↔ a.lwit = b.lwit := ⟨fun e => by rw [e], fun e => Conf.ext' (by assumption) (by assumption) (by assumption) e⟩
    rw [decide_eq_decide.2 e]; rfl
  all_goals (rw [decide_eq_false]; intro e; subst e; contradiction)
end Go.Proofs
