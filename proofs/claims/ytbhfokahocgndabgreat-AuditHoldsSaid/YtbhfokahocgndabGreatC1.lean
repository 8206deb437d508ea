import Derived.Test.YtbhfokahocgndabGreatPvN
import Derived.Laws.Externs
import Derived.KernelRfl
/- Contracts of functions: configurations, delays. -/
set_option linter.unusedSimpArgs false
set_option linter.unusedVariables false
namespace Go.Proofs
open Go.Pv
set_option maxRecDepth 100000
noncomputable abbrev band (a b : Int) : Int := iand .i64 a b
noncomputable abbrev bor (a b : Int) : Int := ior .i64 a b
abbrev shr (a b : Int) : Int := ishr .i64 a b
noncomputable def bitB (b i : Int) : Bool := decide (0 ≤ i) && decide (i < 7) && (band (shr b i) 1 == 1)
def zaj (n lo hi : Int) : Bool := decide (lo ≤ n) && decide (n ≤ hi)
theorem zqu (n lo hi : Int) : Ctr Tryz.prog 73 [iv n, iv lo, iv hi] (bv (zaj n lo hi)) [] := by
 refine zcm mixed Tryz.func73 rfl (by kernel_rfl) (by kernel_rfl) ?_
 conv => whnf
 repeat' (first
  | (refine zxe (fun h => ?_) (fun h => ?_) <;> conv => whnf))
 all_goals (refine zab rfl ?_; simp [zaj, *])
theorem zb5 (i : Int) : Ctr Tryz.prog 57 [iv i] (bv (zaj i 0 6)) [] := by
 refine zcm mixed Tryz.func57 rfl (by kernel_rfl) (by kernel_rfl) ?_
 conv => whnf
 refine Exists.intro none ?_; (conv => whnf); refine zaa (zqu _ _ _) ?_
 conv => whnf
 exact zab rfl rfl
theorem c_Bits (i : Int) : Ctr Tryz.prog 29 [iv i] (bv (zaj i 0 127)) [] := by
 refine zcm mixed Tryz.func29 rfl (by kernel_rfl) (by kernel_rfl) ?_
 conv => whnf
 refine Exists.intro none ?_; (conv => whnf); refine zaa (zqu _ _ _) ?_
 conv => whnf
 exact zab rfl rfl
noncomputable def hasB (b i : Int) : Bool := band (shr b (IntKind.u64.wrap i)) 1 == 1
theorem zen (i : Int) : 0 ≤ IntKind.u64.wrap i := by
 simp [IntKind.wrap, IntKind.signed, IntKind.bits]; omega
theorem c_Has (b i : Int) : Ctr Tryz.prog 56 [iv b, iv i] (bv (hasB b i)) [] := by
 refine zcm mixed Tryz.func56 rfl (by kernel_rfl) (by kernel_rfl) ?_
 conv => whnf
 refine ⟨⟨by decide, zen _⟩, ?_⟩
 conv => whnf
 exact zab rfl rfl
noncomputable def delay (c : Conf) (i : Int) : Int := if bitB c.full i then IntKind.i64.wrap (6 + IntKind.i64.wrap (2 * i)) else if bitB c.wit i then IntKind.i64.wrap (6 + IntKind.i64.wrap (2 * IntKind.i64.wrap (7 + i))) else 0
noncomputable def confB (c : Conf) : Bool :=
 zaj c.full 0 127 && (zaj c.wit 0 127 && (zaj c.learn 0 127 && (zaj c.lwit 0 127 && (c.full != 0 && (band c.full c.wit == 0 && (band (bor c.full c.wit) c.learn == 0 && band (bor (bor c.full c.wit) c.learn) c.lwit == 0))))))
set_option maxHeartbeats 1000000 in
theorem zhl (c : Conf) : Ctr Tryz.prog 8 [.ag c.enc] (bv (confB c)) [] := by
 refine zcm mixed Tryz.func8 rfl (by kernel_rfl) (by kernel_rfl) ?_
 conv => whnf
 repeat' (first
  | (refine Exists.intro none ?_; (conv => whnf); refine zaa (c_Bits _) ?_; conv => whnf)
  | (refine zup (fun h => ?_) (fun h => ?_) <;> conv => whnf)
  | (refine zt6 (fun h => ?_) (fun h => ?_) <;> conv => whnf)
  | (refine zc2 (fun h => ?_) (fun h => ?_) <;> conv => whnf))
 all_goals (refine zab rfl ?_; simp [confB, *])
def sE : ByteArray := ⟨#[]⟩
def sFull : ByteArray := ⟨#[102, 117, 108, 108]⟩
def sWit : ByteArray := ⟨#[119, 105, 116]⟩
def zlc : ByteArray := ⟨#[108, 101, 97, 114, 110]⟩
def sLwit : ByteArray := ⟨#[108, 101, 97, 114, 110, 119, 105, 116]⟩
noncomputable def kind (c : Conf) (i : Int) : ByteArray :=
 if zaj i 0 6 then (if hasB c.full i then sFull else if hasB c.wit i then sWit else if hasB c.learn i then zlc else if hasB c.lwit i then sLwit else sE) else sE
theorem zms (c : Conf) (i : Int) : Ctr Tryz.prog 19 [.ag c.enc, iv i] (sv (kind c i)) [] := by
 refine zcm mixed Tryz.func19 rfl (by kernel_rfl) (by kernel_rfl) ?_
 conv => whnf
 repeat' (first
  | (refine Exists.intro none ?_; (conv => whnf); refine zaa (zb5 _) ?_; conv => whnf)
  | (refine Exists.intro none ?_; (conv => whnf); refine zaa (c_Has _ _) ?_; conv => whnf)
  | (refine zur (fun h => ?_) (fun h => ?_) <;> conv => whnf)
  | (refine zc2 (fun h => ?_) (fun h => ?_) <;> conv => whnf))
 all_goals (refine zab rfl ?_; simp [kind, sFull, sWit, zlc, sLwit, sE, *])
theorem zai {n : Int} (h1 : -9223372036854775808 ≤ n) (h2 : n < 9223372036854775808) : IntKind.i64.wrap n = n := by
 simp [IntKind.wrap, IntKind.signed, IntKind.bits]; omega
theorem zb1 {n : Int} (h1 : 0 ≤ n) (h2 : n < 18446744073709551616) : IntKind.u64.wrap n = n := by
 simp [IntKind.wrap, IntKind.signed, IntKind.bits]; omega
theorem zh1 {b i : Int} (h : zaj i 0 6 = true) : hasB b i = bitB b i := by
 simp [zaj] at h
 simp [hasB, bitB, zb1 (n := i) (by omega) (by omega)]
 intro _; omega
theorem zm2 {b i : Int} (h : zaj i 0 6 = false) : bitB b i = false := by
 simp [zaj] at h
 simp [bitB]; intro a c; omega
theorem zo5 (c : Conf) (i : Int) : kind c i = if bitB c.full i then sFull else if bitB c.wit i then sWit else if bitB c.learn i then zlc else if bitB c.lwit i then sLwit else sE := by
 unfold kind
 cases h : zaj i 0 6
 ·simp [zm2 h]
 ·simp [zh1 h]
theorem zm7 (c : Conf) (i : Int) : ((kind c i).toList == (ByteArray.mk #[102, 117, 108, 108]).toList) = bitB c.full i := by
 rw [zo5]
 cases bitB c.full i <;> cases bitB c.wit i <;> cases bitB c.learn i <;> cases bitB c.lwit i <;> decide +kernel
theorem zx5 (c : Conf) (i : Int) : ((kind c i).toList == (ByteArray.mk #[119, 105, 116]).toList) = (!bitB c.full i && bitB c.wit i) := by
 rw [zo5]
 cases bitB c.full i <;> cases bitB c.wit i <;> cases bitB c.learn i <;> cases bitB c.lwit i <;> decide +kernel
abbrev w64 (n : Int) : Int := IntKind.i64.wrap n
noncomputable abbrev bandn (a b : Int) : Int := iandn .i64 a b
abbrev shl (a b : Int) : Int := ishl .i64 a b
def tb (a : Int) (i : Nat) : Bool := (BitVec.ofInt 64 a).getLsbD i
theorem zn1 (n : Int) : IntKind.i64.wrap n = if n % 18446744073709551616 < 9223372036854775808 then n % 18446744073709551616 else n % 18446744073709551616 - 18446744073709551616 := by
 simp only [IntKind.wrap, IntKind.signed, IntKind.bits]
 simp
 split <;> split <;> omega
theorem zmh (n : Int) : isI (IntKind.i64.wrap n) := by
 rw [zn1]; unfold isI; split <;> omega
theorem zh4 (x : BitVec 64) : BitVec.ofInt 64 (IntKind.i64.wrap (x.toNat : Int)) = x := by
 have h : IntKind.i64.wrap (x.toNat : Int) = x.toInt := by
  rw [BitVec.toInt_eq_toNat_bmod]
  rw [zn1]
  have := x.isLt
  simp only [Int.bmod]
  split <;> split <;> omega
 rw [h, BitVec.ofInt_toInt]
theorem zdd (a b : Int) (i : Nat) : tb (band a b) i = (tb a i && tb b i) := by
 unfold tb
 rw [band, zmq]
 rw [show IntKind.i64.bits = 64 from rfl, zh4]
 simp
theorem tb_or (a b : Int) (i : Nat) : tb (bor a b) i = (tb a i || tb b i) := by
 unfold tb
 rw [bor, zwe]
 rw [show IntKind.i64.bits = 64 from rfl, zh4]
 simp
theorem zwk (a b : Int) (i : Nat) (h : i < 64) : tb (bandn a b) i = (tb a i && !tb b i) := by
 unfold tb
 rw [bandn, zl3]
 rw [show IntKind.i64.bits = 64 from rfl, zh4]
 simp [h]
theorem zib (n i : Nat) (h : n < 2 ^ 64) : tb (n : Int) i = n.testBit i := by
 unfold tb
 rw [show (BitVec.ofInt 64 (n : Int)) = BitVec.ofNat 64 n from by simp]
 simp only [BitVec.getLsbD_ofNat]
 by_cases hi : i < 64
 ·simp [hi]
 ·simp only [hi, decide_false, Bool.false_and]
  symm
  apply Nat.testBit_lt_two_pow
  exact Nat.lt_of_lt_of_le h (Nat.pow_le_pow_right (by omega) (by omega))
theorem tb_eq (a : Int) (i : Nat) (hi : i < 64) : tb a i = decide (a / 2 ^ i % 2 = 1) := by
 unfold tb
 rw [BitVec.getLsbD, BitVec.toNat_ofInt, Nat.testBit_eq_decide_div_mod_eq]
 have h0 : 0 ≤ a % 2 ^ 64 := Int.emod_nonneg _ (by decide)
 have e1 : (((a % ((2 ^ 64 : Nat) : Int)).toNat / 2 ^ i % 2 : Nat) : Int) = (a % 2 ^ 64) / 2 ^ i % 2 := by
  rw [Int.natCast_emod, Int.natCast_ediv, Int.toNat_of_nonneg (by exact h0), Int.natCast_pow]
  rfl
 have e2 : (a % 2 ^ 64) / 2 ^ i % 2 = a / 2 ^ i % 2 := by
  obtain ⟨k, hk⟩ : ∃ k, 64 = i + 1 + k := ⟨63 - i, by omega⟩
  have hp : (2 : Int) ^ 64 = 2 ^ i * (2 * 2 ^ k) := by rw [hk, Int.pow_add, Int.pow_add]; simp [Int.mul_assoc]
  have hpos : (0 : Int) < 2 ^ i := Int.pow_pos (by decide)
  have hd : a % 2 ^ 64 = a - 2 ^ i * (2 * 2 ^ k * (a / 2 ^ 64)) := by
   rw [Int.emod_def, hp]
   simp [Int.mul_assoc]
  rw [hd, show a - 2 ^ i * (2 * 2 ^ k * (a / 2 ^ 64)) = a + 2 ^ i * (-(2 * 2 ^ k * (a / 2 ^ 64))) by simp [Int.mul_neg, Int.sub_eq_add_neg], Int.add_mul_ediv_left _ _ (by omega)]
  rw [show (2 : Int) * 2 ^ k * (a / 2 ^ 64) = 2 * (2 ^ k * (a / 2 ^ 64)) by simp [Int.mul_assoc]]
  omega
 have e3 := e1.trans e2
 generalize (a % ((2 ^ 64 : Nat) : Int)).toNat / 2 ^ i % 2 = m at e3
 rw [← e3]
 by_cases hx : m = 1
 ·subst hx; rfl
 ·rw [decide_eq_false hx, decide_eq_false (by omega)]
def nb (b : Bool) : Int := if b then 1 else 0
theorem zg2 (b : Bool) : nb b = 0 ∨ nb b = 1 := by cases b <;> simp [nb]
@[simp] theorem nb_true : nb true = 1 := rfl
@[simp] theorem nb_false : nb false = 0 := rfl
theorem zzs (a : Int) : band a 1 = nb (tb a 0) := by
 have h := tb_eq a 0 (by decide)
 rw [band, zmq]
 have e : (BitVec.ofInt 64 a &&& BitVec.ofInt 64 1) = if tb a 0 then 1#64 else 0#64 := by
  apply BitVec.eq_of_getLsbD_eq
  intro i hi
  simp only [BitVec.getLsbD_and]
  have h1 : (BitVec.ofInt 64 1).getLsbD i = decide (i = 0) := by
   rw [show BitVec.ofInt 64 1 = 1#64 from by decide]; simp [BitVec.getLsbD_one]
  rw [h1]
  by_cases h0 : i = 0
  ·subst h0
   show (tb a 0 && true) = _
   cases tb a 0 <;> simp
  ·cases tb a 0 <;> simp [h0]
 rw [show IntKind.i64.bits = 64 from rfl, e]
 cases tb a 0 <;> rfl
theorem bit_shr (a : Int) (i : Nat) (hi : i < 64) : band (shr a i) 1 = nb (tb a i) := by
 rw [zzs]
 congr 1
 unfold shr ishr
 rw [tb_eq _ 0 (by decide), tb_eq a i hi]
 rw [show IntKind.i64.bits = 64 from rfl, show min ((i : Int)).toNat 64 = i by omega]
 rw [Int.fdiv_eq_ediv_of_nonneg _ (Int.pow_nonneg (by decide))]
 simp
theorem zgo (i : Nat) (hi : i < 63) : shl 1 i = ((2 ^ i : Nat) : Int) := by
 unfold shl ishl
 rw [show IntKind.i64.bits = 64 from rfl, show min ((i : Int)).toNat 64 = i by omega]
 have h : (2 : Nat) ^ i < 2 ^ 63 := Nat.pow_lt_pow_right (by decide) hi
 have e : (1 : Int) * 2 ^ i = ((2 ^ i : Nat) : Int) := by simp
 rw [e]
 generalize (2 : Nat) ^ i = m at h
 exact zai (by omega) (by omega)
theorem zec (i j : Nat) (hi : i < 63) : tb (shl 1 i) j = decide (i = j) := by
 rw [zgo i hi, zib _ _ (Nat.pow_lt_pow_right (by decide) (by omega)), Nat.testBit_two_pow]
theorem zek (i : Nat) : tb 0 i = false := by simp [tb]
def Bits7 (a : Int) : Prop := 0 ≤ a ∧ a ≤ 127
theorem zhx {a : Int} (h : Bits7 a) {i : Nat} (hi : 7 ≤ i) : tb a i = false := by
 obtain ⟨n, rfl⟩ := Int.eq_ofNat_of_zero_le h.1
 have hn : n < 2 ^ 7 := by have := h.2; omega
 rw [zib _ _ (Nat.lt_trans hn (by decide))]
 exact Nat.testBit_lt_two_pow (Nat.lt_of_lt_of_le hn (Nat.pow_le_pow_right (by decide) hi))
theorem ext64 {a b : Int} (ha : isI a) (hb : isI b) (h : ∀ i, i < 64 → tb a i = tb b i) : a = b := by
 have e : BitVec.ofInt 64 a = BitVec.ofInt 64 b := BitVec.eq_of_getLsbD_eq fun i hi => h i hi
 have := congrArg BitVec.toInt e
 unfold isI at ha hb
 rw [BitVec.toInt_ofInt, BitVec.toInt_ofInt] at this
 simp only [Int.bmod] at this
 split at this <;> split at this <;> omega
theorem zdv (a b : Int) : isI (band a b) := by
 rw [band, zmq]
 exact zmh _
theorem zut (a b : Int) : isI (bor a b) := by
 rw [bor, zwe]
 exact zmh _
theorem zw8 (a b : Int) : isI (bandn a b) := by
 rw [bandn, zl3]
 exact zmh _
theorem Bits7.isI {a : Int} (h : Bits7 a) : isI a := by unfold Proofs.isI; unfold Bits7 at h; omega
theorem zmc {a : Int} (ha : isI a) (h : ∀ i, 7 ≤ i → i < 64 → tb a i = false) : Bits7 a := by
 have e : BitVec.ofInt 64 a &&& 127#64 = BitVec.ofInt 64 a := by
  apply BitVec.eq_of_getLsbD_eq
  intro i hi
  simp only [BitVec.getLsbD_and]
  by_cases h7 : i < 7
  ·have : (127#64).getLsbD i = true := by
     rcases i with _ | _ | _ | _ | _ | _ | _ | i <;> first | rfl | omega
   simp [this]
  ·have := h i (by omega) hi
   unfold tb at this
   simp [this]
 have h2 := congrArg BitVec.toNat e
 rw [BitVec.toNat_and, BitVec.toNat_ofInt] at h2
 have h3 : (a % ((2 ^ 64 : Nat) : Int)).toNat ≤ 127 := by
  rw [← h2]; exact Nat.and_le_right
 unfold isI at ha
 unfold Bits7
 omega
theorem ext7 {a b : Int} (ha : Bits7 a) (hb : Bits7 b) (h : ∀ i, i < 7 → tb a i = tb b i) : a = b :=
 ext64 ha.isI hb.isI fun i _ => if h7 : i < 7 then h i h7 else by rw [zhx ha (by omega), zhx hb (by omega)]
theorem ext0 {a : Int} (ha : isI a) (h : ∀ i, i < 64 → tb a i = false) : a = 0 := ext64 ha (by unfold isI; omega) fun i hi => by rw [h i hi, zek]
theorem eq0_iff {a : Int} (ha : isI a) : a = 0 ↔ ∀ i, i < 64 → tb a i = false := ⟨fun h => by subst h; exact fun i _ => zek i, ext0 ha⟩
theorem zmx {a b : Int} (ha : Bits7 a) (hb : Bits7 b) : Bits7 (bor a b) := zmc (zut _ _) fun i h7 _ => by rw [tb_or, zhx ha h7, zhx hb h7]; rfl
theorem zln {a b : Int} (ha : Bits7 a) : Bits7 (bandn a b) := zmc (zw8 _ _) fun i h7 h => by rw [zwk _ _ _ h, zhx ha h7]; rfl
theorem tb_127 (i : Nat) : tb 127 i = decide (i < 7) := by
 by_cases h : i < 7
 ·rcases i with _ | _ | _ | _ | _ | _ | _ | i <;> first | rfl | omega
 ·rw [zhx (by unfold Bits7; omega) (by omega)]; simp [h]
theorem zbp {α : Type} {f : α → List PV} {l : List α} {i : Nat} (h : i < l.length) : (l.map f)[((i : Nat) : Int).toNat]? = some (f (l[i]'h)) := by
 simp [h]
theorem any_at {α : Type} {p : α → Bool} {l : List α} {i : Nat} (h : i < l.length) (hp : p (l[i]'h) = true) : l.any p = true := by
 rw [List.any_eq_true]; exact ⟨_, List.getElem_mem h, hp⟩
theorem zx3 {α : Type} {p : α → Bool} {l : List α} (h : ∀ j (hj : j < l.length), p (l[j]'hj) = false) : l.any p = false := by
 rw [List.any_eq_false]
 intro x hx
 obtain ⟨j, hj, rfl⟩ := List.getElem_of_mem hx
 simp [h j hj]
theorem w1 {i : Nat} (h : (i : Int) < 9223372036854775807) : IntKind.i64.wrap ((i : Int) + 1) = ((i + 1 : Nat) : Int) := by
 rw [zai (by omega) (by omega)]; rfl
noncomputable def Mg.inn (m : Mg) : List Mg := Classical.epsilon fun zs : List Mg => m.inner = zs.map Mg.enc ∧ ∀ z ∈ zs, z.ok
end Go.Proofs
namespace Go.Pv
theorem HRel.born {w0 : World} {X : Nat → Prop} {S0 : Base} {M : Mem} {B : BMap} {O : OMap} {w : World} (h : HRel w0 X S0 M B O w) (key sz : Nat) (hk : O key = none) :
    ∃ M', HRel w0 X S0 M' B (upd O [(key, some (false, sz, []))]) w ∧ M.Le M' w w ∧ ∃ L, M'.ob key = some L ∧ L.nil = true := by
 have hM : M.ob key = none := by
  cases e : M.ob key with
  | none => rfl
  | some L =>
   obtain ⟨o, ho⟩ := h.objKey key L e
   rw [hk] at ho; cases ho
 refine ⟨⟨M.st, M.bx, fun k => if k = key then some ⟨0, sz, 0, true⟩ else M.ob k⟩, ?_, ⟨fun _ h => h, fun _ _ h => h, ?_, fun _ _ => rfl⟩, ⟨0, sz, 0, true⟩, by simp, rfl⟩
 ·have hle : M.Le ⟨M.st, M.bx, fun k => if k = key then some ⟨0, sz, 0, true⟩ else M.ob k⟩ w w := ⟨fun _ h => h, fun _ _ h => h, fun k L hkL => by
    show (if k = key then _ else _) = _
    rw [if_neg (fun e => by rw [e, hM] at hkL; cases hkL)]; exact hkL, fun _ _ => rfl⟩
  refine ⟨h.os, h.tape, h.out, h.size, h.kept, h.stlt, h.stok, ?_, h.boxKey, ?_, ?_, h.boxNe, ?_, ?_, h.pinB, ?_⟩
  ·intro k ls hb
   obtain ⟨b, T, cs, h1, h2, h3, h4⟩ := h.box k ls hb
   exact ⟨b, T, cs, h1, h2, h3, RVL.mono hle _ _ h4⟩
  ·intro k fz s rows ho
   rw [za5] at ho
   by_cases e : k = key
   ·subst e
    rw [if_pos rfl] at ho
    cases ho
    exact ⟨⟨0, sz, 0, true⟩, by simp, rfl, .inl ⟨rfl, rfl⟩⟩
   ·rw [if_neg e] at ho
    obtain ⟨L, h1, h2, h3⟩ := h.obj k fz s rows ho
    exact ⟨L, by simp [e, h1], h2, h3⟩
  ·intro k L hL
   rw [za5]
   by_cases e : k = key
   ·rw [if_pos e]; exact ⟨_, rfl⟩
   ·rw [if_neg e]
    have hL' : M.ob k = some L := by simpa [e] using hL
    exact h.objKey k L hL'
  ·intro k k' o o' L L' ho ho' hL hL' hn hn'
   rw [za5] at ho ho'
   by_cases e : k = key
   ·subst e
    simp at hL
    subst hL
    cases hn
   ·by_cases e' : k' = key
    ·subst e'
     simp at hL'
     subst hL'
     cases hn'
    ·rw [if_neg e] at ho
     rw [if_neg e'] at ho'
     exact h.objNe k k' o o' L L' ho ho' (by simpa [e] using hL) (by simpa [e'] using hL') hn hn'
  ·intro k k' b o L hb ho hL hn
   rw [za5] at ho
   by_cases e' : k' = key
   ·subst e'
    simp at hL
    subst hL
    cases hn
   ·rw [if_neg e'] at ho
    exact h.boxObj k k' b o L hb ho (by simpa [e'] using hL) hn
  ·intro k L hp
   have := h.pinO k L hp
   exact hle.ob k L this
 ·intro k L hkL
  show (if k = key then _ else _) = _
  rw [if_neg (fun e => by rw [e, hM] at hkL; cases hkL)]; exact hkL
theorem sub_nl {M : Mem} {w : World} {v : Value} {sz : Nat} (h : RV M w .nl v) : RV M w (.sl sz []) v := by
 simp only [RV] at h ⊢
 obtain ⟨a, rfl⟩ := h
 exact ⟨a, 0, 0, rfl, rfl, Nat.le_refl _, .inl trivial⟩
theorem zky {P : Program} {f : Nat} {fn : Func} {e : Array Value → Sem Value} {args : List PV} {r : Value} (hf : P.funcs[f]? = some fn) (hname : (fn.name == "runtime.NumGoroutine") = false) (hb : fn.body.isNone = true) (hn : Extern.findNext fn = none) (he : Extern.find fn = some e)
    (h : ∀ (w : World) (M : Mem) (vs : List Value), RVL M w args vs → (e vs.toArray).run P w = .ok r w) : Ctr P f args (.sc r) [] := by
 refine ⟨?_⟩
 intro w st vs hst hv
 right
 refine ⟨r, w, ?_, r, zbu st, rfl, by simp [RV], ?_⟩
 ·rw [run_callFunc_extern hf hname hb hn he, h w _ vs hv]; rfl
 ·refine { os := rfl, tape := rfl, out := rfl, size := Nat.le_refl _, kept := fun _ _ _ => rfl, stlt := hst, stok := fun b hb => .inl hb, box := ?_, boxKey := ?_, obj := ?_, objKey := ?_, boxNe := ?_, objNe := ?_, boxObj := ?_, pinB := ?_, pinO := ?_ }
  ·intro k ls hk; cases hk
  ·intro k b hk; cases hk
  ·intro k a b c hk; simp [osMap] at hk
  ·intro k L hk; cases hk
  ·intro k k' b hk; cases hk
  ·intro k k' o o' L L' hk; simp [osMap] at hk
  ·intro k k' b o L hk; cases hk
  ·intro k b hk; cases hk
  ·intro k b hk; cases hk
theorem zb6 {c : CSt} {p r : PV} {os : List (Nat × List (List PV))} (rn : List (Nat × Nat)) (h1 : rnB rn ((osL 0 os).map (·.1)) = true) (h2 : wkOK rn c.ob [] (osL 0 os)) (h3 : WkV [] rn [] p r) : ExitOk c p r os := by
 refine ⟨.inl ⟨[], rn, ⟨by simp, ?_, ?_, ?_⟩, h3⟩⟩
 ·intro k o hk
  rcases zf1 h2 k o hk with e0 | ⟨k0, q, a, b, d, e⟩
  ·exact .inl e0
  ·exact .inr ⟨k0, q, a, b, d, by simp⟩
 ·intro k k0 hk
  simp only [rnB, Bool.and_eq_true, List.all_eq_true] at h1
  have := h1.1 _ (zgu hk)
  simp only [List.any_eq_true] at this
  obtain ⟨j, hj, e⟩ := this
  have e : j = k := by simpa using e
  subst e
  exact zhp hj
 ·intro k k' k0 hk hk'
  simp only [rnB, Bool.and_eq_true, List.all_eq_true] at h1
  have := h1.2 _ (zgu hk) _ (zgu hk')
  simpa using this
theorem zae {kb : List Nat} {rn : List (Nat × Nat)} {fz : List (Nat × Bool × Nat × List (List PV))} {ps qs : List PV} (h : wkLK kb rn fz qs ps) : WkV kb rn fz (.ag ps) (.ag qs) := by
 simp only [WkV]; exact ⟨ps, rfl, zdf _ _ _ _ _ h⟩
theorem zad {kb : List Nat} {rn : List (Nat × Nat)} {fz : List (Nat × Bool × Nat × List (List PV))} {ps qs : List PV} (h : wkLK kb rn fz qs ps) : WkV kb rn fz (.tu ps) (.tu qs) := by
 simp only [WkV]; exact ⟨ps, rfl, zdf _ _ _ _ _ h⟩
theorem zal {kb : List Nat} {rn : List (Nat × Nat)} {fz : List (Nat × Bool × Nat × List (List PV))} {f : Nat} {ps qs : List PV} (h : wkLK kb rn fz qs ps) : WkV kb rn fz (.cl f ps) (.cl f qs) := by
 simp only [WkV]; exact ⟨ps, rfl, zdf _ _ _ _ _ h⟩
theorem znr {kb : List Nat} {rn : List (Nat × Nat)} {fz : List (Nat × Bool × Nat × List (List PV))} {sz : Nat} {rows : List (List PV)} (h : rows.all (kbOkL kb) = true) : WkV kb rn fz (.ls sz rows) (.ls sz rows) := by
 simp only [WkV]; exact ⟨trivial, h⟩
theorem zaq {P : Program} {f : Nat} {ps qs : List PV} {r : PV} {os : List (Nat × List (List PV))} {K : PV → List (Nat × List (List PV)) → Prop} (h : Ctr P f qs r os) (e : ps = qs) (k : K r os) : ∃ r os, Ctr P f ps r os ∧ K r os := ⟨r, os, e ▸ h, k⟩
def fzL (n : Nat) : List (Nat × List (List PV)) → List (Nat × Bool × Nat × List (List PV))
 | [] => []
 | (sz, rows) :: os => (n, false, sz, rows) :: fzL (n + 1) os
theorem zvy : ∀ {os : List (Nat × List (List PV))} {n : Nat} {q : Nat × Bool × Nat × List (List PV)}, q ∈ fzL n os → n ≤ q.1 ∧ os[q.1 - n]? = some q.2.2 ∧ q.2.1 = false
 | [], n, q, h => by simp [fzL] at h
 | (sz, rows) :: os, n, q, h => by
  simp only [fzL, List.mem_cons] at h
  rcases h with rfl | h
  ·simp
  ·obtain ⟨h1, h2, h3⟩ := zvy h
   refine ⟨by omega, ?_, h3⟩
   rw [show q.1 - n = (q.1 - (n + 1)) + 1 by omega]; simpa using h2
theorem Ctr.frz {P : Program} {f : Nat} {args : List PV} {r r' : PV} {os : List (Nat × List (List PV))} (h : Ctr P f args r os) (hw : WkV [] [] (fzL 0 os) r r') : Ctr P f args r' [] := by
 refine ⟨?_⟩
 intro w st vs hst hvs
 have key : ∀ e w', (∃ v M', e = Ending.returned v ∧ RV M' w' r v ∧ HRel w (fun _ => False) (Base.of st) M' (fun _ => none) (osMap os) w') → ∃ v M', e = Ending.returned v ∧ RV M' w' r' v ∧ HRel w (fun _ => False) (Base.of st) M' (fun _ => none) (osMap []) w' := by
  rintro e w' ⟨v, M', he, hv, hr⟩
  have e1 : lkA (osL 0 os) = osMap os := by
   funext k
   rw [zma]
   simp only [Nat.zero_le, if_true, Nat.sub_zero, osMap]
   cases os[k]? <;> rfl
  have e2 : (lkA ([] : List (Nat × List PV))) = fun _ => none := by funext k; rfl
  rw [← e1, ← e2] at hr
  obtain ⟨M1, hle, hF, hnew⟩ := HRel.ren (c := ⟨[], [], osL 0 os⟩) (fz := fzL 0 os) (rn := []) (bx' := []) (ob' := []) hr (fun _ _ h => by cases h) (fun _ _ h => by cases h) ⟨(by
   intro q hq
   obtain ⟨h1, h2, h3⟩ := zvy hq
   show lkA (osL 0 os) q.1 = _
   rw [zma, if_pos h1, h2]
   simp only [Option.map_some, Option.some.injEq]
   rw [← h3]), by simp [lkA], by simp [lkA], by simp [lkA]⟩ (by simp [lkA])
  have e3 : lkA ([] : List (Nat × Option (Bool × Nat × List (List PV)))) = osMap [] := by funext k; simp [lkA, osMap]
  rw [e3, e2] at hnew
  exact ⟨v, _, he, WkV.sound hF _ _ _ hw (RV.mono hle _ _ hv), hnew⟩
 rcases h.run w st vs hst hvs with ⟨h1, h2⟩ | ⟨v, w', h1, h2⟩
 ·exact .inl ⟨h1, h2.mono fun e w' => key e w'⟩
 ·exact .inr ⟨v, w', h1, key _ _ h2⟩
theorem Tri.wk {P : Program} {code : Code} {Q : Exit → CSt → Prop} {c c' : CSt} (hw : Wk c c') (h : Tri P code Q c') : Tri P code Q c := by
 refine ⟨?_⟩
 intro w0 X S0 M a w hr
 obtain ⟨M', hr'⟩ := hw w0 X S0 M a w hr
 exact h.run w0 X S0 M' a w hr'
theorem ztd {c : CSt} (slot K sz : Nat) (hs : c.tm.getD slot .bad = .nl) (hK : lkA c.ob K = none) : Wk c ⟨c.tm.set slot (.ow K 0 0), c.bx, (K, some (false, sz, [])) :: c.ob⟩ := by
 intro w0 X S0 M a w hr
 obtain ⟨M', hnew, hle, hob⟩ := hr.toHRel.addObj (k := K) hK ⟨0, sz, 0, true⟩ (rows := []) (.inl ⟨rfl, rfl⟩) (fun _ _ _ h => by cases h) (fun _ _ _ _ _ _ h => by cases h)
 have e : upd (lkA c.ob) [(K, some (false, sz, []))] = lkA ((K, some (false, sz, [])) :: c.ob) := by
  funext j
  rw [za5]
  simp only [lkA]
  by_cases ej : j = K
  ·subst ej; simp
  ·rw [if_neg ej, zbo (fun x => ej x.symm)]; rfl
 refine ⟨M', ?_, hr.dfr, ?_, ?_⟩
 ·have h2 : HRel w0 X S0 M' (lkA c.bx) (upd (lkA c.ob) [(K, some (false, sz, []))]) w := hnew
  rw [e] at h2
  exact h2
 ·have := hr.len
  simpa [CSt.st] using this
 ·intro t
  have ht := RV.mono hle _ _ (hr.tmp t)
  by_cases et : slot = t
  ·subst et
   have hs' : c.st.tmps.getD slot .bad = .nl := hs
   rw [hs'] at ht
   simp only [RV] at ht
   obtain ⟨ad, hv⟩ := ht
   by_cases hlt : slot < c.tm.length
   ·have e2 : (c.tm.set slot (.ow K 0 0)).getD slot .bad = .ow K 0 0 := by simp [List.getD, hlt]
    show RV M' w ((c.tm.set slot (.ow K 0 0)).getD slot .bad) _
    rw [e2]
    simp only [RV]
    exact ⟨_, hob, .inl ⟨rfl, rfl, ad, hv⟩⟩
   ·rw [List.getD_eq_getElem?_getD, List.getElem?_eq_none (by omega)] at hs
    cases hs
  ·show RV M' w ((c.tm.set slot (.ow K 0 0)).getD t .bad) _
   rw [List.getD_eq_getElem?_getD, List.getElem?_set_ne et, ← List.getD_eq_getElem?_getD]
   exact ht
theorem ze8 {P : Program} {code : Code} {Q : Exit → CSt → Prop} {tm : List PV} {bx : List (Nat × List PV)} {ob : List (Nat × Option (Bool × Nat × List (List PV)))} (slot K sz : Nat) (hs : lkK .bad tm slot fun p => p = .nl) (hK : lkA ob K = none) (h : stK tm slot (.ow K 0 0) fun tm' => Tri P code Q ⟨tm', bx, (K, some (false, sz, [])) :: ob⟩) : Tri P code Q ⟨tm, bx, ob⟩ := by
 rw [zla] at hs
 rw [zlw] at h
 exact Tri.wk (ztd slot K sz hs hK) h
theorem wk_w1 {i : Nat} (h : (i : Int) < 9223372036854775807) : IntKind.i64.wrap ((i : Int) + 1) = ((i + 1 : Nat) : Int) := by
 simp [IntKind.wrap, IntKind.signed, IntKind.bits]
 omega
theorem wk_obj {b : Bool} {sz sz' : Nat} {r r' : List (List PV)} (h : sz = sz') (h2 : r = r') : (b, sz, r) = (b, sz', r') := by subst h; subst h2; rfl
theorem wk_app {α : Type} {f : α → List PV} {l : List α} {n : Nat} {x : List PV} (hn : n = (l.map f).length) (y : α) (hx : x = f y) : (l.map f).take n ++ [x] = (l ++ [y]).map f := by
 subst hn; subst hx; simp [List.take_of_length_le]
theorem wkx {A C : Prop} {B : Nat × Bool × Nat × List (List PV) → Prop} (c : C) (a : A := by with_unfolding_all rfl) (b : ∀ q ∈ ([] : List (Nat × Bool × Nat × List (List PV))), B q := by intro q h; cases h) : (A ∧ ∀ q ∈ ([] : List (Nat × Bool × Nat × List (List PV))), B q) ∧ C := ⟨⟨a, b⟩, c⟩
theorem wkc {p : Prop} (h : p := by first | exact True.intro | with_reducible exact rfl | exact (rfl : List.replicate 0 PV.bad = [])) : p := h
theorem wks {p : Prop} (h : p := by first | with_reducible exact zaf _ rfl | exact zne rfl rfl | exact zb8 rfl rfl rfl | exact znr rfl) : p := h
theorem wko {kb : List Nat} {rn : List (Nat × Nat)} {fz : List (Nat × Bool × Nat × List (List PV))} {k k0 lo len lo' len' : Nat} (e2 : len = len') (h : lkA rn k = some k0 := by exact rfl) (e1 : lo = lo' := by exact rfl) : WkV kb rn fz (.ow k0 lo len) (.ow k lo' len') := zb8 h e1 e2
theorem wki {kb : List Nat} {rn : List (Nat × Nat)} {fz : List (Nat × Bool × Nat × List (List PV))} {a b : Int} (h : a = b) : WkV kb rn fz (.sc (.int .i64 a)) (.sc (.int .i64 b)) := zgh (congrArg (Value.int .i64) h)
theorem wkb {kb : List Nat} {rn : List (Nat × Nat)} {fz : List (Nat × Bool × Nat × List (List PV))} {a b : Bool} (h : a = b) : WkV kb rn fz (.sc (.bool a)) (.sc (.bool b)) := zgh (congrArg Value.bool h)
theorem agD {p : Prop} (h : p := by (conv => whnf); repeat' (first | exact rfl | ((with_reducible refine And.intro ?_ ?_) <;> (first | (with_reducible exact zaf _ rfl) | exact .inl rfl | (conv => whnf))))) : p := h
theorem tNew0 {α : Type} {x : α} {A B C K : α → Prop} (k : K x) (a : A x := by exact rfl) (b : B x := by intro q _; simp only [List.length_nil]; omega) (c : C x := by intro i hi; exact absurd hi (Nat.not_lt_zero i)) : ∃ x, A x ∧ B x ∧ C x ∧ K x := ⟨x, a, b, c, k⟩
theorem tOwn0 {A B : Prop} (b : B) (a : A := by first | with_reducible exact Nat.le_of_eq (Nat.zero_add _) | (simp only [List.length_map, List.length_set, Nat.zero_add]; omega)) : A ∧ B := ⟨a, b⟩
theorem wkD {p : Prop} (h : p := by (refine And.intro (And.intro (by with_unfolding_all rfl) (by intro q h; cases h)) ?_; refine And.intro ?_ (And.intro ?_ ?_) <;> (conv => whnf) <;> (repeat' (first | exact True.intro | (with_reducible exact rfl) | exact (rfl : List.replicate 0 PV.bad = []) | ((with_reducible refine And.intro ?_ ?_) <;> (first | (with_reducible exact zaf _ rfl) | exact zne rfl rfl | exact zb8 rfl rfl rfl | (refine zb8 rfl rfl ?_) | (refine zgh (congrArg (Value.int .i64) ?_)) | (refine zgh (congrArg Value.bool ?_)) | exact znr rfl | ((refine zal ?_); conv => whnf) | ((refine zad ?_); conv => whnf) | ((refine zae ?_); conv => whnf) | (conv => whnf)))))); all_goals first | rfl | exact .inl rfl | exact wk_w1 (by omega) | exact .inr (.inl ⟨rfl, rfl⟩) | exact .head _ | exact .tail _ (.head _) | (refine wk_obj (by kernel_rfl) ?_; exact wk_app rfl _ rfl) | (simp only [List.map_append, List.length_append]; rfl) | (simp; done)) : p := h
end Go.Pv
namespace Go.Proofs
open Go.Pv
set_option maxRecDepth 100000
def cnt (b : Int) : Nat → Int
 | 0 => 0
 | n + 1 => cnt b n + nb (tb b n)
def count (b : Int) : Int := cnt b 7
theorem zq3 (b : Int) : ∀ n, 0 ≤ cnt b n ∧ cnt b n ≤ n
 | 0 => by simp [cnt]
 | n + 1 => by
  have := zq3 b n
  simp only [cnt]
  rcases zg2 (tb b n) with h | h <;> rw [h] <;> omega
theorem zrw (b : Int) : 0 ≤ count b ∧ count b ≤ 7 := zq3 b 7
theorem zcv (b : Int) (i : Nat) (hi : i < 64) : hasB b i = tb b i := by
 unfold hasB
 rw [zb1 (by omega) (by omega), bit_shr b i hi]
 cases tb b i <;> rfl
theorem z0i (b : Int) : Ctr Tryz.prog 17 [iv b] (iv (count b)) [] := by
 refine sBody Tryz.func17 ?_; conv => whnf
 refine zbw mixed (by kernel_rfl) (fun i : Nat => i ≤ 7) (fun i => [(4, iv i), (3, iv (cnt b i))]) [] (fun i => 7 - i) 0 (by decide) ?_ ?_
 ·conv => whnf
  exact wkD
 ·intro i hi
  conv => whnf
  repeat' (first | (refine tSp (fun h => ?_) (fun h => ?_) <;> conv => whnf) | ((try (refine Exists.intro none ?_; conv => whnf)); (with_reducible refine zaa (c_Has _ _) ?_); conv => whnf))
  ·refine ⟨i + 1, by omega, ?_⟩
   conv => whnf
   rename_i h1
   rw [zcv b i (by omega)] at h
   have := zq3 b i
   (refine wkx ?_; refine ⟨?_, ?_, ?_⟩ <;> (conv => whnf) <;> repeat' first | exact wkc | (with_reducible refine And.intro ?_ ?_) <;> first | exact wks | refine wko ?_ | refine wki ?_ | refine wkb ?_ | (refine zal ?_; conv => whnf) | (refine zad ?_; conv => whnf) | (refine zae ?_; conv => whnf) | conv => whnf)
   ·simp only [cnt, h, nb_true]; exact zai (by omega) (by omega)
   ·rw [zai (by omega) (by omega)]; rfl
  ·refine ⟨i + 1, by omega, ?_⟩
   conv => whnf
   rename_i h1
   rw [zcv b i (by omega)] at h
   (refine wkx ?_; refine ⟨?_, ?_, ?_⟩ <;> (conv => whnf) <;> repeat' first | exact wkc | (with_reducible refine And.intro ?_ ?_) <;> first | exact wks | refine wko ?_ | refine wki ?_ | refine wkb ?_ | (refine zal ?_; conv => whnf) | (refine zad ?_; conv => whnf) | (refine zae ?_; conv => whnf) | conv => whnf)
   ·simp [cnt, h]
   ·rw [zai (by omega) (by omega)]; rfl
  ·have : i = 7 := by omega
   subst this
   exact zab rfl rfl
noncomputable def zr0 (c : Conf) : Int :=
 if c.full < 0 ∨ 127 < c.full ∨ band c.full 0 ≠ 0 then 14 else
 if c.wit < 0 ∨ 127 < c.wit ∨ band c.wit (bor 0 c.full) ≠ 0 then 14 else
 if c.learn < 0 ∨ 127 < c.learn ∨ band c.learn (bor (bor 0 c.full) c.wit) ≠ 0 then 14 else
 if c.lwit < 0 ∨ 127 < c.lwit ∨ band c.lwit (bor (bor (bor 0 c.full) c.wit) c.learn) ≠ 0 then 14 else
 if c.full = 0 then 14 else 0
theorem zx4 (c : Conf) : Ctr Tryz.prog 71 [.ag c.enc] (iv (zr0 c)) [] := by
 refine sBody Tryz.func71 ?_; conv => whnf
 refine zh3 mixed (by kernel_rfl) 5 ?_
 conv => whnf
 repeat' (first | (refine tSp (fun h => ?_) (fun h => ?_) <;> conv => whnf) | ((with_reducible refine And.intro (by with_unfolding_all decide) ?_); refine Exists.intro _ (And.intro (by with_unfolding_all rfl) ?_); conv => whnf))
 all_goals (refine zab rfl ?_)
 all_goals simp [zr0, band, bor, *]
structure Cok (c : Conf) : Prop where
 f : Bits7 c.full
 w : Bits7 c.wit
 l : Bits7 c.learn
 x : Bits7 c.lwit
 ne : c.full ≠ 0
 fw : ∀ i : Nat, (tb c.full i && tb c.wit i) = false
 fl : ∀ i : Nat, (tb c.full i && tb c.learn i) = false
 wl : ∀ i : Nat, (tb c.wit i && tb c.learn i) = false
 fx : ∀ i : Nat, (tb c.full i && tb c.lwit i) = false
 wx : ∀ i : Nat, (tb c.wit i && tb c.lwit i) = false
 lx : ∀ i : Nat, (tb c.learn i && tb c.lwit i) = false
theorem and0 {a b : Int} : band a b = 0 ↔ ∀ i : Nat, (tb a i && tb b i) = false := by
 rw [eq0_iff (zdv a b)]
 constructor
 ·intro h i
  by_cases hi : i < 64
  ·rw [← zdd]; exact h i hi
  ·rw [show tb a i = false from BitVec.getLsbD_of_ge _ _ (by omega)]; rfl
 ·intro h i _
  rw [zdd]; exact h i
theorem zcf (c : Conf) : confB c = true ↔ Cok c := by
 unfold confB
 simp only [Bool.and_eq_true, zaj, decide_eq_true_eq, bne_iff_ne, beq_iff_eq, and0]
 constructor
 ·rintro ⟨h1, h2, h3, h4, h5, h6, h7, h9⟩
  refine ⟨h1, h2, h3, h4, h5, h6, ?_, ?_, ?_, ?_, ?_⟩ <;> intro i <;> have h7 := h7 i <;> have h9 := h9 i <;> rw [tb_or] at h7 <;> rw [tb_or, tb_or] at h9 <;> revert h7 h9 <;> cases tb c.full i <;> cases tb c.wit i <;> cases tb c.learn i <;> cases tb c.lwit i <;> simp
 ·rintro ⟨h1, h2, h3, h4, h5, h6, h7, h8, h9, h10, h11⟩
  refine ⟨h1, h2, h3, h4, h5, h6, ?_, ?_⟩ <;> intro i <;> simp only [tb_or] <;> have h7 := h7 i <;> have h8 := h8 i <;> have h9 := h9 i <;> have h10 := h10 i <;> have h11 := h11 i <;> revert h7 h8 h9 h10 h11 <;> cases tb c.full i <;> cases tb c.wit i <;> cases tb c.learn i <;> cases tb c.lwit i <;> simp
theorem zwb (c : Conf) : zr0 c = if confB c then 0 else 14 := by
 have hc : ∀ a b : Int, band a b = band b a := by
  intro a b
  exact ext64 (zdv _ _) (zdv _ _) fun i _ => by rw [zdd, zdd, Bool.and_comm]
 have h0 : ∀ a : Int, band a 0 = 0 := by
  intro a; rw [and0]; intro i; simp [zek]
 have ho : ∀ a x : Int, band a (bor 0 x) = band x a := by
  intro a x
  exact ext64 (zdv _ _) (zdv _ _) fun i _ => by rw [zdd, zdd, tb_or, zek, Bool.false_or, Bool.and_comm]
 have ho2 : ∀ a x y : Int, band a (bor (bor 0 x) y) = band (bor x y) a := by
  intro a x y
  exact ext64 (zdv _ _) (zdv _ _) fun i _ => by simp only [zdd, tb_or, zek, Bool.false_or]; rw [Bool.and_comm]
 have ho3 : ∀ a x y z : Int, band a (bor (bor (bor 0 x) y) z) = band (bor (bor x y) z) a := by
  intro a x y z
  exact ext64 (zdv _ _) (zdv _ _) fun i _ => by simp only [zdd, tb_or, zek, Bool.false_or]; rw [Bool.and_comm]
 unfold zr0
 simp only [h0, ho, ho2, ho3]
 by_cases h : confB c = true
 ·rw [if_pos h]
  unfold confB at h
  simp only [Bool.and_eq_true, zaj, decide_eq_true_eq, bne_iff_ne, beq_iff_eq] at h
  obtain ⟨h1, h2, h3, h4, h5, h6, h7, h8⟩ := h
  rw [if_neg (by omega), if_neg (by omega), if_neg (by omega), if_neg (by omega), if_neg h5]
 ·rw [if_neg h]
  unfold confB at h
  simp only [Bool.and_eq_true, zaj, decide_eq_true_eq, bne_iff_ne, beq_iff_eq] at h
  repeat' split
  all_goals first | rfl | skip
  exfalso; apply h
  refine ⟨?_, ?_, ?_, ?_, ?_, ?_, ?_, ?_⟩ <;> omega
theorem zj0 (c : Conf) : Ctr Tryz.prog 71 [.ag c.enc] (iv (if confB c then 0 else 14)) [] := by
 rw [← zwb]; exact zx4 c
theorem zje (c : Conf) : Ctr Tryz.prog 18 [.ag c.enc] (iv (bor c.full c.wit)) [] := by
 refine sBody Tryz.func18 ?_; conv => whnf
 exact zab rfl rfl
theorem c_All (c : Conf) : Ctr Tryz.prog 113 [.ag c.enc] (iv (bor (bor (bor c.full c.wit) c.learn) c.lwit)) [] := by
 refine sBody Tryz.func113 ?_; conv => whnf
 exact zab rfl rfl
noncomputable def za0 (c : Conf) (b : Int) : Bool := decide (count (bor c.full c.wit) < 2 * count (band (bor c.full c.wit) b))
theorem zg3 (c : Conf) (b : Int) : Ctr Tryz.prog 155 [.ag c.enc, iv b] (bv (za0 c b)) [] := by
 refine sBody Tryz.func155 ?_; conv => whnf
 repeat' (first | ((try ((refine Exists.intro none ?_); (conv => whnf))); first | ((with_reducible refine zaa (zje c) ?_); conv => whnf) | ((with_reducible refine zaa (z0i _) ?_); conv => whnf)) | ((with_reducible refine And.intro (And.intro (by first | decide | omega) (by first | decide | omega)) ?_); conv => whnf))
 refine zab rfl ?_
 have h1 := zrw (bor c.full c.wit)
 have h2 := zrw (band (bor c.full c.wit) b)
 have e1 : ∀ x y : Int, (∀ i, i < 7 → tb x i = tb y i) → count x = count y := by
  intro x y h
  simp only [count, cnt, h 0 (by decide), h 1 (by decide), h 2 (by decide), h 3 (by decide), h 4 (by decide), h 5 (by decide), h 6 (by decide)]
 show bv (decide (count (band (bor c.full c.wit) 127) < w64 (2 * count (band (band (bor c.full c.wit) 127) b)))) = _
 rw [e1 (band (bor c.full c.wit) 127) (bor c.full c.wit) (fun i hi => by rw [zdd, tb_127]; simp [hi]),
  e1 (band (band (bor c.full c.wit) 127) b) (band (bor c.full c.wit) b) (fun i hi => by rw [zdd, zdd, zdd, tb_127]; simp [hi])]
 rw [show w64 (2 * count (band (bor c.full c.wit) b)) = 2 * count (band (bor c.full c.wit) b) from zai (by omega) (by omega)]
 rfl
theorem c_node (i : Int) : Ctr Tryz.prog 180 [iv i] (bv (zaj i 0 6)) [] := by
 refine sBody Tryz.func180 ?_; conv => whnf
 repeat' (refine tSp (fun h => ?_) (fun h => ?_) <;> conv => whnf)
 all_goals (refine zab rfl (congrArg (fun b : Bool => bv b) ?_); simp only [zaj])
 ·rw [decide_eq_true h, Bool.true_and]; exact decide_eq_decide.2 (by omega)
 ·rw [decide_eq_false (by omega)]; rfl
noncomputable def zdu (c : Conf) (i : Int) : Int := if confB c then (if zaj i 0 6 then 0 else 1) else 14
theorem zpb (c : Conf) (i : Int) : Ctr Tryz.prog 195 [.ag c.enc, iv i] (iv (zdu c i)) [] := by
 refine sBody Tryz.func195 ?_; conv => whnf
 ((try (refine Exists.intro none ?_; conv => whnf)); (with_reducible refine zaa (zj0 c) ?_); conv => whnf)
 cases hc : confB c
 ·simp only [Bool.false_eq_true, if_false]
  conv => whnf
  exact zab rfl (by simp [zdu, hc])
 ·simp only [if_true]
  conv => whnf
  ((try (refine Exists.intro none ?_; conv => whnf)); (with_reducible refine zaa (c_node _) ?_); conv => whnf)
  (refine tSp (fun h => ?_) (fun h => ?_) <;> conv => whnf)
  ·exact zab rfl (by simp [zdu, hc, h])
  ·exact zab rfl (by simp [zdu, hc, h])
abbrev cz : Conf := ⟨0, 0, 0, 0⟩
noncomputable def zct (c : Conf) : Conf × Int := if confB c then (c, 0) else (cz, 14)
abbrev cev (x : Conf × Int) : PV := .tu [.ag x.1.enc, iv x.2]
theorem zfm (c : Conf) : Ctr Tryz.prog 196 [.ag c.enc] (cev (zct c)) [] := by
 refine sBody Tryz.func196 ?_; conv => whnf
 ((try (refine Exists.intro none ?_; conv => whnf)); (with_reducible refine zaa (zj0 c) ?_); conv => whnf)
 cases hc : confB c
 ·simp only [Bool.false_eq_true, if_false]
  conv => whnf
  exact zab rfl (by simp [zct, hc])
 ·simp only [if_true]
  conv => whnf
  exact zab rfl (by simp [zct, hc])
noncomputable def allB (c : Conf) : Int := bor (bor (bor c.full c.wit) c.learn) c.lwit
noncomputable def zed (c : Conf) (i : Int) (wit : Bool) : Conf × Int :=
 if zdu c i = 0 then
  if band (allB c) (shl 1 i) = 0 then (if wit then zct ⟨c.full, c.wit, c.learn, bor c.lwit (shl 1 i)⟩ else zct ⟨c.full, c.wit, bor c.learn (shl 1 i), c.lwit⟩) else (cz, 14)
 else (cz, zdu c i)
theorem zi2 {c : Conf} {i : Int} (h : zdu c i = 0) : confB c = true ∧ 0 ≤ i ∧ i < 7 := by
 unfold zdu at h
 cases hc : confB c <;> simp [hc] at h
 simp [zaj] at h; exact ⟨rfl, by omega⟩
theorem zwj (c : Conf) (i : Int) (wit : Bool) : Ctr Tryz.prog 143 [.ag c.enc, iv i, bv wit] (cev (zed c i wit)) [] := by
 refine sBody Tryz.func143 ?_; conv => whnf
 ((try (refine Exists.intro none ?_; conv => whnf)); (with_reducible refine zaa (zpb c _) ?_); conv => whnf)
 (refine tSp (fun h => ?_) (fun h => ?_) <;> conv => whnf)
 ·exact zab rfl (by simp [zed, allB, band, bor, bandn, shl, *])
 ·have hw := zi2 h
  ((with_reducible refine And.intro (And.intro (by first | decide | omega) (by first | decide | omega)) ?_); conv => whnf)
  ((try (refine Exists.intro none ?_; conv => whnf)); (with_reducible refine zaa (c_All c) ?_); conv => whnf)
  (refine tSp (fun h => ?_) (fun h => ?_) <;> conv => whnf)
  ·exact zab rfl (by simp [zed, allB, band, bor, bandn, shl, *])
  ·(refine tSp (fun h => ?_) (fun h => ?_) <;> conv => whnf)
   ·((try (refine Exists.intro none ?_; conv => whnf)); (with_reducible refine zaa (zfm ⟨c.full, c.wit, c.learn, bor c.lwit (shl 1 i)⟩) ?_); conv => whnf)
    exact zab rfl (by simp [zed, allB, band, bor, bandn, shl, *])
   ·((try (refine Exists.intro none ?_; conv => whnf)); (with_reducible refine zaa (zfm ⟨c.full, c.wit, bor c.learn (shl 1 i), c.lwit⟩) ?_); conv => whnf)
    exact zab rfl (by simp [zed, allB, band, bor, bandn, shl, *])
noncomputable def zdk (c : Conf) (i : Int) : Conf × Int :=
 if zdu c i = 0 then
  if band c.learn (shl 1 i) = 0 then (if band c.lwit (shl 1 i) = 0 then (cz, 14) else zct ⟨c.full, bor c.wit (shl 1 i), c.learn, bandn c.lwit (shl 1 i)⟩)
  else zct ⟨bor c.full (shl 1 i), c.wit, bandn c.learn (shl 1 i), c.lwit⟩
 else (cz, zdu c i)
theorem zxl (c : Conf) (i : Int) : Ctr Tryz.prog 146 [.ag c.enc, iv i] (cev (zdk c i)) [] := by
 refine sBody Tryz.func146 ?_; conv => whnf
 ((try (refine Exists.intro none ?_; conv => whnf)); (with_reducible refine zaa (zpb c _) ?_); conv => whnf)
 (refine tSp (fun h => ?_) (fun h => ?_) <;> conv => whnf)
 ·exact zab rfl (by simp [zdk, allB, band, bor, bandn, shl, *])
 ·have hw := zi2 h
  ((with_reducible refine And.intro (And.intro (by first | decide | omega) (by first | decide | omega)) ?_); conv => whnf)
  (refine tSp (fun h => ?_) (fun h => ?_) <;> conv => whnf)
  ·((try (refine Exists.intro none ?_; conv => whnf)); (with_reducible refine zaa (zfm ⟨bor c.full (shl 1 i), c.wit, bandn c.learn (shl 1 i), c.lwit⟩) ?_); conv => whnf)
   exact zab rfl (by simp [zdk, allB, band, bor, bandn, shl, *])
  ·(refine tSp (fun h => ?_) (fun h => ?_) <;> conv => whnf)
   ·((try (refine Exists.intro none ?_; conv => whnf)); (with_reducible refine zaa (zfm ⟨c.full, bor c.wit (shl 1 i), c.learn, bandn c.lwit (shl 1 i)⟩) ?_); conv => whnf)
    exact zab rfl (by simp [zdk, allB, band, bor, bandn, shl, *])
   ·exact zab rfl (by simp [zdk, allB, band, bor, bandn, shl, *])
noncomputable def zex (c : Conf) (i : Int) : Conf × Int :=
 if zdu c i = 0 then
  if band (allB c) (shl 1 i) = 0 then (cz, 14) else zct ⟨bandn c.full (shl 1 i), bandn c.wit (shl 1 i), bandn c.learn (shl 1 i), bandn c.lwit (shl 1 i)⟩
 else (cz, zdu c i)
theorem z0l (c : Conf) (i : Int) : Ctr Tryz.prog 148 [.ag c.enc, iv i] (cev (zex c i)) [] := by
 refine sBody Tryz.func148 ?_; conv => whnf
 ((try (refine Exists.intro none ?_; conv => whnf)); (with_reducible refine zaa (zpb c _) ?_); conv => whnf)
 (refine tSp (fun h => ?_) (fun h => ?_) <;> conv => whnf)
 ·exact zab rfl (by simp [zex, allB, band, bor, bandn, shl, *])
 ·have hw := zi2 h
  ((with_reducible refine And.intro (And.intro (by first | decide | omega) (by first | decide | omega)) ?_); conv => whnf)
  ((try (refine Exists.intro none ?_; conv => whnf)); (with_reducible refine zaa (c_All c) ?_); conv => whnf)
  (refine tSp (fun h => ?_) (fun h => ?_) <;> conv => whnf)
  ·exact zab rfl (by simp [zex, allB, band, bor, bandn, shl, *])
  ·((try (refine Exists.intro none ?_; conv => whnf)); (with_reducible refine zaa (zfm ⟨bandn c.full (shl 1 i), bandn c.wit (shl 1 i), bandn c.learn (shl 1 i), bandn c.lwit (shl 1 i)⟩) ?_); conv => whnf)
   exact zab rfl (by simp [zex, allB, band, bor, bandn, shl, *])
noncomputable def kindR (c : Conf) (i : Int) : ByteArray :=
 if zaj i 0 6 then (if band c.full (shl 1 i) ≠ 0 then sFull else if band c.wit (shl 1 i) ≠ 0 then sWit else if band c.learn (shl 1 i) ≠ 0 then zlc else if band c.lwit (shl 1 i) ≠ 0 then sLwit else sE) else sE
theorem ziq {x : Int} {n : Nat} (hn : n < 7) : band x (shl 1 n) = 0 ↔ tb x n = false := by
 rw [and0]
 constructor
 ·intro h; have := h n; rw [zec n n (by omega)] at this; simpa using this
 ·intro h j
  rw [zec n j (by omega)]
  by_cases e : n = j
  ·subst e; rw [h]; rfl
  ·simp [e]
theorem zvz {x y : Int} (h : ∀ i, i < 7 → tb x i = tb y i) : count x = count y := by
 simp only [count, cnt, h 0 (by decide), h 1 (by decide), h 2 (by decide), h 3 (by decide), h 4 (by decide), h 5 (by decide), h 6 (by decide)]
theorem ziy {x y z : Int} : ∀ n, (∀ i, i < n → nb (tb x i) + nb (tb y i) ≤ nb (tb z i)) → cnt x n + cnt y n ≤ cnt z n
 | 0, _ => by simp [cnt]
 | n + 1, h => by
  have := ziy (x := x) (y := y) (z := z) n fun i hi => h i (by omega)
  have := h n (by omega)
  simp only [cnt]; omega
theorem zwo {x : Int} : ∀ n i, i < n → tb x i = true → 0 < cnt x n
 | 0, i, h, _ => by omega
 | n + 1, i, h, hb => by
  simp only [cnt]
  by_cases e : i = n
  ·subst e; rw [hb]; have := zq3 x i; simp; omega
  ·have := zwo n i (by omega) hb
   rcases zg2 (tb x n) with e | e <;> omega
noncomputable abbrev zdb (c : Conf) : Int := bor c.full c.wit
theorem Cok.some {c : Conf} (h : Cok c) : ∃ i, i < 7 ∧ tb c.full i = true := by
 apply Classical.byContradiction
 intro hn
 apply h.ne
 refine ext7 h.f (by unfold Bits7; omega) fun i hi => ?_
 rw [zek]
 cases hb : tb c.full i
 ·rfl
 ·exact absurd ⟨i, hi, hb⟩ hn
theorem Cok.pos {c : Conf} (h : Cok c) : 0 < count (zdb c) := by
 obtain ⟨i, hi, hb⟩ := h.some
 exact zwo 7 i hi (by rw [tb_or, hb]; rfl)
theorem zk1 {c : Conf} {b : Int} : za0 c b = true ↔ count (zdb c) < 2 * count (band (zdb c) b) := by simp [za0]
theorem zo2 {c : Conf} {a b : Int} (ha : za0 c a = true) (hb : za0 c b = true) : ∃ i, i < 7 ∧ tb (zdb c) i = true ∧ tb a i = true ∧ tb b i = true := by
 apply Classical.byContradiction
 intro hn
 rw [zk1] at ha hb
 have := ziy (x := band (zdb c) a) (y := band (zdb c) b) (z := zdb c) 7 (by
  intro i hi
  rw [zdd, zdd]
  have : ¬ (tb (zdb c) i = true ∧ tb a i = true ∧ tb b i = true) := fun h => hn ⟨i, hi, h⟩
  revert this
  cases tb (zdb c) i <;> cases tb a i <;> cases tb b i <;> simp)
 unfold count at *
 omega
end Go.Proofs
