/- PlaceScores: a score is no NaN; a greater cost makes no lesser one. -/
import Derived.Test.YtjgcblmkejnijaaD8
import Derived.Test.YtjgcblmkejnijaaPvZ2
set_option linter.unusedSimpArgs false
set_option linter.unusedVariables false
namespace Go.Proofs
open Go.Pv
set_option maxRecDepth 100000

def infB (x : Nat) : Bool := match Ieee.double.read x with
  | .infinity _ => true
  | _ => false
theorem abs_word (x : Nat) (h : x < 18446744073709551616) : (iandn .u64 (x : Int) 9223372036854775808).toNat = x % 9223372036854775808 := by
  rw [iandn_eq]
  have e : (BitVec.ofInt 64 (x : Int) &&& ~~~ BitVec.ofInt 64 9223372036854775808).toNat = x % 9223372036854775808 := by
    have h1 : (BitVec.ofInt 64 (x : Int)) = BitVec.ofNat 64 x := by
      apply BitVec.eq_of_toNat_eq
      simp
    rw [h1]
    have h2 : ~~~ BitVec.ofInt 64 9223372036854775808 = BitVec.ofNat 64 9223372036854775807 := by decide
    rw [h2, BitVec.toNat_and, BitVec.toNat_ofNat, BitVec.toNat_ofNat]
    rw [show 9223372036854775807 % 2 ^ 64 = 2 ^ 63 - 1 by decide, Nat.and_two_pow_sub_one_eq_mod]
    omega
  show (IntKind.u64.wrap ((BitVec.ofInt 64 (x : Int) &&& ~~~ BitVec.ofInt 64 9223372036854775808).toNat : Int)).toNat = _
  rw [e]
  simp [IntKind.wrap, IntKind.signed, IntKind.bits]
  omega
theorem c_Abs (x : Nat) (h : x < 18446744073709551616) : Ctr Try.prog 66 [.sc (.float .f64 x)] (.sc (.float .f64 (x % 9223372036854775808))) [] := by
  have e := abs_word x h
  have hp : 0 ≤ iandn .u64 (x : Int) 9223372036854775808 := by
    rw [iandn_eq]
    simp [IntKind.wrap, IntKind.signed, IntKind.bits]
    omega
  refine spec_of_body mixed Try.func66 rfl (by kernel_rfl) (by kernel_rfl) ?_; conv => whnf
  ((try ((refine Exists.intro none ?_); (conv => whnf))); first | ((with_reducible refine call_by (c_bits14 x) ?_); conv => whnf))
  ((try ((refine Exists.intro none ?_); (conv => whnf))); first | ((with_reducible refine call_by (c_fbits _ hp) ?_); conv => whnf))
  exact exit_plain rfl (by rw [e])
theorem read_abs (x : Nat) : (Ieee.double.read (x % 9223372036854775808)) = (match Ieee.double.read x with | .number _ m i => .number false m i | .infinity _ => .infinity false | .nan _ t => .nan false t) := by
  unfold Ieee.Format.read
  have e1 : x % 9223372036854775808 % Ieee.double.signWeight = x % Ieee.double.signWeight := by
    rw [d_sign, show (2 : Nat) ^ 63 = 9223372036854775808 by decide, Nat.mod_mod]
  have e2 : x % 9223372036854775808 / Ieee.double.signWeight % 2 = 0 := by
    rw [d_sign, show (2 : Nat) ^ 63 = 9223372036854775808 by decide]; omega
  simp only [e1, e2]
  split
  · rfl
  · split
    · rfl
    · split <;> rfl
theorem max_read : Ieee.double.read 9218868437227405311 = .number false 9007199254740991 971 := by
  have := read_word false 9218868437227405311 (by decide)
  rw [if_neg (by decide), if_pos (by decide)] at this
  exact this
theorem signed_le {m n a b : Nat} (h : m ≤ n) (hab : a ≤ b) : Ieee.signed false m a ≤ Ieee.signed false n b := by
  unfold Ieee.signed
  rw [if_neg (by decide), if_neg (by decide), Nat.shiftLeft_eq, Nat.shiftLeft_eq]
  exact Int.ofNat_le.2 (Nat.mul_le_mul h (two_le hab))
theorem gt_max (x : Nat) : (FloatKind.f64.format.order (x % 9223372036854775808) 9218868437227405311 == some .gt) = infB x := by
  have hr := read_abs x
  have hn : fnanB 9218868437227405311 = false := by unfold fnanB; rw [max_read]; rfl
  unfold infB
  cases hx : Ieee.double.read x with
  | nan s t =>
    rw [hx] at hr
    have : fnanB (x % 9223372036854775808) = true := by unfold fnanB; rw [hr]; rfl
    rw [show FloatKind.f64.format.order (x % 9223372036854775808) 9218868437227405311 = none from order_nan (.inl this)]; rfl
  | infinity s =>
    rw [hx] at hr
    have h1 : fnanB (x % 9223372036854775808) = false := by unfold fnanB; rw [hr]; rfl
    rw [ord_gt h1 hn]
    refine decide_eq_true ?_
    unfold fv
    rw [hr, max_read]
    exact (dv_bound (by simp only [Fin1]; omega)).2
  | number s m i =>
    have hf := read_fin x
    rw [hx] at hr hf
    have h1 : fnanB (x % 9223372036854775808) = false := by unfold fnanB; rw [hr]; rfl
    rw [ord_gt h1 hn]
    refine decide_eq_false ?_
    unfold fv
    rw [hr, max_read]
    simp only [Fin1] at hf
    simp only [dv]
    have := signed_le (m := m) (n := 9007199254740991) (a := (i + 1074).toNat) (b := (971 + 1074 : Int).toNat) (by omega) (by omega)
    omega
theorem c_IsInf (x : Nat) (h : x < 18446744073709551616) : Ctr Try.prog 25 [.sc (.float .f64 x), iv 0] (bv (infB x)) [] := by
  have e := gt_max x
  refine spec_of_body mixed Try.func25 rfl (by kernel_rfl) (by kernel_rfl) ?_; conv => whnf
  ((try ((refine Exists.intro none ?_); (conv => whnf))); first | ((with_reducible refine call_by (c_Abs x h) ?_); conv => whnf))
  exact exit_plain rfl (by rw [e])
theorem fin_of {x : Nat} (h1 : fnanB x = false) (h2 : infB x = false) : finB x = true := by
  unfold fnanB at h1
  unfold infB at h2
  unfold finB
  cases hx : Ieee.double.read x with
  | number s m i => rfl
  | infinity s => rw [hx] at h2; cases h2
  | nan s t => rw [hx] at h1; cases h1
theorem score_fin {p : Pl} (h1 : finB p.cost = true) (h2 : finB p.delay = true) : fv (scoreW p) = wrI (fv p.cost + fv p.delay) := by
  obtain ⟨r, e1, e2, e3⟩ := add_fin h1 h2
  unfold scoreW addW
  rw [e1]
  simp only
  unfold canonW
  rw [e2]
  simp only [Bool.false_eq_true, if_false]
  rw [e2]
  simp only [Bool.false_eq_true, if_false]
  exact e3
theorem score_nan {p : Pl} (h : fnanB p.cost = true ∨ fnanB p.delay = true) : scoreW p = infW := by
  have e : Ieee.double.add p.cost p.delay = none := (nan_arith h).1
  unfold scoreW addW
  rw [e]
  simp only
  rw [if_pos (by kernel_rfl)]
theorem score_more {p : Pl} {more : Nat} (h1 : infB p.cost = false) (h2 : infB p.delay = false) (h3 : infB more = false) (ha : fnanB p.cost = false) (hb : fnanB more = false) (hle : fv p.cost ≤ fv more) : fv (scoreW p) ≤ fv (scoreW { p with cost := more }) := by
  by_cases hd : fnanB p.delay = true
  · rw [score_nan (.inr hd), score_nan (p := { p with cost := more }) (.inr hd)]; exact Int.le_refl _
  · have hd : fnanB p.delay = false := by simpa using hd
    rw [score_fin (fin_of ha h1) (fin_of hd h2), score_fin (p := { p with cost := more }) (fin_of hb h3) (fin_of hd h2)]
    exact wrI_mono (by show _ ≤ fv more + fv p.delay; omega)
theorem ord_geq {a b : Nat} (ha : fnanB a = false) (hb : fnanB b = false) : (FloatKind.f64.format.order a b == some .gt || FloatKind.f64.format.order a b == some .eq) = decide (fv b ≤ fv a) := by
  rw [ord_gt ha hb, ord_eq ha hb]
  by_cases h1 : fv b < fv a
  · rw [decide_eq_true h1, decide_eq_true (show fv b ≤ fv a by omega)]; rfl
  · rw [decide_eq_false h1]
    by_cases h2 : fv a = fv b
    · rw [decide_eq_true h2, decide_eq_true (show fv b ≤ fv a by omega)]; rfl
    · rw [decide_eq_false h2, decide_eq_false (show ¬ fv b ≤ fv a by omega)]; rfl
theorem ord_geqN {a b : Nat} (h : fnanB a = true ∨ fnanB b = true) : (FloatKind.f64.format.order a b == some .gt || FloatKind.f64.format.order a b == some .eq) = false := by
  rw [show FloatKind.f64.format.order a b = none from order_nan h]; rfl
theorem ord_neqS {a : Nat} (ha : fnanB a = false) : (FloatKind.f64.format.order a a != some .eq) = false := by
  rw [bne, ord_eq ha ha]; simp

theorem l_PlaceScores (p : Pl) (hp : p.ok) (more : Nat) (hm : more < 18446744073709551616) : Ctr Try.prog 5 [.ag p.enc, .sc (.float .f64 more)] (bv true) [] := by
  obtain ⟨_, _, hc, hd⟩ := hp
  have s1 := ord_neqS (scoreW_num p)
  have s2 := ord_neqS (scoreW_num { p with cost := more })
  have mono := score_more (p := p) (more := more)
  have g2 := ord_geq (scoreW_num { p with cost := more }) (scoreW_num p)
  refine spec_of_body mixed Try.func5 rfl (by kernel_rfl) (by kernel_rfl) ?_; conv => whnf
  ((try ((refine Exists.intro none ?_); (conv => whnf))); first | ((with_reducible refine call_by (c_Score p) ?_); conv => whnf))
  ((try ((refine Exists.intro none ?_); (conv => whnf))); first | ((with_reducible refine call_by (c_Score { p with cost := more }) ?_); conv => whnf))
  rw [s1]
  conv => whnf
  rw [s2]
  conv => whnf
  ((try ((refine Exists.intro none ?_); (conv => whnf))); first | ((with_reducible refine call_by (c_IsInf p.cost hc) ?_); conv => whnf))
  cases i1 : infB p.cost with
  | true =>
    conv => whnf
    ((try ((refine Exists.intro none ?_); (conv => whnf))); first | ((with_reducible refine call_by (c_wakes14) ?_); conv => whnf))
    exact exit_plain rfl rfl
  | false =>
  conv => whnf
  ((try ((refine Exists.intro none ?_); (conv => whnf))); first | ((with_reducible refine call_by (c_IsInf p.delay hd) ?_); conv => whnf))
  cases i2 : infB p.delay with
  | true =>
    conv => whnf
    ((try ((refine Exists.intro none ?_); (conv => whnf))); first | ((with_reducible refine call_by (c_wakes14) ?_); conv => whnf))
    exact exit_plain rfl rfl
  | false =>
  conv => whnf
  ((try ((refine Exists.intro none ?_); (conv => whnf))); first | ((with_reducible refine call_by (c_IsInf more hm) ?_); conv => whnf))
  cases i3 : infB more with
  | true =>
    conv => whnf
    ((try ((refine Exists.intro none ?_); (conv => whnf))); first | ((with_reducible refine call_by (c_wakes14) ?_); conv => whnf))
    exact exit_plain rfl rfl
  | false =>
  conv => whnf
  by_cases hn : fnanB more = true ∨ fnanB p.cost = true
  · rw [ord_geqN hn]
    conv => whnf
    ((try ((refine Exists.intro none ?_); (conv => whnf))); first | ((with_reducible refine call_by (c_wakes14) ?_); conv => whnf))
    exact exit_plain rfl rfl
  · have n1 : fnanB more = false := by
      cases h : fnanB more with
      | false => rfl
      | true => exact absurd (.inl h) hn
    have n2 : fnanB p.cost = false := by
      cases h : fnanB p.cost with
      | false => rfl
      | true => exact absurd (.inr h) hn
    rw [ord_geq n1 n2]
    by_cases hle : fv p.cost ≤ fv more
    · have hm2 := mono i1 i2 i3 n2 n1 hle
      rw [decide_eq_true hle]
      conv => whnf
      rw [g2, decide_eq_true hm2]
      conv => whnf
      ((try ((refine Exists.intro none ?_); (conv => whnf))); first | ((with_reducible refine call_by (c_wakes14) ?_); conv => whnf))
      exact exit_plain rfl rfl
    · rw [decide_eq_false hle]
      conv => whnf
      ((try ((refine Exists.intro none ?_); (conv => whnf))); first | ((with_reducible refine call_by (c_wakes14) ?_); conv => whnf))
      exact exit_plain rfl rfl
theorem told_PlaceScores (qs : List PV) (h : ArgsOf Try.prog [30, 27] qs) : Ctr Try.prog 5 qs (bv true) [] := by
  obtain ⟨p1, qs, rfl, h1, h⟩ := argsOf_cons h
  obtain ⟨p2, qs, rfl, h2, h⟩ := argsOf_cons h
  obtain rfl := argsOf_nil h
  obtain ⟨p, rfl, hp⟩ := arg_Pl h1
  obtain ⟨x, e, hx⟩ := ty_f (argOf_one (by kernel_rfl) h2)
  cases e
  exact l_PlaceScores p hp x hx
end Go.Proofs
