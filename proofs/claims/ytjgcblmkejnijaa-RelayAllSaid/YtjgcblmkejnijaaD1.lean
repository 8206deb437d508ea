/- Places: their values; contracts of the functions that score them. -/
import Derived.Test.YtjgcblmkejnijaaC13
import Derived.Test.YtjgcblmkejnijaaPvZ
set_option linter.unusedSimpArgs false
set_option linter.unusedVariables false
namespace Go.Proofs
open Go.Pv
set_option maxRecDepth 100000

structure Pl where
  node : Int
  region : Int
  cost : Nat
  delay : Nat
  deriving DecidableEq
abbrev Pl.enc (x : Pl) : List PV := [iv x.node, iv x.region, .sc (.float .f64 x.cost), .sc (.float .f64 x.delay)]
def Pl.ok (x : Pl) : Prop := isI x.node ∧ isI x.region ∧ x.cost < 18446744073709551616 ∧ x.delay < 18446744073709551616
theorem ty_Pl {ls : List PV} (h : Ty Try.prog 30 ls) : ∃ x : Pl, ls = x.enc ∧ x.ok := by
  obtain ⟨ps, rfl, h0⟩ := ty_struct [3, 3, 27, 27] (by kernel_rfl) (by kernel_rfl) h
  obtain ⟨p0, ps, rfl, h1, h0⟩ := tyParts_cons h0
  obtain ⟨p1, ps, rfl, h2, h0⟩ := tyParts_cons h0
  obtain ⟨p2, ps, rfl, h3, h0⟩ := tyParts_cons h0
  obtain ⟨p3, ps, rfl, h4, h0⟩ := tyParts_cons h0
  obtain rfl := tyParts_nil h0
  obtain ⟨x0, rfl, w0⟩ := ty_i h1
  obtain ⟨x1, rfl, w1⟩ := ty_i h2
  obtain ⟨x2, rfl, w2⟩ := ty_f h3
  obtain ⟨x3, rfl, w3⟩ := ty_f h4
  exact ⟨⟨x0, x1, x2, x3⟩, rfl, w0, w1, w2, w3⟩
theorem arg_Pl {p : PV} (h : ArgOf Try.prog 30 p) : ∃ x : Pl, p = .ag x.enc ∧ x.ok := by
  obtain ⟨ls, rfl, h1⟩ := argOf_agg (by kernel_rfl) h
  obtain ⟨x, rfl, w⟩ := ty_Pl h1
  exact ⟨x, rfl, w⟩
theorem arg_Pls {p : PV} (h : ArgOf Try.prog 22 p) : ∃ xs : List Pl, p = .sl 4 (xs.map Pl.enc) ∧ xs.length ≤ maxLen ∧ ∀ x ∈ xs, x.ok := by
  obtain ⟨rows, e, hl, hr⟩ := ty_slice (e := 30) 4 (by kernel_rfl) (by kernel_rfl) (by decide) (argOf_one (by kernel_rfl) h)
  cases e
  obtain ⟨xs, rfl, hx⟩ := rows_map (f := Pl.enc) (ok := Pl.ok) fun r hr' => ty_Pl (hr r hr')
  exact ⟨xs, rfl, by simpa using hl, hx⟩

/-! A score. -/
def infW : Nat := 9218868437227405312
theorem c_fbits (x : Int) (h : 0 ≤ x) : Ctr Try.prog 68 [.sc (.int .u64 x)] (.sc (.float .f64 x.toNat)) [] := by
  refine ctr_extern (e := Go.Extern.MathFloatBits.float64frombits) Try.func68 (by kernel_rfl) (by kernel_rfl) (by kernel_rfl) (by kernel_rfl) ?_
  intro w M vs hv
  simp only [RVL, RV] at hv
  obtain ⟨c, r, rfl, rfl, rfl⟩ := hv
  rfl
theorem c_Inf1 : Ctr Try.prog 27 [iv 1] (.sc (.float .f64 infW)) [] := by
  refine spec_of_body mixed Try.func27 rfl (by kernel_rfl) (by kernel_rfl) ?_; conv => whnf
  ((try ((refine Exists.intro none ?_); (conv => whnf))); first | ((with_reducible refine call_by (c_fbits 9218868437227405312 (by decide)) ?_); conv => whnf))
  exact exit_plain rfl rfl
theorem c_nanW : Ctr Try.prog 104 [] (.sc (.float .f64 9221120237041090561)) [] := by
  refine spec_of_body mixed Try.func104 rfl (by kernel_rfl) (by kernel_rfl) ?_; conv => whnf
  ((try ((refine Exists.intro none ?_); (conv => whnf))); first | ((with_reducible refine call_by (c_fbits 9221120237041090561 (by decide)) ?_); conv => whnf))
  exact exit_plain rfl rfl
theorem c_isNaN (x : Nat) : Ctr Try.prog 62 [.sc (.float .f64 x)] (bv (fnanB x)) [] := by
  refine spec_of_body mixed Try.func62 rfl (by kernel_rfl) (by kernel_rfl) ?_; conv => whnf
  refine exit_plain rfl (congrArg bv ?_)
  cases h : fnanB x with
  | true =>
    rw [show FloatKind.f64.format.order x x = none from order_nan (.inl h)]; rfl
  | false =>
    have := ord_eq h h
    simp only [bne, this]
    simp
theorem c_isNaNn : Ctr Try.prog 62 [.nn .f64] (bv true) [] := by
  refine spec_of_body mixed Try.func62 rfl (by kernel_rfl) (by kernel_rfl) ?_; conv => whnf
  exact exit_plain rfl rfl
def canonW (x : Nat) : Nat := if fnanB x = true then 9221120237041090561 else x
theorem c_CanonF (x : Nat) : Ctr Try.prog 100 [.sc (.float .f64 x)] (.sc (.float .f64 (canonW x))) [] := by
  refine spec_of_body mixed Try.func100 rfl (by kernel_rfl) (by kernel_rfl) ?_; conv => whnf
  ((try ((refine Exists.intro none ?_); (conv => whnf))); first | ((with_reducible refine call_by (c_isNaN x) ?_); conv => whnf))
  ((first | (with_reducible refine split_dec (fun h => ?_) (fun h => ?_)) | (with_reducible refine split_beq (fun h => ?_) (fun h => ?_)) | (with_reducible refine split_bne (fun h => ?_) (fun h => ?_)) | (with_reducible refine split_not (fun h => ?_) (fun h => ?_)) | (with_reducible refine split_beqS (fun h => ?_) (fun h => ?_)) | (with_reducible refine split_intro (fun h => ?_) (fun h => ?_))) <;> conv => whnf)
  · ((try ((refine Exists.intro none ?_); (conv => whnf))); first | ((with_reducible refine call_by (c_nanW) ?_); conv => whnf))
    exact exit_plain rfl (by unfold canonW; rw [if_pos h])
  · exact exit_plain rfl (by unfold canonW; rw [h, if_neg (by decide)])
theorem c_CanonN : Ctr Try.prog 100 [.nn .f64] (.sc (.float .f64 9221120237041090561)) [] := by
  refine spec_of_body mixed Try.func100 rfl (by kernel_rfl) (by kernel_rfl) ?_; conv => whnf
  ((try ((refine Exists.intro none ?_); (conv => whnf))); first | ((with_reducible refine call_by (c_isNaNn) ?_); conv => whnf))
  ((try ((refine Exists.intro none ?_); (conv => whnf))); first | ((with_reducible refine call_by (c_nanW) ?_); conv => whnf))
  exact exit_plain rfl rfl
end Go.Proofs
