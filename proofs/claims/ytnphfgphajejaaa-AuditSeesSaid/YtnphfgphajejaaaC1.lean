/- Contracts of functions: configurations, delays. -/
import Derived.Test.YtnphfgphajejaaaA1
namespace Go.Proofs
open Go.Pv
set_option maxRecDepth 100000

noncomputable abbrev band (a b : Int) : Int := iand .i64 a b
noncomputable abbrev bor (a b : Int) : Int := ior .i64 a b
abbrev shr (a b : Int) : Int := ishr .i64 a b

noncomputable def bitB (b i : Int) : Bool := decide (0 ≤ i) && decide (i < 7) && (band (shr b i) 1 == 1)

theorem c_bit (b i : Int) : Ctr Try.prog 168 [iv b, iv i] (bv (bitB b i)) [] := by
  refine spec_of_body mixed Try.func168 rfl (by kernel_rfl) (by kernel_rfl) ?_
  conv => whnf
  repeat' (first
    | (refine split_dec (fun h => ?_) (fun h => ?_) <;> conv => whnf)
    | (refine And.intro (And.intro (by first | decide | omega) (by first | decide | omega)) ?_; conv => whnf))
  all_goals (refine exit_plain rfl ?_; simp [bitB, *]; try rfl)

def withinB (n lo hi : Int) : Bool := decide (lo ≤ n) && decide (n ≤ hi)

theorem c_within (n lo hi : Int) : Ctr Try.prog 184 [iv n, iv lo, iv hi] (bv (withinB n lo hi)) [] := by
  refine spec_of_body mixed Try.func184 rfl (by kernel_rfl) (by kernel_rfl) ?_
  conv => whnf
  repeat' (first
    | (refine split_dec (fun h => ?_) (fun h => ?_) <;> conv => whnf))
  all_goals (refine exit_plain rfl ?_; simp [withinB, *])

theorem c_Node (i : Int) : Ctr Try.prog 169 [iv i] (bv (withinB i 0 6)) [] := by
  refine spec_of_body mixed Try.func169 rfl (by kernel_rfl) (by kernel_rfl) ?_
  conv => whnf
  refine Exists.intro none ?_; (conv => whnf); refine call_by (c_within _ _ _) ?_
  conv => whnf
  exact exit_plain rfl rfl

theorem c_Bits (i : Int) : Ctr Try.prog 167 [iv i] (bv (withinB i 0 127)) [] := by
  refine spec_of_body mixed Try.func167 rfl (by kernel_rfl) (by kernel_rfl) ?_
  conv => whnf
  refine Exists.intro none ?_; (conv => whnf); refine call_by (c_within _ _ _) ?_
  conv => whnf
  exact exit_plain rfl rfl

/-- 'b >> uint(i) & 1 == 1' -/
noncomputable def hasB (b i : Int) : Bool := band (shr b (IntKind.u64.wrap i)) 1 == 1

theorem u64_nonneg (i : Int) : 0 ≤ IntKind.u64.wrap i := by
  simp [IntKind.wrap, IntKind.signed, IntKind.bits]; omega

theorem c_Has (b i : Int) : Ctr Try.prog 170 [iv b, iv i] (bv (hasB b i)) [] := by
  refine spec_of_body mixed Try.func170 rfl (by kernel_rfl) (by kernel_rfl) ?_
  conv => whnf
  refine ⟨⟨by decide, u64_nonneg _⟩, ?_⟩
  conv => whnf
  exact exit_plain rfl rfl

noncomputable def delay (c : Conf) (i : Int) : Int := if bitB c.full i then IntKind.i64.wrap (6 + IntKind.i64.wrap (2 * i)) else if bitB c.wit i then IntKind.i64.wrap (6 + IntKind.i64.wrap (2 * IntKind.i64.wrap (7 + i))) else 0

theorem c_Delay (c : Conf) (i : Int) : Ctr Try.prog 39 [.ag c.enc, iv i] (iv (delay c i)) [] := by
  refine spec_of_body mixed Try.func39 rfl (by kernel_rfl) (by kernel_rfl) ?_
  conv => whnf
  repeat' (first
    | (refine Exists.intro none ?_; (conv => whnf); refine call_by (c_bit _ _) ?_; conv => whnf)
    | (refine split_intro (fun h => ?_) (fun h => ?_) <;> conv => whnf))
  all_goals (refine exit_plain rfl ?_; simp [delay, *])

noncomputable def confB (c : Conf) : Bool :=
  withinB c.full 0 127 && (withinB c.wit 0 127 && (withinB c.learn 0 127 && (withinB c.lwit 0 127 && (c.full != 0 && (band c.full c.wit == 0 && (band (bor c.full c.wit) c.learn == 0 && band (bor (bor c.full c.wit) c.learn) c.lwit == 0))))))

set_option maxHeartbeats 1000000 in
theorem c_rConf (c : Conf) : Ctr Try.prog 38 [.ag c.enc] (bv (confB c)) [] := by
  refine spec_of_body mixed Try.func38 rfl (by kernel_rfl) (by kernel_rfl) ?_
  conv => whnf
  repeat' (first
    | (refine Exists.intro none ?_; (conv => whnf); refine call_by (c_Bits _) ?_; conv => whnf)
    | (refine split_beq (fun h => ?_) (fun h => ?_) <;> conv => whnf)
    | (refine split_bne (fun h => ?_) (fun h => ?_) <;> conv => whnf)
    | (refine split_intro (fun h => ?_) (fun h => ?_) <;> conv => whnf))
  all_goals (refine exit_plain rfl ?_; simp [confB, *])

def sE : ByteArray := ⟨#[]⟩
def sFull : ByteArray := ⟨#[102, 117, 108, 108]⟩
def sWit : ByteArray := ⟨#[119, 105, 116]⟩
def sLearn : ByteArray := ⟨#[108, 101, 97, 114, 110]⟩
def sLwit : ByteArray := ⟨#[108, 101, 97, 114, 110, 119, 105, 116]⟩

noncomputable def kind (c : Conf) (i : Int) : ByteArray :=
  if withinB i 0 6 then (if hasB c.full i then sFull else if hasB c.wit i then sWit else if hasB c.learn i then sLearn else if hasB c.lwit i then sLwit else sE) else sE

theorem c_rKind (c : Conf) (i : Int) : Ctr Try.prog 40 [.ag c.enc, iv i] (sv (kind c i)) [] := by
  refine spec_of_body mixed Try.func40 rfl (by kernel_rfl) (by kernel_rfl) ?_
  conv => whnf
  repeat' (first
    | (refine Exists.intro none ?_; (conv => whnf); refine call_by (c_Node _) ?_; conv => whnf)
    | (refine Exists.intro none ?_; (conv => whnf); refine call_by (c_Has _ _) ?_; conv => whnf)
    | (refine split_not (fun h => ?_) (fun h => ?_) <;> conv => whnf)
    | (refine split_intro (fun h => ?_) (fun h => ?_) <;> conv => whnf))
  all_goals (refine exit_plain rfl ?_; simp [kind, sFull, sWit, sLearn, sLwit, sE, *])

theorem c_Delay1 : Ctr Try.prog 39 [.ag (Conf.mk 3 4 0 0).enc, iv 1] (iv 8) [] := by
  have h := c_Delay ⟨3, 4, 0, 0⟩ 1
  rwa [show delay ⟨3, 4, 0, 0⟩ 1 = 8 from by simp only [delay, bitB, band, iand_eq]; kernel_rfl] at h
theorem c_Delay2 : Ctr Try.prog 39 [.ag (Conf.mk 3 4 0 0).enc, iv 2] (iv 24) [] := by
  have h := c_Delay ⟨3, 4, 0, 0⟩ 2
  rwa [show delay ⟨3, 4, 0, 0⟩ 2 = 24 from by simp only [delay, bitB, band, iand_eq]; kernel_rfl] at h
theorem c_Delay5 : Ctr Try.prog 39 [.ag (Conf.mk 3 4 0 0).enc, iv 5] (iv 0) [] := by
  have h := c_Delay ⟨3, 4, 0, 0⟩ 5
  rwa [show delay ⟨3, 4, 0, 0⟩ 5 = 0 from by simp only [delay, bitB, band, iand_eq]; kernel_rfl] at h

theorem c_wakes15 : Ctr Try.prog 41 [] (bv true) [] := by
  refine spec_of_body mixed Try.func41 rfl (by kernel_rfl) (by kernel_rfl) ?_
  conv => whnf
  refine Exists.intro none ?_; (conv => whnf); refine call_by c_Delay1 ?_
  conv => whnf
  refine Exists.intro none ?_; (conv => whnf); refine call_by c_Delay2 ?_
  conv => whnf
  refine Exists.intro none ?_; (conv => whnf); refine call_by c_Delay5 ?_
  conv => whnf
  exact exit_plain rfl rfl

theorem wrap_id {n : Int} (h1 : -9223372036854775808 ≤ n) (h2 : n < 9223372036854775808) : IntKind.i64.wrap n = n := by
  simp [IntKind.wrap, IntKind.signed, IntKind.bits]; omega

theorem wrapu_id {n : Int} (h1 : 0 ≤ n) (h2 : n < 18446744073709551616) : IntKind.u64.wrap n = n := by
  simp [IntKind.wrap, IntKind.signed, IntKind.bits]; omega

theorem bitB_range {b i : Int} (h : bitB b i = true) : 0 ≤ i ∧ i < 7 := by
  simp [bitB] at h; exact ⟨h.1.1, h.1.2⟩

theorem hasB_eq {b i : Int} (h : withinB i 0 6 = true) : hasB b i = bitB b i := by
  simp [withinB] at h
  simp [hasB, bitB, wrapu_id (n := i) (by omega) (by omega)]
  intro _; omega

theorem bitB_out {b i : Int} (h : withinB i 0 6 = false) : bitB b i = false := by
  simp [withinB] at h
  simp [bitB]; intro a c; omega

theorem kind_eq (c : Conf) (i : Int) : kind c i = if bitB c.full i then sFull else if bitB c.wit i then sWit else if bitB c.learn i then sLearn else if bitB c.lwit i then sLwit else sE := by
  unfold kind
  cases h : withinB i 0 6
  · simp [bitB_out h]
  · simp [hasB_eq h]

theorem delay_eq (c : Conf) (i : Int) : delay c i = if bitB c.full i then 6 + 2 * i else if bitB c.wit i then 20 + 2 * i else 0 := by
  unfold delay
  split
  · rename_i h; have := bitB_range h
    rw [wrap_id (n := 2 * i) (by omega) (by omega), wrap_id (by omega) (by omega)]
  · split
    · rename_i h; have := bitB_range h
      rw [wrap_id (n := 7 + i) (by omega) (by omega), wrap_id (n := 2 * (7 + i)) (by omega) (by omega), wrap_id (by omega) (by omega)]; omega
    · rfl

theorem kind_full (c : Conf) (i : Int) : ((kind c i).toList == (ByteArray.mk #[102, 117, 108, 108]).toList) = bitB c.full i := by
  rw [kind_eq]
  cases bitB c.full i <;> cases bitB c.wit i <;> cases bitB c.learn i <;> cases bitB c.lwit i <;> decide +kernel

theorem kind_wit (c : Conf) (i : Int) : ((kind c i).toList == (ByteArray.mk #[119, 105, 116]).toList) = (!bitB c.full i && bitB c.wit i) := by
  rw [kind_eq]
  cases bitB c.full i <;> cases bitB c.wit i <;> cases bitB c.learn i <;> cases bitB c.lwit i <;> decide +kernel

end Go.Proofs
