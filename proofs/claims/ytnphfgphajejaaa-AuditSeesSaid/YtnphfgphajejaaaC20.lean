/- Contracts of functions: the reference's steps. -/
import Derived.Test.YtnphfgphajejaaaC19
namespace Go.Proofs
open Go.Pv
set_option maxRecDepth 100000

theorem nat_or_add : ∀ x : Fin 128, ∀ n : Fin 7, x.val.testBit n.val = false → x.val ||| 2 ^ n.val = x.val + 2 ^ n.val := by decide +kernel
theorem nat_sub_and : ∀ x : Fin 128, ∀ n : Fin 7, x.val.testBit n.val = true → x.val - 2 ^ n.val = x.val &&& (127 - 2 ^ n.val) ∧ 2 ^ n.val ≤ x.val := by decide +kernel

theorem add_bit {x : Int} {n : Nat} (hx : Bits7 x) (hn : n < 7) (h : tb x n = false) : x + shl 1 n = bor x (shl 1 n) := by
  obtain ⟨m, rfl⟩ := Int.eq_ofNat_of_zero_le hx.1
  have hm : m < 128 := by have := hx.2; omega
  rw [tb_nat _ _ (by omega)] at h
  have e := nat_or_add ⟨m, hm⟩ ⟨n, hn⟩ h
  simp only at e
  have h2 : (2 : Nat) ^ n < 2 ^ 7 := Nat.pow_lt_pow_right (by decide) hn
  have hs := shl_one n (by omega)
  have hb : Bits7 (bor (m : Int) (shl 1 n)) := bits7_or hx (bits7_shl hn)
  rw [hs] at *
  have hlt : m ||| 2 ^ n < 128 := Nat.or_lt_two_pow (n := 7) hm h2
  have e2 : ((m : Int) + ((2 ^ n : Nat) : Int)) = ((m ||| 2 ^ n : Nat) : Int) := by rw [e]; simp
  rw [e2]
  refine ext7 ⟨by omega, by omega⟩ hb fun i _ => ?_
  rw [tb_or, tb_nat _ _ (by omega), tb_nat _ _ (by omega), tb_nat _ _ (by omega), Nat.testBit_or]

theorem sub_bit {x : Int} {n : Nat} (hx : Bits7 x) (hn : n < 7) (h : tb x n = true) : x - shl 1 n = bandn x (shl 1 n) := by
  have hb : Bits7 (bandn x (shl 1 n)) := bits7_andn hx
  have h0 : tb (bandn x (shl 1 n)) n = false := by rw [tb_andn', tb_shl n n (by omega)]; simp
  have e := add_bit hb hn h0
  have e2 : bor (bandn x (shl 1 n)) (shl 1 n) = x := ext7 (bits7_or hb (bits7_shl hn)) hx fun i _ => by
    rw [tb_or, tb_andn', tb_shl n i (by omega)]
    by_cases ei : n = i
    · subst ei; simp [h]
    · simp [ei]
  rw [e2] at e
  omega

theorem hasB_node {b : Int} {n : Nat} (hn : n < 7) : hasB b n = tb b n := hasB_nat b n (by omega)
theorem kind_4 (c : Conf) {n : Nat} (hn : n < 7) : kind c n = kind4 (tb c.full n) (tb c.wit n) (tb c.learn n) (tb c.lwit n) := by
  unfold kind kind4
  rw [if_pos (by simp [withinB]; omega)]
  simp only [hasB_node hn]
theorem kind4_E (f w l x : Bool) : ((kind4 f w l x).toList = (ByteArray.mk #[]).toList) ↔ (f = false ∧ w = false ∧ l = false ∧ x = false) := by
  cases f <;> cases w <;> cases l <;> cases x <;> decide +kernel
theorem shl_u {n : Nat} (hn : n < 7) : shl 1 (IntKind.u64.wrap n) = shl 1 n := by rw [wrapu_id (by omega) (by omega)]
theorem shl_small {n : Nat} (hn : n < 7) : 0 < shl 1 n ∧ shl 1 n ≤ 64 := by
  rw [shl_one n (by omega)]
  have : (2 : Nat) ^ n ≤ 2 ^ 6 := Nat.pow_le_pow_right (by decide) (by omega)
  have h2 : 0 < (2 : Nat) ^ n := Nat.pow_pos (by decide)
  omega

theorem c_rLearn (c : Conf) (i : Int) (wit : Bool) : Ctr Try.prog 97 [.ag c.enc, iv i, bv wit] (cev (learnR c i wit)) [] := by
  refine spec_of_body mixed Try.func97 rfl (by kernel_rfl) (by kernel_rfl) ?_; conv => whnf
  ((try ((refine Exists.intro none ?_); (conv => whnf))); first | ((with_reducible refine call_by (c_rConf c) ?_); conv => whnf))
  ((first | (with_reducible refine split_dec (fun h => ?_) (fun h => ?_)) | (with_reducible refine split_beq (fun h => ?_) (fun h => ?_)) | (with_reducible refine split_bne (fun h => ?_) (fun h => ?_)) | (with_reducible refine split_not (fun h => ?_) (fun h => ?_)) | (with_reducible refine split_beqS (fun h => ?_) (fun h => ?_)) | (with_reducible refine split_intro (fun h => ?_) (fun h => ?_))) <;> conv => whnf)
  · exact exit_plain rfl (by simp [learnR, wrongR, h])
  have hc := h
  ((try ((refine Exists.intro none ?_); (conv => whnf))); first | ((with_reducible refine call_by (c_Node i) ?_); conv => whnf))
  ((first | (with_reducible refine split_dec (fun h => ?_) (fun h => ?_)) | (with_reducible refine split_beq (fun h => ?_) (fun h => ?_)) | (with_reducible refine split_bne (fun h => ?_) (fun h => ?_)) | (with_reducible refine split_not (fun h => ?_) (fun h => ?_)) | (with_reducible refine split_beqS (fun h => ?_) (fun h => ?_)) | (with_reducible refine split_intro (fun h => ?_) (fun h => ?_))) <;> conv => whnf)
  · exact exit_plain rfl (by simp [learnR, wrongR, hc, h])
  obtain ⟨n, rfl, hn⟩ := nat_of (by simp [withinB] at h; omega : 0 ≤ i ∧ i < 7)
  have hk := (confB_iff c).1 hc
  have hw0 := wrongR_ok hk hn
  ((try ((refine Exists.intro none ?_); (conv => whnf))); first | ((with_reducible refine call_by (c_rKind c n) ?_); conv => whnf))
  ((first | (with_reducible refine split_dec (fun h => ?_) (fun h => ?_)) | (with_reducible refine split_beq (fun h => ?_) (fun h => ?_)) | (with_reducible refine split_bne (fun h => ?_) (fun h => ?_)) | (with_reducible refine split_not (fun h => ?_) (fun h => ?_)) | (with_reducible refine split_beqS (fun h => ?_) (fun h => ?_)) | (with_reducible refine split_intro (fun h => ?_) (fun h => ?_))) <;> conv => whnf)
  · refine exit_plain rfl ?_
    have hf : ¬ free c n := by
      intro hf
      have h2 := (kind4_E _ _ _ _).2 hf
      rw [← kind_4 c hn] at h2
      rw [h2] at h
      simp at h
    unfold learnR
    rw [if_pos hw0, if_neg (by rw [free_iff hn]; exact hf)]
  · have hf : free c n := by
      have h2 := beq_iff_eq.1 h
      rw [kind_4 c hn, kind4_E] at h2; exact h2
    rw [learnR_ok hk hn hf]
    have hb := shl_small hn
    ((first | (with_reducible refine split_dec (fun h => ?_) (fun h => ?_)) | (with_reducible refine split_beq (fun h => ?_) (fun h => ?_)) | (with_reducible refine split_bne (fun h => ?_) (fun h => ?_)) | (with_reducible refine split_not (fun h => ?_) (fun h => ?_)) | (with_reducible refine split_beqS (fun h => ?_) (fun h => ?_)) | (with_reducible refine split_intro (fun h => ?_) (fun h => ?_))) <;> conv => whnf)
    · refine ⟨⟨by decide, u64_nonneg _⟩, ?_⟩
      conv => whnf
      refine exit_plain rfl ?_
      subst h
      have e := add_bit hk.x hn hf.2.2.2
      have := hk.x
      unfold Bits7 at this
      rw [show (ishl IntKind.i64 1 (IntKind.u64.wrap (n : Int))) = shl 1 n from shl_u hn, wrap_id (by omega) (by omega), e]
      rfl
    · refine ⟨⟨by decide, u64_nonneg _⟩, ?_⟩
      conv => whnf
      refine exit_plain rfl ?_
      subst h
      have e := add_bit hk.l hn hf.2.2.1
      have := hk.l
      unfold Bits7 at this
      rw [show (ishl IntKind.i64 1 (IntKind.u64.wrap (n : Int))) = shl 1 n from shl_u hn, wrap_id (by omega) (by omega), e]
      rfl

theorem kind4_L (f w l x : Bool) (h : one4 f w l x = true) : ((kind4 f w l x).toList = (ByteArray.mk #[108, 101, 97, 114, 110]).toList) ↔ l = true := by
  revert h; cases f <;> cases w <;> cases l <;> cases x <;> decide +kernel
theorem kind4_X (f w l x : Bool) (h : one4 f w l x = true) : ((kind4 f w l x).toList = (ByteArray.mk #[108, 101, 97, 114, 110, 119, 105, 116]).toList) ↔ x = true := by
  revert h; cases f <;> cases w <;> cases l <;> cases x <;> decide +kernel

theorem c_rPromote (c : Conf) (i : Int) : Ctr Try.prog 98 [.ag c.enc, iv i] (cev (promoteR c i)) [] := by
  refine spec_of_body mixed Try.func98 rfl (by kernel_rfl) (by kernel_rfl) ?_; conv => whnf
  ((try ((refine Exists.intro none ?_); (conv => whnf))); first | ((with_reducible refine call_by (c_rConf c) ?_); conv => whnf))
  ((first | (with_reducible refine split_dec (fun h => ?_) (fun h => ?_)) | (with_reducible refine split_beq (fun h => ?_) (fun h => ?_)) | (with_reducible refine split_bne (fun h => ?_) (fun h => ?_)) | (with_reducible refine split_not (fun h => ?_) (fun h => ?_)) | (with_reducible refine split_beqS (fun h => ?_) (fun h => ?_)) | (with_reducible refine split_intro (fun h => ?_) (fun h => ?_))) <;> conv => whnf)
  · exact exit_plain rfl (by simp [promoteR, wrongR, h])
  have hc := h
  ((try ((refine Exists.intro none ?_); (conv => whnf))); first | ((with_reducible refine call_by (c_Node i) ?_); conv => whnf))
  ((first | (with_reducible refine split_dec (fun h => ?_) (fun h => ?_)) | (with_reducible refine split_beq (fun h => ?_) (fun h => ?_)) | (with_reducible refine split_bne (fun h => ?_) (fun h => ?_)) | (with_reducible refine split_not (fun h => ?_) (fun h => ?_)) | (with_reducible refine split_beqS (fun h => ?_) (fun h => ?_)) | (with_reducible refine split_intro (fun h => ?_) (fun h => ?_))) <;> conv => whnf)
  · exact exit_plain rfl (by simp [promoteR, wrongR, hc, h])
  obtain ⟨n, rfl, hn⟩ := nat_of (by simp [withinB] at h; omega : 0 ≤ i ∧ i < 7)
  have hk := (confB_iff c).1 hc
  have hw0 := wrongR_ok hk hn
  have one := hk.one n
  have hb := shl_small hn
  have hsu : ishl IntKind.i64 1 (IntKind.u64.wrap (n : Int)) = shl 1 n := shl_u hn
  have bf := hk.f
  have bw := hk.w
  have bl := hk.l
  have bx := hk.x
  have o1 := hk.fl n
  have o2 := hk.wx n
  unfold Bits7 at bf bw bl bx
  refine ⟨⟨by decide, u64_nonneg _⟩, ?_⟩
  conv => whnf
  ((try ((refine Exists.intro none ?_); (conv => whnf))); first | ((with_reducible refine call_by (c_rKind c n) ?_); conv => whnf))
  ((first | (with_reducible refine split_dec (fun h => ?_) (fun h => ?_)) | (with_reducible refine split_beq (fun h => ?_) (fun h => ?_)) | (with_reducible refine split_bne (fun h => ?_) (fun h => ?_)) | (with_reducible refine split_not (fun h => ?_) (fun h => ?_)) | (with_reducible refine split_beqS (fun h => ?_) (fun h => ?_)) | (with_reducible refine split_intro (fun h => ?_) (fun h => ?_))) <;> conv => whnf)
  · have hl : tb c.learn n = true := by
      have h2 := h
      first | rw [beq_iff_eq] at h2 | skip
      rw [kind_4 c hn, kind4_L _ _ _ _ one] at h2; exact h2
    have e1 := sub_bit hk.l hn hl
    have e2 := add_bit hk.f hn (by rw [hl, Bool.and_true] at o1; exact o1)
    rw [promoteR_okL hk hn hl]
    refine exit_plain rfl ?_
    rw [hsu, wrap_id (n := c.learn - shl 1 n) (by omega) (by omega), wrap_id (n := c.full + shl 1 n) (by omega) (by omega), e1, e2]
  · have hl : tb c.learn n = false := by
      cases hb : tb c.learn n
      · rfl
      · exfalso
        have h2 := (kind4_L _ _ _ _ one).2 hb
        rw [← kind_4 c hn] at h2
        rw [h2] at h
        simp at h
    ((first | (with_reducible refine split_dec (fun h => ?_) (fun h => ?_)) | (with_reducible refine split_beq (fun h => ?_) (fun h => ?_)) | (with_reducible refine split_bne (fun h => ?_) (fun h => ?_)) | (with_reducible refine split_not (fun h => ?_) (fun h => ?_)) | (with_reducible refine split_beqS (fun h => ?_) (fun h => ?_)) | (with_reducible refine split_intro (fun h => ?_) (fun h => ?_))) <;> conv => whnf)
    · have hx : tb c.lwit n = true := by
        have h2 := h
        first | rw [beq_iff_eq] at h2 | skip
        rw [kind_4 c hn, kind4_X _ _ _ _ one] at h2; exact h2
      have e1 := sub_bit hk.x hn hx
      have e2 := add_bit hk.w hn (by rw [hx, Bool.and_true] at o2; exact o2)
      rw [promoteR_okX hk hn hx]
      refine exit_plain rfl ?_
      rw [hsu, wrap_id (n := c.lwit - shl 1 n) (by omega) (by omega), wrap_id (n := c.wit + shl 1 n) (by omega) (by omega), e1, e2]
    · have hx : tb c.lwit n = false := by
        cases hb : tb c.lwit n
        · rfl
        · exfalso
          have h2 := (kind4_X _ _ _ _ one).2 hb
          rw [← kind_4 c hn] at h2
          rw [h2] at h
          simp at h
      refine exit_plain rfl ?_
      unfold promoteR
      rw [if_pos hw0, if_pos (by rw [bit0_iff hn]; exact hl), if_pos (by rw [bit0_iff hn]; exact hx)]
end Go.Proofs
