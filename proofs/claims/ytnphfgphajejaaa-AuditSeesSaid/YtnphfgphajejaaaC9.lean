/- Contracts of functions: entries, terms, what fits, what is committed. -/
import Derived.Test.YtnphfgphajejaaaC8
import Derived.Test.YtnphfgphajejaaaC4
namespace Go.Proofs
open Go.Pv
set_option maxRecDepth 100000

abbrev bz : ByteArray := ⟨#[]⟩
abbrev vz : VVal := ⟨0, 0, bz⟩
abbrev kz : VCall := ⟨0, 0, ⟨0, bz, vz, vz⟩⟩
abbrev ez : Ent := ⟨0, 0, kz, cz⟩

/-- The entry of an index. -/
def entAt (h : Hrd) (i : Int) : Option Ent := if h.base < i ∧ i - h.base ≤ h.log.length then h.log[(i - h.base - 1).toNat]? else none
theorem entAt_none {h : Hrd} {i : Int} (hh : ¬ (h.base < i ∧ i - h.base ≤ h.log.length)) : entAt h i = none := by
  unfold entAt; rw [if_neg hh]
theorem entAt_some {h : Hrd} {i : Int} (h1 : h.base < i) (h2 : i - h.base ≤ h.log.length) : entAt h i = some (h.log[(i - h.base - 1).toNat]'(by omega)) := by
  unfold entAt; rw [if_pos ⟨h1, h2⟩, List.getElem?_eq_getElem]

theorem row_at' {α : Type} {f : α → List PV} {l : List α} {n : Int} {k : Nat} (hn : n = k) (h : k < l.length) : 0 ≤ n ∧ (l.map f)[n.toNat]? = some (f (l[k]'h)) := by
  subst hn; exact ⟨by omega, row_at h⟩

theorem c_Entry (a : Hrd) (hm : a.log.length ≤ maxLen) (hb : isI a.base) (i : Int) (hi : isI i) : Ctr Try.prog 121 [.ag a.enc, iv i] (.tu [.ag ((entAt a i).getD ez).enc, bv (entAt a i).isSome]) [] := by
  have hm' : a.log.length ≤ 9223372036854775807 := Nat.le_trans hm (by decide)
  unfold isI at hb hi
  refine spec_of_body mixed Try.func121 rfl (by kernel_rfl) (by kernel_rfl) ?_; conv => whnf
  ((first | (with_reducible refine split_dec (fun h => ?_) (fun h => ?_)) | (with_reducible refine split_beq (fun h => ?_) (fun h => ?_)) | (with_reducible refine split_bne (fun h => ?_) (fun h => ?_)) | (with_reducible refine split_not (fun h => ?_) (fun h => ?_)) | (with_reducible refine split_beqS (fun h => ?_) (fun h => ?_)) | (with_reducible refine split_intro (fun h => ?_) (fun h => ?_))) <;> conv => whnf)
  · refine exit_plain rfl ?_
    rw [entAt_none (by omega)]; rfl
  have h0 := h
  ((first | (with_reducible refine split_dec (fun h => ?_) (fun h => ?_)) | (with_reducible refine split_beq (fun h => ?_) (fun h => ?_)) | (with_reducible refine split_bne (fun h => ?_) (fun h => ?_)) | (with_reducible refine split_not (fun h => ?_) (fun h => ?_)) | (with_reducible refine split_beqS (fun h => ?_) (fun h => ?_)) | (with_reducible refine split_intro (fun h => ?_) (fun h => ?_))) <;> conv => whnf)
  · refine exit_plain rfl ?_
    simp only [List.length_map] at h
    rw [entAt_none]
    · rfl
    · rw [wrap64] at h; split at h <;> omega
  have h1 := h
  ((first | (with_reducible refine split_dec (fun h => ?_) (fun h => ?_)) | (with_reducible refine split_beq (fun h => ?_) (fun h => ?_)) | (with_reducible refine split_bne (fun h => ?_) (fun h => ?_)) | (with_reducible refine split_not (fun h => ?_) (fun h => ?_)) | (with_reducible refine split_beqS (fun h => ?_) (fun h => ?_)) | (with_reducible refine split_intro (fun h => ?_) (fun h => ?_))) <;> conv => whnf)
  · refine exit_plain rfl ?_
    simp only [List.length_map] at h h1
    rw [entAt_none]
    · rfl
    · rw [wrap64] at h; split at h <;> omega
  · simp only [List.length_map] at h h1
    have e : IntKind.i64.wrap (i - a.base) = i - a.base := by
      rw [wrap64] at *; split at h <;> split <;> omega
    rw [e] at h h1
    have e2 : IntKind.i64.wrap (IntKind.i64.wrap (i - a.base) - 1) = ((i - a.base - 1).toNat : Int) := by
      rw [e, wrap_id (by omega) (by omega)]; omega
    obtain ⟨r1, r2⟩ := row_at' (f := Ent.enc) (l := a.log) e2 (by omega)
    refine ⟨r1, _, r2, ?_⟩
    conv => whnf
    refine exit_plain rfl ?_
    rw [entAt_some (by omega) (by omega)]; rfl

def termAt (h : Hrd) (i : Int) : Int := if i = h.base then h.baseTerm else match entAt h i with
  | some x => x.term
  | none => -1

theorem c_Term (a : Hrd) (hm : a.log.length ≤ maxLen) (hb : isI a.base) (i : Int) (hi : isI i) : Ctr Try.prog 128 [.ag a.enc, iv i] (iv (termAt a i)) [] := by
  refine spec_of_body mixed Try.func128 rfl (by kernel_rfl) (by kernel_rfl) ?_; conv => whnf
  ((first | (with_reducible refine split_dec (fun h => ?_) (fun h => ?_)) | (with_reducible refine split_beq (fun h => ?_) (fun h => ?_)) | (with_reducible refine split_bne (fun h => ?_) (fun h => ?_)) | (with_reducible refine split_not (fun h => ?_) (fun h => ?_)) | (with_reducible refine split_beqS (fun h => ?_) (fun h => ?_)) | (with_reducible refine split_intro (fun h => ?_) (fun h => ?_))) <;> conv => whnf)
  · exact exit_plain rfl (by rw [termAt, if_pos h])
  have h0 := h
  ((try ((refine Exists.intro none ?_); (conv => whnf))); first | ((with_reducible refine call_by (c_Entry a hm hb i hi) ?_); conv => whnf))
  cases he : entAt a i with
  | none =>
    conv => whnf
    exact exit_plain rfl (by rw [termAt, if_neg h0, he])
  | some x =>
    conv => whnf
    exact exit_plain rfl (by rw [termAt, if_neg h0, he]; rfl)

def fits (h : Hrd) (i t : Int) : Bool := t != -1 && termAt h i == t
theorem c_Fits (a : Hrd) (hm : a.log.length ≤ maxLen) (hb : isI a.base) (i : Int) (hi : isI i) (t : Int) : Ctr Try.prog 131 [.ag a.enc, iv i, iv t] (bv (fits a i t)) [] := by
  refine spec_of_body mixed Try.func131 rfl (by kernel_rfl) (by kernel_rfl) ?_; conv => whnf
  ((first | (with_reducible refine split_dec (fun h => ?_) (fun h => ?_)) | (with_reducible refine split_beq (fun h => ?_) (fun h => ?_)) | (with_reducible refine split_bne (fun h => ?_) (fun h => ?_)) | (with_reducible refine split_not (fun h => ?_) (fun h => ?_)) | (with_reducible refine split_beqS (fun h => ?_) (fun h => ?_)) | (with_reducible refine split_intro (fun h => ?_) (fun h => ?_))) <;> conv => whnf)
  · ((try ((refine Exists.intro none ?_); (conv => whnf))); first | ((with_reducible refine call_by (c_Term a hm hb i hi) ?_); conv => whnf))
    exact exit_plain rfl (by simp [fits, h])
  · exact exit_plain rfl (by simp [fits, h])

theorem c_looked17 (h : Hrd) : Ctr Try.prog 66 [.ag h.enc] (bv (withinB h.base 0 1099511627776)) [] := by
  refine spec_of_body mixed Try.func66 rfl (by kernel_rfl) (by kernel_rfl) ?_; conv => whnf
  repeat' ((first | (with_reducible refine split_dec (fun h => ?_) (fun h => ?_)) | (with_reducible refine split_beq (fun h => ?_) (fun h => ?_)) | (with_reducible refine split_bne (fun h => ?_) (fun h => ?_)) | (with_reducible refine split_not (fun h => ?_) (fun h => ?_)) | (with_reducible refine split_beqS (fun h => ?_) (fun h => ?_)) | (with_reducible refine split_intro (fun h => ?_) (fun h => ?_))) <;> conv => whnf)
  all_goals (refine exit_plain rfl ?_; simp [withinB, *])

/-- The reference's: where no sum wraps. -/
theorem c_rAt (a : Hrd) (hm : a.log.length ≤ maxLen) (hb : 0 ≤ a.base) (hs : a.base + a.log.length < 9223372036854775808) (i : Int) (hi : isI i) : Ctr Try.prog 127 [.ag a.enc, iv i] (.tu [.ag ((entAt a i).getD ez).enc, bv (entAt a i).isSome]) [] := by
  have hm' : a.log.length ≤ 9223372036854775807 := Nat.le_trans hm (by decide)
  unfold isI at hi
  refine spec_of_body mixed Try.func127 rfl (by kernel_rfl) (by kernel_rfl) ?_; conv => whnf
  ((first | (with_reducible refine split_dec (fun h => ?_) (fun h => ?_)) | (with_reducible refine split_beq (fun h => ?_) (fun h => ?_)) | (with_reducible refine split_bne (fun h => ?_) (fun h => ?_)) | (with_reducible refine split_not (fun h => ?_) (fun h => ?_)) | (with_reducible refine split_beqS (fun h => ?_) (fun h => ?_)) | (with_reducible refine split_intro (fun h => ?_) (fun h => ?_))) <;> conv => whnf)
  · refine exit_plain rfl ?_
    rw [entAt_none (by omega)]; rfl
  have h0 := h
  ((first | (with_reducible refine split_dec (fun h => ?_) (fun h => ?_)) | (with_reducible refine split_beq (fun h => ?_) (fun h => ?_)) | (with_reducible refine split_bne (fun h => ?_) (fun h => ?_)) | (with_reducible refine split_not (fun h => ?_) (fun h => ?_)) | (with_reducible refine split_beqS (fun h => ?_) (fun h => ?_)) | (with_reducible refine split_intro (fun h => ?_) (fun h => ?_))) <;> conv => whnf)
  · refine exit_plain rfl ?_
    simp only [List.length_map] at h
    rw [wrap_id (by omega) (by omega)] at h
    rw [entAt_none (by omega)]; rfl
  · simp only [List.length_map] at h
    rw [wrap_id (by omega) (by omega)] at h
    have e2 : IntKind.i64.wrap (IntKind.i64.wrap (i - a.base) - 1) = ((i - a.base - 1).toNat : Int) := by
      rw [wrap_id (n := i - a.base) (by omega) (by omega), wrap_id (by omega) (by omega)]; omega
    obtain ⟨r1, r2⟩ := row_at' (f := Ent.enc) (l := a.log) e2 (by omega)
    refine ⟨r1, _, r2, ?_⟩
    conv => whnf
    refine exit_plain rfl ?_
    rw [entAt_some (by omega) (by omega)]; rfl

theorem c_rTerm (a : Hrd) (hm : a.log.length ≤ maxLen) (hb : 0 ≤ a.base) (hs : a.base + a.log.length < 9223372036854775808) (i : Int) (hi : isI i) : Ctr Try.prog 69 [.ag a.enc, iv i] (iv (termAt a i)) [] := by
  refine spec_of_body mixed Try.func69 rfl (by kernel_rfl) (by kernel_rfl) ?_; conv => whnf
  ((first | (with_reducible refine split_dec (fun h => ?_) (fun h => ?_)) | (with_reducible refine split_beq (fun h => ?_) (fun h => ?_)) | (with_reducible refine split_bne (fun h => ?_) (fun h => ?_)) | (with_reducible refine split_not (fun h => ?_) (fun h => ?_)) | (with_reducible refine split_beqS (fun h => ?_) (fun h => ?_)) | (with_reducible refine split_intro (fun h => ?_) (fun h => ?_))) <;> conv => whnf)
  · exact exit_plain rfl (by rw [termAt, if_pos h])
  have h0 := h
  ((try ((refine Exists.intro none ?_); (conv => whnf))); first | ((with_reducible refine call_by (c_rAt a hm hb hs i hi) ?_); conv => whnf))
  cases he : entAt a i with
  | none =>
    conv => whnf
    exact exit_plain rfl (by rw [termAt, if_neg h0, he])
  | some x =>
    conv => whnf
    exact exit_plain rfl (by rw [termAt, if_neg h0, he]; rfl)
end Go.Proofs
