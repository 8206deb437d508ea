/- Contracts of functions: a log's last entry, newer logs, votes. -/
import Derived.Test.YtnphfgphajejaaaC6
import Derived.Test.YtnphfgphajejaaaC2
namespace Go.Proofs
open Go.Pv
set_option maxRecDepth 100000

def lastT (h : Hrd) : Int := match h.log.getLast? with
  | none => h.baseTerm
  | some x => x.term
def lastI (h : Hrd) : Int := if h.log.length = 0 then h.base else w64 (h.base + h.log.length)

theorem last_at {l : List Ent} (h : l.length ≠ 0) (hm : l.length ≤ maxLen) : 0 ≤ w64 ((l.length : Int) - 1) ∧ (l.map Ent.enc)[(w64 ((l.length : Int) - 1)).toNat]? = some (l.getLast (by intro e; rw [e] at h; exact h rfl)).enc := by
  have hm' : l.length ≤ 9223372036854775807 := Nat.le_trans hm (by decide)
  rw [show w64 ((l.length : Int) - 1) = ((l.length - 1 : Nat) : Int) from by rw [show w64 ((l.length : Int) - 1) = (l.length : Int) - 1 from wrap_id (by omega) (by omega)]; omega]
  refine ⟨by omega, ?_⟩
  rw [row_at (by omega), List.getLast_eq_getElem]

theorem lastT_some {h : Hrd} (hl : h.log ≠ []) : lastT h = (h.log.getLast hl).term := by
  unfold lastT; first | rw [List.getLast?_eq_some_getLast hl] | rw [List.getLast?_eq_getLast hl] | rw [List.getLast?_eq_getLast_of_ne_nil hl]

theorem c_Last (a : Hrd) (hm : a.log.length ≤ maxLen) : Ctr Try.prog 123 [.ag a.enc] (.tu [iv (lastI a), iv (lastT a)]) [] := by
  refine spec_of_body mixed Try.func123 rfl (by kernel_rfl) (by kernel_rfl) ?_; conv => whnf
  ((first | (with_reducible refine split_dec (fun h => ?_) (fun h => ?_)) | (with_reducible refine split_beq (fun h => ?_) (fun h => ?_)) | (with_reducible refine split_bne (fun h => ?_) (fun h => ?_)) | (with_reducible refine split_not (fun h => ?_) (fun h => ?_)) | (with_reducible refine split_beqS (fun h => ?_) (fun h => ?_)) | (with_reducible refine split_intro (fun h => ?_) (fun h => ?_))) <;> conv => whnf)
  · have h0 : a.log = [] := by
      simp only [List.length_map] at *
      exact List.eq_nil_of_length_eq_zero (by omega)
    refine exit_plain rfl ?_
    simp [lastI, lastT, h0]
  · simp only [List.length_map] at *
    obtain ⟨h1, h2⟩ := last_at (l := a.log) (by omega) hm
    refine ⟨h1, _, h2, ?_⟩
    conv => whnf
    refine exit_plain rfl ?_
    have hne : a.log ≠ [] := fun e => by simp_all
    rw [lastT_some hne, lastI, if_neg (by omega)]

theorem c_rLast (a : Hrd) (hm : a.log.length ≤ maxLen) : Ctr Try.prog 45 [.ag a.enc] (.tu [iv (lastI a), iv (lastT a)]) [] := by
  refine spec_of_body mixed Try.func45 rfl (by kernel_rfl) (by kernel_rfl) ?_; conv => whnf
  ((first | (with_reducible refine split_dec (fun h => ?_) (fun h => ?_)) | (with_reducible refine split_beq (fun h => ?_) (fun h => ?_)) | (with_reducible refine split_bne (fun h => ?_) (fun h => ?_)) | (with_reducible refine split_not (fun h => ?_) (fun h => ?_)) | (with_reducible refine split_beqS (fun h => ?_) (fun h => ?_)) | (with_reducible refine split_intro (fun h => ?_) (fun h => ?_))) <;> conv => whnf)
  · have h0 : a.log = [] := by
      simp only [List.length_map] at *
      exact List.eq_nil_of_length_eq_zero (by omega)
    refine exit_plain rfl ?_
    simp [lastI, lastT, h0]
  · simp only [List.length_map] at *
    obtain ⟨h1, h2⟩ := last_at (l := a.log) (by omega) hm
    refine ⟨h1, _, h2, ?_⟩
    conv => whnf
    refine exit_plain rfl ?_
    have hne : a.log ≠ [] := fun e => by simp_all
    rw [lastT_some hne, lastI, if_neg (by omega)]

def newer (h : Hrd) (i t : Int) : Bool := decide (lastT h < t) || (t == lastT h && decide (lastI h ≤ i))
theorem c_Newer (h : Hrd) (hm : h.log.length ≤ maxLen) (i t : Int) : Ctr Try.prog 124 [.ag h.enc, iv i, iv t] (bv (newer h i t)) [] := by
  refine spec_of_body mixed Try.func124 rfl (by kernel_rfl) (by kernel_rfl) ?_; conv => whnf
  ((try ((refine Exists.intro none ?_); (conv => whnf))); first | ((with_reducible refine call_by (c_Last h hm) ?_); conv => whnf))
  repeat' ((first | (with_reducible refine split_dec (fun h => ?_) (fun h => ?_)) | (with_reducible refine split_beq (fun h => ?_) (fun h => ?_)) | (with_reducible refine split_bne (fun h => ?_) (fun h => ?_)) | (with_reducible refine split_not (fun h => ?_) (fun h => ?_)) | (with_reducible refine split_beqS (fun h => ?_) (fun h => ?_)) | (with_reducible refine split_intro (fun h => ?_) (fun h => ?_))) <;> conv => whnf)
  all_goals (refine exit_plain rfl ?_; simp [newer, *])
theorem c_rNewer (h : Hrd) (hm : h.log.length ≤ maxLen) (i t : Int) : Ctr Try.prog 133 [.ag h.enc, iv i, iv t] (bv (newer h i t)) [] := by
  refine spec_of_body mixed Try.func133 rfl (by kernel_rfl) (by kernel_rfl) ?_; conv => whnf
  ((try ((refine Exists.intro none ?_); (conv => whnf))); first | ((with_reducible refine call_by (c_rLast h hm) ?_); conv => whnf))
  repeat' ((first | (with_reducible refine split_dec (fun h => ?_) (fun h => ?_)) | (with_reducible refine split_beq (fun h => ?_) (fun h => ?_)) | (with_reducible refine split_bne (fun h => ?_) (fun h => ?_)) | (with_reducible refine split_not (fun h => ?_) (fun h => ?_)) | (with_reducible refine split_beqS (fun h => ?_) (fun h => ?_)) | (with_reducible refine split_intro (fun h => ?_) (fun h => ?_))) <;> conv => whnf)
  all_goals (refine exit_plain rfl ?_; simp [newer, *])

def asked (r : Rft) (m : Mg) : Bool := decide (r.hard.term < m.term) && (r.role != 3 && (decide (6 ≤ r.quiet) && newer r.hard m.index m.logTerm))
theorem c_Asked (r : Rft) (hm : r.hard.log.length ≤ maxLen) (m : Mg) : Ctr Try.prog 46 [.ag r.enc, .ag m.enc] (bv (asked r m)) [] := by
  refine spec_of_body mixed Try.func46 rfl (by kernel_rfl) (by kernel_rfl) ?_; conv => whnf
  repeat' (first | ((try ((refine Exists.intro none ?_); (conv => whnf))); first | ((with_reducible refine call_by (c_Newer r.hard hm _ _) ?_); conv => whnf)) | ((first | (with_reducible refine split_dec (fun h => ?_) (fun h => ?_)) | (with_reducible refine split_beq (fun h => ?_) (fun h => ?_)) | (with_reducible refine split_bne (fun h => ?_) (fun h => ?_)) | (with_reducible refine split_not (fun h => ?_) (fun h => ?_)) | (with_reducible refine split_beqS (fun h => ?_) (fun h => ?_)) | (with_reducible refine split_intro (fun h => ?_) (fun h => ?_))) <;> conv => whnf))
  all_goals (refine exit_plain rfl ?_; simp [asked, *])
theorem c_rAsked (r : Rft) (hm : r.hard.log.length ≤ maxLen) (m : Mg) : Ctr Try.prog 61 [.ag r.enc, .ag m.enc] (bv (asked r m)) [] := by
  refine spec_of_body mixed Try.func61 rfl (by kernel_rfl) (by kernel_rfl) ?_; conv => whnf
  repeat' (first | ((try ((refine Exists.intro none ?_); (conv => whnf))); first | ((with_reducible refine call_by (c_rNewer r.hard hm _ _) ?_); conv => whnf)) | ((first | (with_reducible refine split_dec (fun h => ?_) (fun h => ?_)) | (with_reducible refine split_beq (fun h => ?_) (fun h => ?_)) | (with_reducible refine split_bne (fun h => ?_) (fun h => ?_)) | (with_reducible refine split_not (fun h => ?_) (fun h => ?_)) | (with_reducible refine split_beqS (fun h => ?_) (fun h => ?_)) | (with_reducible refine split_intro (fun h => ?_) (fun h => ?_))) <;> conv => whnf))
  all_goals (refine exit_plain rfl ?_; simp [asked, *])

def voted (r : Rft) (m : Mg) : Bool := m.term == r.hard.term && ((r.hard.vote == -1 || r.hard.vote == m.frm) && newer r.hard m.index m.logTerm)
theorem c_Voted (r : Rft) (hm : r.hard.log.length ≤ maxLen) (m : Mg) : Ctr Try.prog 44 [.ag r.enc, .ag m.enc] (bv (voted r m)) [] := by
  refine spec_of_body mixed Try.func44 rfl (by kernel_rfl) (by kernel_rfl) ?_; conv => whnf
  repeat' (first | ((try ((refine Exists.intro none ?_); (conv => whnf))); first | ((with_reducible refine call_by (c_Newer r.hard hm _ _) ?_); conv => whnf)) | ((first | (with_reducible refine split_dec (fun h => ?_) (fun h => ?_)) | (with_reducible refine split_beq (fun h => ?_) (fun h => ?_)) | (with_reducible refine split_bne (fun h => ?_) (fun h => ?_)) | (with_reducible refine split_not (fun h => ?_) (fun h => ?_)) | (with_reducible refine split_beqS (fun h => ?_) (fun h => ?_)) | (with_reducible refine split_intro (fun h => ?_) (fun h => ?_))) <;> conv => whnf))
  all_goals (refine exit_plain rfl ?_; simp [voted, *])
theorem c_rVoted (r : Rft) (hm : r.hard.log.length ≤ maxLen) (m : Mg) : Ctr Try.prog 62 [.ag r.enc, .ag m.enc] (bv (voted r m)) [] := by
  refine spec_of_body mixed Try.func62 rfl (by kernel_rfl) (by kernel_rfl) ?_; conv => whnf
  repeat' (first | ((try ((refine Exists.intro none ?_); (conv => whnf))); first | ((with_reducible refine call_by (c_rNewer r.hard hm _ _) ?_); conv => whnf)) | ((first | (with_reducible refine split_dec (fun h => ?_) (fun h => ?_)) | (with_reducible refine split_beq (fun h => ?_) (fun h => ?_)) | (with_reducible refine split_bne (fun h => ?_) (fun h => ?_)) | (with_reducible refine split_not (fun h => ?_) (fun h => ?_)) | (with_reducible refine split_beqS (fun h => ?_) (fun h => ?_)) | (with_reducible refine split_intro (fun h => ?_) (fun h => ?_))) <;> conv => whnf))
  all_goals (refine exit_plain rfl ?_; simp [voted, *])
end Go.Proofs
