/- Contracts of functions: steps of configurations (the program's). -/
import Derived.Test.YtnphfgphajejaaaC2
namespace Go.Proofs
open Go.Pv
set_option maxRecDepth 100000

theorem c_node (i : Int) : Ctr Try.prog 189 [iv i] (bv (withinB i 0 6)) [] := by
  refine spec_of_body mixed Try.func189 rfl (by kernel_rfl) (by kernel_rfl) ?_; conv => whnf
  repeat' ((first | (with_reducible refine split_dec (fun h => ?_) (fun h => ?_)) | (with_reducible refine split_beq (fun h => ?_) (fun h => ?_)) | (with_reducible refine split_bne (fun h => ?_) (fun h => ?_)) | (with_reducible refine split_not (fun h => ?_) (fun h => ?_)) | (with_reducible refine split_beqS (fun h => ?_) (fun h => ?_)) | (with_reducible refine split_intro (fun h => ?_) (fun h => ?_))) <;> conv => whnf)
  all_goals (refine exit_plain rfl (congrArg (fun b : Bool => bv b) ?_); simp only [withinB])
  · rw [decide_eq_true h, Bool.true_and]; exact decide_eq_decide.2 (by omega)
  · rw [decide_eq_false (by omega)]; rfl

noncomputable def wrongR (c : Conf) (i : Int) : Int := if confB c then (if withinB i 0 6 then 0 else 1) else 14
theorem c_wrong (c : Conf) (i : Int) : Ctr Try.prog 186 [.ag c.enc, iv i] (iv (wrongR c i)) [] := by
  refine spec_of_body mixed Try.func186 rfl (by kernel_rfl) (by kernel_rfl) ?_; conv => whnf
  ((try ((refine Exists.intro none ?_); (conv => whnf))); first | ((with_reducible refine call_by (c_Check c) ?_); conv => whnf))
  cases hc : confB c
  · simp only [Bool.false_eq_true, if_false]
    conv => whnf
    exact exit_plain rfl (by simp [wrongR, hc])
  · simp only [if_true]
    conv => whnf
    ((try ((refine Exists.intro none ?_); (conv => whnf))); first | ((with_reducible refine call_by (c_node _) ?_); conv => whnf))
    ((first | (with_reducible refine split_dec (fun h => ?_) (fun h => ?_)) | (with_reducible refine split_beq (fun h => ?_) (fun h => ?_)) | (with_reducible refine split_bne (fun h => ?_) (fun h => ?_)) | (with_reducible refine split_not (fun h => ?_) (fun h => ?_)) | (with_reducible refine split_beqS (fun h => ?_) (fun h => ?_)) | (with_reducible refine split_intro (fun h => ?_) (fun h => ?_))) <;> conv => whnf)
    · exact exit_plain rfl (by simp [wrongR, hc, h])
    · exact exit_plain rfl (by simp [wrongR, hc, h])

abbrev cz : Conf := ⟨0, 0, 0, 0⟩
noncomputable def steppedR (c : Conf) : Conf × Int := if confB c then (c, 0) else (cz, 14)
abbrev cev (x : Conf × Int) : PV := .tu [.ag x.1.enc, iv x.2]
theorem c_stepped (c : Conf) : Ctr Try.prog 188 [.ag c.enc] (cev (steppedR c)) [] := by
  refine spec_of_body mixed Try.func188 rfl (by kernel_rfl) (by kernel_rfl) ?_; conv => whnf
  ((try ((refine Exists.intro none ?_); (conv => whnf))); first | ((with_reducible refine call_by (c_Check c) ?_); conv => whnf))
  cases hc : confB c
  · simp only [Bool.false_eq_true, if_false]
    conv => whnf
    exact exit_plain rfl (by simp [steppedR, hc])
  · simp only [if_true]
    conv => whnf
    exact exit_plain rfl (by simp [steppedR, hc])

noncomputable def allB (c : Conf) : Int := bor (bor (bor c.full c.wit) c.learn) c.lwit

noncomputable def learnR (c : Conf) (i : Int) (wit : Bool) : Conf × Int :=
  if wrongR c i = 0 then
    if band (allB c) (shl 1 i) = 0 then (if wit then steppedR ⟨c.full, c.wit, c.learn, bor c.lwit (shl 1 i)⟩ else steppedR ⟨c.full, c.wit, bor c.learn (shl 1 i), c.lwit⟩) else (cz, 14)
  else (cz, wrongR c i)

theorem wrongR0 {c : Conf} {i : Int} (h : wrongR c i = 0) : confB c = true ∧ 0 ≤ i ∧ i < 7 := by
  unfold wrongR at h
  cases hc : confB c <;> simp [hc] at h
  simp [withinB] at h; exact ⟨rfl, by omega⟩

theorem c_Learn (c : Conf) (i : Int) (wit : Bool) : Ctr Try.prog 93 [.ag c.enc, iv i, bv wit] (cev (learnR c i wit)) [] := by
  refine spec_of_body mixed Try.func93 rfl (by kernel_rfl) (by kernel_rfl) ?_; conv => whnf
  ((try ((refine Exists.intro none ?_); (conv => whnf))); first | ((with_reducible refine call_by (c_wrong c _) ?_); conv => whnf))
  ((first | (with_reducible refine split_dec (fun h => ?_) (fun h => ?_)) | (with_reducible refine split_beq (fun h => ?_) (fun h => ?_)) | (with_reducible refine split_bne (fun h => ?_) (fun h => ?_)) | (with_reducible refine split_not (fun h => ?_) (fun h => ?_)) | (with_reducible refine split_beqS (fun h => ?_) (fun h => ?_)) | (with_reducible refine split_intro (fun h => ?_) (fun h => ?_))) <;> conv => whnf)
  · exact exit_plain rfl (by simp [learnR, allB, band, bor, bandn, shl, *])
  · have hw := wrongR0 h
    ((with_reducible refine And.intro (And.intro (by first | decide | omega) (by first | decide | omega)) ?_); conv => whnf)
    ((try ((refine Exists.intro none ?_); (conv => whnf))); first | ((with_reducible refine call_by (c_All c) ?_); conv => whnf))
    ((first | (with_reducible refine split_dec (fun h => ?_) (fun h => ?_)) | (with_reducible refine split_beq (fun h => ?_) (fun h => ?_)) | (with_reducible refine split_bne (fun h => ?_) (fun h => ?_)) | (with_reducible refine split_not (fun h => ?_) (fun h => ?_)) | (with_reducible refine split_beqS (fun h => ?_) (fun h => ?_)) | (with_reducible refine split_intro (fun h => ?_) (fun h => ?_))) <;> conv => whnf)
    · exact exit_plain rfl (by simp [learnR, allB, band, bor, bandn, shl, *])
    · ((first | (with_reducible refine split_dec (fun h => ?_) (fun h => ?_)) | (with_reducible refine split_beq (fun h => ?_) (fun h => ?_)) | (with_reducible refine split_bne (fun h => ?_) (fun h => ?_)) | (with_reducible refine split_not (fun h => ?_) (fun h => ?_)) | (with_reducible refine split_beqS (fun h => ?_) (fun h => ?_)) | (with_reducible refine split_intro (fun h => ?_) (fun h => ?_))) <;> conv => whnf)
      · ((try ((refine Exists.intro none ?_); (conv => whnf))); first | ((with_reducible refine call_by (c_stepped ⟨c.full, c.wit, c.learn, bor c.lwit (shl 1 i)⟩) ?_); conv => whnf))
        exact exit_plain rfl (by simp [learnR, allB, band, bor, bandn, shl, *])
      · ((try ((refine Exists.intro none ?_); (conv => whnf))); first | ((with_reducible refine call_by (c_stepped ⟨c.full, c.wit, bor c.learn (shl 1 i), c.lwit⟩) ?_); conv => whnf))
        exact exit_plain rfl (by simp [learnR, allB, band, bor, bandn, shl, *])

noncomputable def promoteR (c : Conf) (i : Int) : Conf × Int :=
  if wrongR c i = 0 then
    if band c.learn (shl 1 i) = 0 then (if band c.lwit (shl 1 i) = 0 then (cz, 14) else steppedR ⟨c.full, bor c.wit (shl 1 i), c.learn, bandn c.lwit (shl 1 i)⟩)
    else steppedR ⟨bor c.full (shl 1 i), c.wit, bandn c.learn (shl 1 i), c.lwit⟩
  else (cz, wrongR c i)

theorem c_Promote (c : Conf) (i : Int) : Ctr Try.prog 95 [.ag c.enc, iv i] (cev (promoteR c i)) [] := by
  refine spec_of_body mixed Try.func95 rfl (by kernel_rfl) (by kernel_rfl) ?_; conv => whnf
  ((try ((refine Exists.intro none ?_); (conv => whnf))); first | ((with_reducible refine call_by (c_wrong c _) ?_); conv => whnf))
  ((first | (with_reducible refine split_dec (fun h => ?_) (fun h => ?_)) | (with_reducible refine split_beq (fun h => ?_) (fun h => ?_)) | (with_reducible refine split_bne (fun h => ?_) (fun h => ?_)) | (with_reducible refine split_not (fun h => ?_) (fun h => ?_)) | (with_reducible refine split_beqS (fun h => ?_) (fun h => ?_)) | (with_reducible refine split_intro (fun h => ?_) (fun h => ?_))) <;> conv => whnf)
  · exact exit_plain rfl (by simp [promoteR, allB, band, bor, bandn, shl, *])
  · have hw := wrongR0 h
    ((with_reducible refine And.intro (And.intro (by first | decide | omega) (by first | decide | omega)) ?_); conv => whnf)
    ((first | (with_reducible refine split_dec (fun h => ?_) (fun h => ?_)) | (with_reducible refine split_beq (fun h => ?_) (fun h => ?_)) | (with_reducible refine split_bne (fun h => ?_) (fun h => ?_)) | (with_reducible refine split_not (fun h => ?_) (fun h => ?_)) | (with_reducible refine split_beqS (fun h => ?_) (fun h => ?_)) | (with_reducible refine split_intro (fun h => ?_) (fun h => ?_))) <;> conv => whnf)
    · ((try ((refine Exists.intro none ?_); (conv => whnf))); first | ((with_reducible refine call_by (c_stepped ⟨bor c.full (shl 1 i), c.wit, bandn c.learn (shl 1 i), c.lwit⟩) ?_); conv => whnf))
      exact exit_plain rfl (by simp [promoteR, allB, band, bor, bandn, shl, *])
    · ((first | (with_reducible refine split_dec (fun h => ?_) (fun h => ?_)) | (with_reducible refine split_beq (fun h => ?_) (fun h => ?_)) | (with_reducible refine split_bne (fun h => ?_) (fun h => ?_)) | (with_reducible refine split_not (fun h => ?_) (fun h => ?_)) | (with_reducible refine split_beqS (fun h => ?_) (fun h => ?_)) | (with_reducible refine split_intro (fun h => ?_) (fun h => ?_))) <;> conv => whnf)
      · ((try ((refine Exists.intro none ?_); (conv => whnf))); first | ((with_reducible refine call_by (c_stepped ⟨c.full, bor c.wit (shl 1 i), c.learn, bandn c.lwit (shl 1 i)⟩) ?_); conv => whnf))
        exact exit_plain rfl (by simp [promoteR, allB, band, bor, bandn, shl, *])
      · exact exit_plain rfl (by simp [promoteR, allB, band, bor, bandn, shl, *])

noncomputable def removeR (c : Conf) (i : Int) : Conf × Int :=
  if wrongR c i = 0 then
    if band (allB c) (shl 1 i) = 0 then (cz, 14) else steppedR ⟨bandn c.full (shl 1 i), bandn c.wit (shl 1 i), bandn c.learn (shl 1 i), bandn c.lwit (shl 1 i)⟩
  else (cz, wrongR c i)

theorem c_Remove (c : Conf) (i : Int) : Ctr Try.prog 94 [.ag c.enc, iv i] (cev (removeR c i)) [] := by
  refine spec_of_body mixed Try.func94 rfl (by kernel_rfl) (by kernel_rfl) ?_; conv => whnf
  ((try ((refine Exists.intro none ?_); (conv => whnf))); first | ((with_reducible refine call_by (c_wrong c _) ?_); conv => whnf))
  ((first | (with_reducible refine split_dec (fun h => ?_) (fun h => ?_)) | (with_reducible refine split_beq (fun h => ?_) (fun h => ?_)) | (with_reducible refine split_bne (fun h => ?_) (fun h => ?_)) | (with_reducible refine split_not (fun h => ?_) (fun h => ?_)) | (with_reducible refine split_beqS (fun h => ?_) (fun h => ?_)) | (with_reducible refine split_intro (fun h => ?_) (fun h => ?_))) <;> conv => whnf)
  · exact exit_plain rfl (by simp [removeR, allB, band, bor, bandn, shl, *])
  · have hw := wrongR0 h
    ((with_reducible refine And.intro (And.intro (by first | decide | omega) (by first | decide | omega)) ?_); conv => whnf)
    ((try ((refine Exists.intro none ?_); (conv => whnf))); first | ((with_reducible refine call_by (c_All c) ?_); conv => whnf))
    ((first | (with_reducible refine split_dec (fun h => ?_) (fun h => ?_)) | (with_reducible refine split_beq (fun h => ?_) (fun h => ?_)) | (with_reducible refine split_bne (fun h => ?_) (fun h => ?_)) | (with_reducible refine split_not (fun h => ?_) (fun h => ?_)) | (with_reducible refine split_beqS (fun h => ?_) (fun h => ?_)) | (with_reducible refine split_intro (fun h => ?_) (fun h => ?_))) <;> conv => whnf)
    · exact exit_plain rfl (by simp [removeR, allB, band, bor, bandn, shl, *])
    · ((try ((refine Exists.intro none ?_); (conv => whnf))); first | ((with_reducible refine call_by (c_stepped ⟨bandn c.full (shl 1 i), bandn c.wit (shl 1 i), bandn c.learn (shl 1 i), bandn c.lwit (shl 1 i)⟩) ?_); conv => whnf))
      exact exit_plain rfl (by simp [removeR, allB, band, bor, bandn, shl, *])

noncomputable def kindR (c : Conf) (i : Int) : ByteArray :=
  if withinB i 0 6 then (if band c.full (shl 1 i) ≠ 0 then sFull else if band c.wit (shl 1 i) ≠ 0 then sWit else if band c.learn (shl 1 i) ≠ 0 then sLearn else if band c.lwit (shl 1 i) ≠ 0 then sLwit else sE) else sE

theorem c_Kind0 (c : Conf) (i : Int) : Ctr Try.prog 96 [.ag c.enc, iv i] (sv (kindR c i)) [] := by
  refine spec_of_body mixed Try.func96 rfl (by kernel_rfl) (by kernel_rfl) ?_; conv => whnf
  ((try ((refine Exists.intro none ?_); (conv => whnf))); first | ((with_reducible refine call_by (c_node _) ?_); conv => whnf))
  ((first | (with_reducible refine split_dec (fun h => ?_) (fun h => ?_)) | (with_reducible refine split_beq (fun h => ?_) (fun h => ?_)) | (with_reducible refine split_bne (fun h => ?_) (fun h => ?_)) | (with_reducible refine split_not (fun h => ?_) (fun h => ?_)) | (with_reducible refine split_beqS (fun h => ?_) (fun h => ?_)) | (with_reducible refine split_intro (fun h => ?_) (fun h => ?_))) <;> conv => whnf)
  · exact exit_plain rfl (by simp [kindR, h, sE])
  · have hn := h
    simp [withinB] at hn
    ((with_reducible refine And.intro (And.intro (by first | decide | omega) (by first | decide | omega)) ?_); conv => whnf)
    repeat' ((first | (with_reducible refine split_dec (fun h => ?_) (fun h => ?_)) | (with_reducible refine split_beq (fun h => ?_) (fun h => ?_)) | (with_reducible refine split_bne (fun h => ?_) (fun h => ?_)) | (with_reducible refine split_not (fun h => ?_) (fun h => ?_)) | (with_reducible refine split_beqS (fun h => ?_) (fun h => ?_)) | (with_reducible refine split_intro (fun h => ?_) (fun h => ?_))) <;> conv => whnf)
    all_goals exact exit_plain rfl (by simp [kindR, band, shl, sFull, sWit, sLearn, sLwit, sE, *])

theorem c_Quorum_e {c : Conf} {b : Int} {r : Bool} (h : quorum c b = r) : Ctr Try.prog 52 [.ag c.enc, iv b] (bv r) [] := by subst h; exact c_Quorum c b

end Go.Proofs
