/- Contracts of functions: a message that may come; a message is taken. -/
import Derived.Test.YtbhfokahocgndaaGreatH16
set_option linter.unusedSimpArgs false
set_option linter.unusedVariables false
namespace Go.Proofs
open Go.Pv
set_option maxRecDepth 100000

noncomputable def rightM (r : Rft) (m : Mg) : Bool := inR 6 m.frm && (decide (¬ m.frm = r.id) && (decide (m.to = r.id) && (decide (1 ≤ m.kind) && (decide (m.kind ≤ 8) && ((inR far m.term && inR far m.logTerm) && (inR far m.index && inR far m.round))))))
set_option maxHeartbeats 2000000 in
theorem c_right (r : Rft) (m : Mg) : Ctr Tryz.prog 76 [.ag r.enc, .ag m.enc] (bv (rightM r m)) [] := by
  have k1 := c_rWithin1 6 m.frm
  have k2 := c_rWithin2 far m.term m.logTerm
  have k3 := c_rWithin2 far m.index m.round
  unfold rightM
  generalize inR 6 m.frm = b1 at *
  generalize (inR far m.term && inR far m.logTerm) = b2 at *
  generalize (inR far m.index && inR far m.round) = b3 at *
  cases b1 with
  | false =>
    refine spec_of_body mixed Tryz.func76 rfl (by kernel_rfl) (by kernel_rfl) ?_; conv => whnf
    ((try ((refine Exists.intro none ?_); (conv => whnf))); refine call_eq (k1) (by kernel_rfl) ?_; conv => whnf)
    exact exit_plain rfl (by simp)
  | true =>
  refine spec_of_body mixed Tryz.func76 rfl (by kernel_rfl) (by kernel_rfl) ?_; conv => whnf
  ((try ((refine Exists.intro none ?_); (conv => whnf))); refine call_eq (k1) (by kernel_rfl) ?_; conv => whnf)
  ((first | (with_reducible refine split_dec (fun h => ?_) (fun h => ?_)) | (with_reducible refine split_beq (fun h => ?_) (fun h => ?_)) | (with_reducible refine split_bne (fun h => ?_) (fun h => ?_)) | (with_reducible refine split_not (fun h => ?_) (fun h => ?_)) | (with_reducible refine split_beqS (fun h => ?_) (fun h => ?_)) | (with_reducible refine split_intro (fun h => ?_) (fun h => ?_))) <;> conv => whnf)
  · have g1 := h
    clear h
    ((first | (with_reducible refine split_dec (fun h => ?_) (fun h => ?_)) | (with_reducible refine split_beq (fun h => ?_) (fun h => ?_)) | (with_reducible refine split_bne (fun h => ?_) (fun h => ?_)) | (with_reducible refine split_not (fun h => ?_) (fun h => ?_)) | (with_reducible refine split_beqS (fun h => ?_) (fun h => ?_)) | (with_reducible refine split_intro (fun h => ?_) (fun h => ?_))) <;> conv => whnf)
    · have g2 := h
      clear h
      ((first | (with_reducible refine split_dec (fun h => ?_) (fun h => ?_)) | (with_reducible refine split_beq (fun h => ?_) (fun h => ?_)) | (with_reducible refine split_bne (fun h => ?_) (fun h => ?_)) | (with_reducible refine split_not (fun h => ?_) (fun h => ?_)) | (with_reducible refine split_beqS (fun h => ?_) (fun h => ?_)) | (with_reducible refine split_intro (fun h => ?_) (fun h => ?_))) <;> conv => whnf)
      · have g3 := h
        clear h
        ((first | (with_reducible refine split_dec (fun h => ?_) (fun h => ?_)) | (with_reducible refine split_beq (fun h => ?_) (fun h => ?_)) | (with_reducible refine split_bne (fun h => ?_) (fun h => ?_)) | (with_reducible refine split_not (fun h => ?_) (fun h => ?_)) | (with_reducible refine split_beqS (fun h => ?_) (fun h => ?_)) | (with_reducible refine split_intro (fun h => ?_) (fun h => ?_))) <;> conv => whnf)
        · have g4 := h
          clear h
          cases b2 with
          | false =>
            ((try ((refine Exists.intro none ?_); (conv => whnf))); refine call_eq (k2) (by kernel_rfl) ?_; conv => whnf)
            exact exit_plain rfl (by simp [*])
          | true =>
          ((try ((refine Exists.intro none ?_); (conv => whnf))); refine call_eq (k2) (by kernel_rfl) ?_; conv => whnf)
          cases b3 with
          | false =>
            ((try ((refine Exists.intro none ?_); (conv => whnf))); refine call_eq (k3) (by kernel_rfl) ?_; conv => whnf)
            exact exit_plain rfl (by simp [*])
          | true =>
          ((try ((refine Exists.intro none ?_); (conv => whnf))); refine call_eq (k3) (by kernel_rfl) ?_; conv => whnf)
          exact exit_plain rfl (by simp [*])
        · exact exit_plain rfl (by simp [*])
      · exact exit_plain rfl (by simp [*])
    · exact exit_plain rfl (by simp [*])
  · exact exit_plain rfl (by simp [*])
/-- No replica. -/
abbrev rzv : List PV := [iv 0, iv 0, iv 0, iv 0, iv 0, iv 0, iv 0, iv 0, iv 0, .nl, .nl, iv 0, iv 0, iv 0, iv 0, iv 0, iv 0, iv 0, iv 0, iv 0, iv 0, iv 0, iv 0, iv 0, iv 0, iv 0, iv 0, iv 0, iv 0, iv 0, iv 0, iv 0, iv 0, iv 0, iv 0, iv 0, iv 0, iv 0, iv 0, .nl]
set_option maxHeartbeats 2000000 in
theorem c_Take_ok (r : Rft) (m : Mg) (h1 : r.hard.snap.length ≤ 4294967296) (h2 : r.hard.log.length ≤ 4294967296) (h3 : r.reads.length ≤ 4294967296) (hr : rightB r = true) (hm : rightM r m = true) (R : Rft) (O : List (List PV))
    (k : CtrE Tryz.prog 77 [.pt 1000000 0, .ag m.enc] [(1000000, repI r [])] (obI r []) (iv 0) [(1000000, repX R ([] ++ O))] obX) : Ctr Tryz.prog 29 [.ag r.enc, .ag m.enc] (.tu [.ag R.enc, .sl 16 O, iv 0]) [] := by
  have ko := c_of r h1 h2 h3 hr
  have kr := c_right r m
  rw [hm] at kr
  refine spec_of_body mixed Tryz.func29 rfl (by kernel_rfl) (by kernel_rfl) ?_; conv => whnf
  ((refine Exists.intro (some ([(28, 500)], [], [(0, 600), (1, 601), (2, 602), (3, 603)])) ?_); (conv => whnf); first | ((with_reducible refine callE_by (ko) ?_); conv => whnf))
  ((try ((refine Exists.intro none ?_); (conv => whnf))); first | ((with_reducible refine call_by (kr) ?_); conv => whnf))
  ((refine Exists.intro (some ([(1000000, 500)], [(1000000, 600), (1000001, 601), (1000002, 602), (1000003, 603)], [])) ?_); (conv => whnf); refine callE_eq (k) (by kernel_rfl) (by kernel_rfl) (by kernel_rfl) ?_; conv => whnf)
  exact exit_plain rfl rfl
end Go.Proofs
