/- Contracts of functions: whether a replica is right; one of one's own. -/
import Derived.Test.YtbhfokahocgndaaGreatH2
import Derived.Test.YtbhfokahocgndaaGreatC13
import Derived.Test.YtbhfokahocgndaaGreatC1
set_option linter.unusedSimpArgs false
set_option linter.unusedVariables false
namespace Go.Proofs
open Go.Pv
set_option maxRecDepth 100000

noncomputable def rdB (commit : Int) (x : Rd) : Bool := decide (callR x.call = 0) && (inR commit x.index && (inR far x.round && inR 127 x.acks))
noncomputable def rdsB (r : Rft) : Bool := if 4 < r.reads.length then false else if 0 < r.reads.length ∧ r.role ≠ 3 then false else r.reads.all (rdB r.commit)
set_option maxHeartbeats 2000000 in
theorem c_rightReads (r : Rft) (hm : r.reads.length ≤ maxLen) : Ctr Tryz.prog 132 [.ag r.enc] (bv (rdsB r)) [] := by
  have hlm : (r.reads.map Rd.enc).length = r.reads.length := List.length_map ..
  have hm' : r.reads.length ≤ 9223372036854775807 := Nat.le_trans hm (by decide)
  by_cases h4 : 4 < r.reads.length
  · rw [show rdsB r = false by unfold rdsB; rw [if_pos h4]]
    refine spec_of_body mixed Tryz.func132 rfl (by kernel_rfl) (by kernel_rfl) ?_; conv => whnf
    ((first | (with_reducible refine split_dec (fun h => ?_) (fun h => ?_)) | (with_reducible refine split_beq (fun h => ?_) (fun h => ?_)) | (with_reducible refine split_bne (fun h => ?_) (fun h => ?_)) | (with_reducible refine split_not (fun h => ?_) (fun h => ?_)) | (with_reducible refine split_beqS (fun h => ?_) (fun h => ?_)) | (with_reducible refine split_intro (fun h => ?_) (fun h => ?_))) <;> conv => whnf)
    · exact exit_plain rfl rfl
    · exfalso; omega
  have h4' : ¬ (4 : Int) < ((r.reads.map Rd.enc).length : Int) := by omega
  by_cases hz : 0 < r.reads.length ∧ r.role ≠ 3
  · rw [show rdsB r = false by unfold rdsB; rw [if_neg h4, if_pos hz]]
    refine spec_of_body mixed Tryz.func132 rfl (by kernel_rfl) (by kernel_rfl) ?_; conv => whnf
    ((first | (with_reducible refine split_dec (fun h => ?_) (fun h => ?_)) | (with_reducible refine split_beq (fun h => ?_) (fun h => ?_)) | (with_reducible refine split_bne (fun h => ?_) (fun h => ?_)) | (with_reducible refine split_not (fun h => ?_) (fun h => ?_)) | (with_reducible refine split_beqS (fun h => ?_) (fun h => ?_)) | (with_reducible refine split_intro (fun h => ?_) (fun h => ?_))) <;> conv => whnf)
    · exact exit_plain rfl rfl
    clear h
    ((first | (with_reducible refine split_dec (fun h => ?_) (fun h => ?_)) | (with_reducible refine split_beq (fun h => ?_) (fun h => ?_)) | (with_reducible refine split_bne (fun h => ?_) (fun h => ?_)) | (with_reducible refine split_not (fun h => ?_) (fun h => ?_)) | (with_reducible refine split_beqS (fun h => ?_) (fun h => ?_)) | (with_reducible refine split_intro (fun h => ?_) (fun h => ?_))) <;> conv => whnf)
    · ((first | (with_reducible refine split_dec (fun h => ?_) (fun h => ?_)) | (with_reducible refine split_beq (fun h => ?_) (fun h => ?_)) | (with_reducible refine split_bne (fun h => ?_) (fun h => ?_)) | (with_reducible refine split_not (fun h => ?_) (fun h => ?_)) | (with_reducible refine split_beqS (fun h => ?_) (fun h => ?_)) | (with_reducible refine split_intro (fun h => ?_) (fun h => ?_))) <;> conv => whnf)
      · exact exit_plain rfl rfl
      · exfalso; exact hz.2 (by first | exact h | exact Classical.byContradiction h)
    · exfalso; omega
  have e0 : rdsB r = r.reads.all (rdB r.commit) := by unfold rdsB; rw [if_neg h4, if_neg hz]
  rw [e0]
  have kw := fun x : Rd => c_sRight x.call
  clear e0
  refine spec_of_body mixed Tryz.func132 rfl (by kernel_rfl) (by kernel_rfl) ?_; conv => whnf
  ((first | (with_reducible refine split_dec (fun h => ?_) (fun h => ?_)) | (with_reducible refine split_beq (fun h => ?_) (fun h => ?_)) | (with_reducible refine split_bne (fun h => ?_) (fun h => ?_)) | (with_reducible refine split_not (fun h => ?_) (fun h => ?_)) | (with_reducible refine split_beqS (fun h => ?_) (fun h => ?_)) | (with_reducible refine split_intro (fun h => ?_) (fun h => ?_))) <;> conv => whnf)
  · exfalso; omega
  clear h
  ((first | (with_reducible refine split_dec (fun h => ?_) (fun h => ?_)) | (with_reducible refine split_beq (fun h => ?_) (fun h => ?_)) | (with_reducible refine split_bne (fun h => ?_) (fun h => ?_)) | (with_reducible refine split_not (fun h => ?_) (fun h => ?_)) | (with_reducible refine split_beqS (fun h => ?_) (fun h => ?_)) | (with_reducible refine split_intro (fun h => ?_) (fun h => ?_))) <;> conv => whnf)
  · have h0 := h
    clear h
    ((first | (with_reducible refine split_dec (fun h => ?_) (fun h => ?_)) | (with_reducible refine split_beq (fun h => ?_) (fun h => ?_)) | (with_reducible refine split_bne (fun h => ?_) (fun h => ?_)) | (with_reducible refine split_not (fun h => ?_) (fun h => ?_)) | (with_reducible refine split_beqS (fun h => ?_) (fun h => ?_)) | (with_reducible refine split_intro (fun h => ?_) (fun h => ?_))) <;> conv => whnf)
    · exfalso; exact hz ⟨by omega, h⟩
    clear h
    refine tri_for0 mixed (by kernel_rfl) (fun i : Nat => i ≤ r.reads.length ∧ ∀ j (hj : j < r.reads.length), j < i → rdB r.commit (r.reads[j]'hj) = true) (fun i => [(23, iv i)]) [] (fun i => r.reads.length - i) 0 ⟨Nat.zero_le _, fun j _ h => absurd h (Nat.not_lt_zero _)⟩ ?_ ?_
    · conv => whnf
      (refine And.intro (And.intro (by with_unfolding_all rfl) (by intro q h; cases h)) ?_; refine And.intro ?_ (And.intro ?_ ?_) <;> (conv => whnf) <;> (repeat' (first | exact True.intro | (with_reducible exact rfl) | exact (rfl : List.replicate 0 PV.bad = []) | ((with_reducible refine And.intro ?_ ?_) <;> (first | (with_reducible exact wkV_same _ rfl) | exact wkV_pt rfl rfl | exact wkV_ow rfl rfl rfl | (refine wkV_ow rfl rfl ?_) | (refine wkV_sc (congrArg (Value.int .i64) ?_)) | (refine wkV_sc (congrArg Value.bool ?_)) | exact wkV_ls rfl | ((refine wkV_cl ?_); conv => whnf) | ((refine wkV_tu ?_); conv => whnf) | ((refine wkV_ag ?_); conv => whnf) | (conv => whnf))))))
      all_goals first | rfl | trace_state
    rintro i ⟨hi, hal⟩
    conv => whnf
    ((first | (with_reducible refine split_dec (fun h => ?_) (fun h => ?_)) | (with_reducible refine split_beq (fun h => ?_) (fun h => ?_)) | (with_reducible refine split_bne (fun h => ?_) (fun h => ?_)) | (with_reducible refine split_not (fun h => ?_) (fun h => ?_)) | (with_reducible refine split_beqS (fun h => ?_) (fun h => ?_)) | (with_reducible refine split_intro (fun h => ?_) (fun h => ?_))) <;> conv => whnf)
    · have hlt : i < r.reads.length := by omega
      clear h
      have no : rdB r.commit (r.reads[i]'hlt) = false → r.reads.all (rdB r.commit) = false := fun hn => by
        rw [List.all_eq_false]
        exact ⟨_, List.getElem_mem hlt, by rw [hn]; decide⟩
      have hk := kw (r.reads[i]'hlt)
      have k1 := c_rWithin1 r.commit (r.reads[i]'hlt).index
      have k2 := c_rWithin1 far (r.reads[i]'hlt).round
      have k3 := c_rWithin1 127 (r.reads[i]'hlt).acks
      have hdef : rdB r.commit (r.reads[i]'hlt) = (decide (callR (r.reads[i]'hlt).call = 0) && (inR r.commit (r.reads[i]'hlt).index && (inR far (r.reads[i]'hlt).round && inR 127 (r.reads[i]'hlt).acks))) := rfl
      have hstep : rdB r.commit (r.reads[i]'hlt) = true → ∀ j (hj : j < r.reads.length), j < i + 1 → rdB r.commit (r.reads[j]'hj) = true := fun ht j hj hji => by
        by_cases e : j = i
        · subst e; exact ht
        · exact hal j hj (by omega)
      (first | ((with_reducible refine And.intro (by omega) (Exists.intro _ (And.intro (row_at hlt) ?_))); conv => whnf))
      generalize r.reads[i]'hlt = x at *
      ((try ((refine Exists.intro none ?_); (conv => whnf))); first | ((with_reducible refine call_by (hk) ?_); conv => whnf))
      ((first | (with_reducible refine split_dec (fun h => ?_) (fun h => ?_)) | (with_reducible refine split_beq (fun h => ?_) (fun h => ?_)) | (with_reducible refine split_bne (fun h => ?_) (fun h => ?_)) | (with_reducible refine split_not (fun h => ?_) (fun h => ?_)) | (with_reducible refine split_beqS (fun h => ?_) (fun h => ?_)) | (with_reducible refine split_intro (fun h => ?_) (fun h => ?_))) <;> conv => whnf)
      · exact exit_plain rfl (by rw [no (by rw [hdef, decide_eq_false h]; rfl)])
      have hc : callR x.call = 0 := by first | exact h | exact Classical.byContradiction h
      clear h
      rw [decide_eq_true hc, Bool.true_and] at hdef
      generalize inR r.commit x.index = b1 at *
      generalize inR far x.round = b2 at *
      generalize inR 127 x.acks = b3 at *
      cases b1
      · ((try ((refine Exists.intro none ?_); (conv => whnf))); refine call_eq (k1) (by kernel_rfl) ?_; conv => whnf)
        exact exit_plain rfl (by rw [no hdef])
      cases b2
      · ((try ((refine Exists.intro none ?_); (conv => whnf))); refine call_eq (k1) (by kernel_rfl) ?_; conv => whnf)
        ((try ((refine Exists.intro none ?_); (conv => whnf))); refine call_eq (k2) (by kernel_rfl) ?_; conv => whnf)
        exact exit_plain rfl (by rw [no hdef])
      cases b3
      · ((try ((refine Exists.intro none ?_); (conv => whnf))); refine call_eq (k1) (by kernel_rfl) ?_; conv => whnf)
        ((try ((refine Exists.intro none ?_); (conv => whnf))); refine call_eq (k2) (by kernel_rfl) ?_; conv => whnf)
        ((try ((refine Exists.intro none ?_); (conv => whnf))); refine call_eq (k3) (by kernel_rfl) ?_; conv => whnf)
        exact exit_plain rfl (by rw [no hdef])
      ((try ((refine Exists.intro none ?_); (conv => whnf))); refine call_eq (k1) (by kernel_rfl) ?_; conv => whnf)
      ((try ((refine Exists.intro none ?_); (conv => whnf))); refine call_eq (k2) (by kernel_rfl) ?_; conv => whnf)
      ((try ((refine Exists.intro none ?_); (conv => whnf))); refine call_eq (k3) (by kernel_rfl) ?_; conv => whnf)
      refine ⟨i + 1, ⟨⟨by omega, hstep hdef⟩, by omega⟩, ?_⟩
      conv => whnf
      (refine And.intro (And.intro (by with_unfolding_all rfl) (by intro q h; cases h)) ?_; refine And.intro ?_ (And.intro ?_ ?_) <;> (conv => whnf) <;> (repeat' (first | exact True.intro | (with_reducible exact rfl) | exact (rfl : List.replicate 0 PV.bad = []) | ((with_reducible refine And.intro ?_ ?_) <;> (first | (with_reducible exact wkV_same _ rfl) | exact wkV_pt rfl rfl | exact wkV_ow rfl rfl rfl | (refine wkV_ow rfl rfl ?_) | (refine wkV_sc (congrArg (Value.int .i64) ?_)) | (refine wkV_sc (congrArg Value.bool ?_)) | exact wkV_ls rfl | ((refine wkV_cl ?_); conv => whnf) | ((refine wkV_tu ?_); conv => whnf) | ((refine wkV_ag ?_); conv => whnf) | (conv => whnf))))))
      all_goals first | exact w1 (by omega) | rfl | trace_state
    · have ei : i = r.reads.length := by omega
      have : r.reads.all (rdB r.commit) = true := by
        rw [List.all_eq_true]
        intro x hx
        obtain ⟨j, hj, rfl⟩ := List.getElem_of_mem hx
        exact hal j hj (by omega)
      exact exit_plain rfl (by rw [this])
  · clear h
    refine tri_for0 mixed (by kernel_rfl) (fun i : Nat => i ≤ r.reads.length ∧ ∀ j (hj : j < r.reads.length), j < i → rdB r.commit (r.reads[j]'hj) = true) (fun i => [(23, iv i)]) [] (fun i => r.reads.length - i) 0 ⟨Nat.zero_le _, fun j _ h => absurd h (Nat.not_lt_zero _)⟩ ?_ ?_
    · conv => whnf
      (refine And.intro (And.intro (by with_unfolding_all rfl) (by intro q h; cases h)) ?_; refine And.intro ?_ (And.intro ?_ ?_) <;> (conv => whnf) <;> (repeat' (first | exact True.intro | (with_reducible exact rfl) | exact (rfl : List.replicate 0 PV.bad = []) | ((with_reducible refine And.intro ?_ ?_) <;> (first | (with_reducible exact wkV_same _ rfl) | exact wkV_pt rfl rfl | exact wkV_ow rfl rfl rfl | (refine wkV_ow rfl rfl ?_) | (refine wkV_sc (congrArg (Value.int .i64) ?_)) | (refine wkV_sc (congrArg Value.bool ?_)) | exact wkV_ls rfl | ((refine wkV_cl ?_); conv => whnf) | ((refine wkV_tu ?_); conv => whnf) | ((refine wkV_ag ?_); conv => whnf) | (conv => whnf))))))
      all_goals first | rfl | trace_state
    rintro i ⟨hi, hal⟩
    conv => whnf
    ((first | (with_reducible refine split_dec (fun h => ?_) (fun h => ?_)) | (with_reducible refine split_beq (fun h => ?_) (fun h => ?_)) | (with_reducible refine split_bne (fun h => ?_) (fun h => ?_)) | (with_reducible refine split_not (fun h => ?_) (fun h => ?_)) | (with_reducible refine split_beqS (fun h => ?_) (fun h => ?_)) | (with_reducible refine split_intro (fun h => ?_) (fun h => ?_))) <;> conv => whnf)
    · have hlt : i < r.reads.length := by omega
      clear h
      have no : rdB r.commit (r.reads[i]'hlt) = false → r.reads.all (rdB r.commit) = false := fun hn => by
        rw [List.all_eq_false]
        exact ⟨_, List.getElem_mem hlt, by rw [hn]; decide⟩
      have hk := kw (r.reads[i]'hlt)
      have k1 := c_rWithin1 r.commit (r.reads[i]'hlt).index
      have k2 := c_rWithin1 far (r.reads[i]'hlt).round
      have k3 := c_rWithin1 127 (r.reads[i]'hlt).acks
      have hdef : rdB r.commit (r.reads[i]'hlt) = (decide (callR (r.reads[i]'hlt).call = 0) && (inR r.commit (r.reads[i]'hlt).index && (inR far (r.reads[i]'hlt).round && inR 127 (r.reads[i]'hlt).acks))) := rfl
      have hstep : rdB r.commit (r.reads[i]'hlt) = true → ∀ j (hj : j < r.reads.length), j < i + 1 → rdB r.commit (r.reads[j]'hj) = true := fun ht j hj hji => by
        by_cases e : j = i
        · subst e; exact ht
        · exact hal j hj (by omega)
      (first | ((with_reducible refine And.intro (by omega) (Exists.intro _ (And.intro (row_at hlt) ?_))); conv => whnf))
      generalize r.reads[i]'hlt = x at *
      ((try ((refine Exists.intro none ?_); (conv => whnf))); first | ((with_reducible refine call_by (hk) ?_); conv => whnf))
      ((first | (with_reducible refine split_dec (fun h => ?_) (fun h => ?_)) | (with_reducible refine split_beq (fun h => ?_) (fun h => ?_)) | (with_reducible refine split_bne (fun h => ?_) (fun h => ?_)) | (with_reducible refine split_not (fun h => ?_) (fun h => ?_)) | (with_reducible refine split_beqS (fun h => ?_) (fun h => ?_)) | (with_reducible refine split_intro (fun h => ?_) (fun h => ?_))) <;> conv => whnf)
      · exact exit_plain rfl (by rw [no (by rw [hdef, decide_eq_false h]; rfl)])
      have hc : callR x.call = 0 := by first | exact h | exact Classical.byContradiction h
      clear h
      rw [decide_eq_true hc, Bool.true_and] at hdef
      generalize inR r.commit x.index = b1 at *
      generalize inR far x.round = b2 at *
      generalize inR 127 x.acks = b3 at *
      cases b1
      · ((try ((refine Exists.intro none ?_); (conv => whnf))); refine call_eq (k1) (by kernel_rfl) ?_; conv => whnf)
        exact exit_plain rfl (by rw [no hdef])
      cases b2
      · ((try ((refine Exists.intro none ?_); (conv => whnf))); refine call_eq (k1) (by kernel_rfl) ?_; conv => whnf)
        ((try ((refine Exists.intro none ?_); (conv => whnf))); refine call_eq (k2) (by kernel_rfl) ?_; conv => whnf)
        exact exit_plain rfl (by rw [no hdef])
      cases b3
      · ((try ((refine Exists.intro none ?_); (conv => whnf))); refine call_eq (k1) (by kernel_rfl) ?_; conv => whnf)
        ((try ((refine Exists.intro none ?_); (conv => whnf))); refine call_eq (k2) (by kernel_rfl) ?_; conv => whnf)
        ((try ((refine Exists.intro none ?_); (conv => whnf))); refine call_eq (k3) (by kernel_rfl) ?_; conv => whnf)
        exact exit_plain rfl (by rw [no hdef])
      ((try ((refine Exists.intro none ?_); (conv => whnf))); refine call_eq (k1) (by kernel_rfl) ?_; conv => whnf)
      ((try ((refine Exists.intro none ?_); (conv => whnf))); refine call_eq (k2) (by kernel_rfl) ?_; conv => whnf)
      ((try ((refine Exists.intro none ?_); (conv => whnf))); refine call_eq (k3) (by kernel_rfl) ?_; conv => whnf)
      refine ⟨i + 1, ⟨⟨by omega, hstep hdef⟩, by omega⟩, ?_⟩
      conv => whnf
      (refine And.intro (And.intro (by with_unfolding_all rfl) (by intro q h; cases h)) ?_; refine And.intro ?_ (And.intro ?_ ?_) <;> (conv => whnf) <;> (repeat' (first | exact True.intro | (with_reducible exact rfl) | exact (rfl : List.replicate 0 PV.bad = []) | ((with_reducible refine And.intro ?_ ?_) <;> (first | (with_reducible exact wkV_same _ rfl) | exact wkV_pt rfl rfl | exact wkV_ow rfl rfl rfl | (refine wkV_ow rfl rfl ?_) | (refine wkV_sc (congrArg (Value.int .i64) ?_)) | (refine wkV_sc (congrArg Value.bool ?_)) | exact wkV_ls rfl | ((refine wkV_cl ?_); conv => whnf) | ((refine wkV_tu ?_); conv => whnf) | ((refine wkV_ag ?_); conv => whnf) | (conv => whnf))))))
      all_goals first | exact w1 (by omega) | rfl | trace_state
    · have ei : i = r.reads.length := by omega
      have : r.reads.all (rdB r.commit) = true := by
        rw [List.all_eq_true]
        intro x hx
        obtain ⟨j, hj, rfl⟩ := List.getElem_of_mem hx
        exact hal j hj (by omega)
      exact exit_plain rfl (by rw [this])
noncomputable def rightB (r : Rft) : Bool := hardB r.hard && (inR 6 r.id && (decide (r.hard.base ≤ r.commit) && (decide (r.commit ≤ lastI r.hard) && (inR 3 r.role && (decide (-1 ≤ r.lead) && (decide (r.lead < 7) && (inR 100 r.wait && ((inR far r.quiet && inR far r.round) && (inR 127 r.votes && (arrR far r.next && (arrR (lastI r.hard) r.mtch && (arrR far r.silent && (rdsB r && (if r.role = 3 then decide (r.lead = r.id) else true))))))))))))))
set_option maxHeartbeats 4000000 in
theorem c_rCheck (r : Rft) (hm : r.hard.log.length ≤ maxLen) (hm2 : r.reads.length ≤ maxLen) : Ctr Tryz.prog 84 [.ag r.enc] (iv (if rightB r = true then 0 else 6)) [] := by
  have kh := c_lCheck r.hard hm
  have kl := c_Last r.hard hm
  have k1 := c_rWithin1 6 r.id
  have k2 := c_rWithin1 3 r.role
  have k3 := c_rWithin1 100 r.wait
  have k4 := c_rWithin2 far r.quiet r.round
  have k5 := c_rWithin1 127 r.votes
  have k6 := c_rWithinN far r
  have k7 := c_rWithinM (lastI r.hard) r
  have k8 := c_rWithinS far r
  have k9 := c_rightReads r hm2
  unfold rightB
  generalize hardB r.hard = b0 at *
  generalize lastI r.hard = li at *
  generalize inR 6 r.id = b1 at *
  generalize inR 3 r.role = b2 at *
  generalize inR 100 r.wait = b3 at *
  generalize (inR far r.quiet && inR far r.round) = b4 at *
  generalize inR 127 r.votes = b5 at *
  generalize arrR far r.next = b6 at *
  generalize arrR li r.mtch = b7 at *
  generalize arrR far r.silent = b8 at *
  generalize rdsB r = b9 at *
  cases b0 with
  | false =>
    refine spec_of_body mixed Tryz.func84 rfl (by kernel_rfl) (by kernel_rfl) ?_; conv => whnf
    ((try ((refine Exists.intro none ?_); (conv => whnf))); first | ((with_reducible refine call_by (kh) ?_); conv => whnf))
    exact exit_plain rfl rfl
  | true =>
  refine spec_of_body mixed Tryz.func84 rfl (by kernel_rfl) (by kernel_rfl) ?_; conv => whnf
  ((try ((refine Exists.intro none ?_); (conv => whnf))); first | ((with_reducible refine call_by (kh) ?_); conv => whnf))
  ((try ((refine Exists.intro none ?_); (conv => whnf))); first | ((with_reducible refine call_by (kl) ?_); conv => whnf))
  cases b1 with
  | false =>
    ((try ((refine Exists.intro none ?_); (conv => whnf))); refine call_eq (k1) (by kernel_rfl) ?_; conv => whnf)
    exact exit_plain rfl (by simp)
  | true =>
  ((try ((refine Exists.intro none ?_); (conv => whnf))); refine call_eq (k1) (by kernel_rfl) ?_; conv => whnf)
  ((first | (with_reducible refine split_dec (fun h => ?_) (fun h => ?_)) | (with_reducible refine split_beq (fun h => ?_) (fun h => ?_)) | (with_reducible refine split_bne (fun h => ?_) (fun h => ?_)) | (with_reducible refine split_not (fun h => ?_) (fun h => ?_)) | (with_reducible refine split_beqS (fun h => ?_) (fun h => ?_)) | (with_reducible refine split_intro (fun h => ?_) (fun h => ?_))) <;> conv => whnf)
  · have g0 := h
    clear h
    ((first | (with_reducible refine split_dec (fun h => ?_) (fun h => ?_)) | (with_reducible refine split_beq (fun h => ?_) (fun h => ?_)) | (with_reducible refine split_bne (fun h => ?_) (fun h => ?_)) | (with_reducible refine split_not (fun h => ?_) (fun h => ?_)) | (with_reducible refine split_beqS (fun h => ?_) (fun h => ?_)) | (with_reducible refine split_intro (fun h => ?_) (fun h => ?_))) <;> conv => whnf)
    · have g1 := h
      clear h
      cases b2 with
      | false =>
        ((try ((refine Exists.intro none ?_); (conv => whnf))); refine call_eq (k2) (by kernel_rfl) ?_; conv => whnf)
        exact exit_plain rfl (by simp)
      | true =>
      ((try ((refine Exists.intro none ?_); (conv => whnf))); refine call_eq (k2) (by kernel_rfl) ?_; conv => whnf)
      ((first | (with_reducible refine split_dec (fun h => ?_) (fun h => ?_)) | (with_reducible refine split_beq (fun h => ?_) (fun h => ?_)) | (with_reducible refine split_bne (fun h => ?_) (fun h => ?_)) | (with_reducible refine split_not (fun h => ?_) (fun h => ?_)) | (with_reducible refine split_beqS (fun h => ?_) (fun h => ?_)) | (with_reducible refine split_intro (fun h => ?_) (fun h => ?_))) <;> conv => whnf)
      · have g2 := h
        clear h
        ((first | (with_reducible refine split_dec (fun h => ?_) (fun h => ?_)) | (with_reducible refine split_beq (fun h => ?_) (fun h => ?_)) | (with_reducible refine split_bne (fun h => ?_) (fun h => ?_)) | (with_reducible refine split_not (fun h => ?_) (fun h => ?_)) | (with_reducible refine split_beqS (fun h => ?_) (fun h => ?_)) | (with_reducible refine split_intro (fun h => ?_) (fun h => ?_))) <;> conv => whnf)
        · have g3 := h
          clear h
          cases b3 with
          | false =>
            ((try ((refine Exists.intro none ?_); (conv => whnf))); refine call_eq (k3) (by kernel_rfl) ?_; conv => whnf)
            exact exit_plain rfl (by simp)
          | true =>
          ((try ((refine Exists.intro none ?_); (conv => whnf))); refine call_eq (k3) (by kernel_rfl) ?_; conv => whnf)
          cases b4 with
          | false =>
            ((try ((refine Exists.intro none ?_); (conv => whnf))); refine call_eq (k4) (by kernel_rfl) ?_; conv => whnf)
            exact exit_plain rfl (by simp)
          | true =>
          ((try ((refine Exists.intro none ?_); (conv => whnf))); refine call_eq (k4) (by kernel_rfl) ?_; conv => whnf)
          cases b5 with
          | false =>
            ((try ((refine Exists.intro none ?_); (conv => whnf))); refine call_eq (k5) (by kernel_rfl) ?_; conv => whnf)
            exact exit_plain rfl (by simp)
          | true =>
          ((try ((refine Exists.intro none ?_); (conv => whnf))); refine call_eq (k5) (by kernel_rfl) ?_; conv => whnf)
          cases b6 with
          | false =>
            ((refine Exists.intro (some ([(1000000, 1)], [], [])) ?_); (conv => whnf); first | ((with_reducible refine callE_by (k6) ?_); conv => whnf))
            exact exit_plain rfl (by simp)
          | true =>
          ((refine Exists.intro (some ([(1000000, 1)], [], [])) ?_); (conv => whnf); first | ((with_reducible refine callE_by (k6) ?_); conv => whnf))
          cases b7 with
          | false =>
            ((refine Exists.intro (some ([(1000000, 1)], [], [])) ?_); (conv => whnf); first | ((with_reducible refine callE_by (k7) ?_); conv => whnf))
            exact exit_plain rfl (by simp)
          | true =>
          ((refine Exists.intro (some ([(1000000, 1)], [], [])) ?_); (conv => whnf); first | ((with_reducible refine callE_by (k7) ?_); conv => whnf))
          cases b8 with
          | false =>
            ((refine Exists.intro (some ([(1000000, 1)], [], [])) ?_); (conv => whnf); first | ((with_reducible refine callE_by (k8) ?_); conv => whnf))
            exact exit_plain rfl (by simp)
          | true =>
          ((refine Exists.intro (some ([(1000000, 1)], [], [])) ?_); (conv => whnf); first | ((with_reducible refine callE_by (k8) ?_); conv => whnf))
          cases b9 with
          | false =>
            ((try ((refine Exists.intro none ?_); (conv => whnf))); first | ((with_reducible refine call_by (k9) ?_); conv => whnf))
            exact exit_plain rfl (by simp)
          | true =>
          ((try ((refine Exists.intro none ?_); (conv => whnf))); first | ((with_reducible refine call_by (k9) ?_); conv => whnf))
          ((first | (with_reducible refine split_dec (fun h => ?_) (fun h => ?_)) | (with_reducible refine split_beq (fun h => ?_) (fun h => ?_)) | (with_reducible refine split_bne (fun h => ?_) (fun h => ?_)) | (with_reducible refine split_not (fun h => ?_) (fun h => ?_)) | (with_reducible refine split_beqS (fun h => ?_) (fun h => ?_)) | (with_reducible refine split_intro (fun h => ?_) (fun h => ?_))) <;> conv => whnf)
          · exact exit_plain rfl (by simp [*])
          · have gr : r.role = 3 := by first | exact h | exact Classical.byContradiction h
            clear h
            ((first | (with_reducible refine split_dec (fun h => ?_) (fun h => ?_)) | (with_reducible refine split_beq (fun h => ?_) (fun h => ?_)) | (with_reducible refine split_bne (fun h => ?_) (fun h => ?_)) | (with_reducible refine split_not (fun h => ?_) (fun h => ?_)) | (with_reducible refine split_beqS (fun h => ?_) (fun h => ?_)) | (with_reducible refine split_intro (fun h => ?_) (fun h => ?_))) <;> conv => whnf)
            · exact exit_plain rfl (by simp_all)
            · exact exit_plain rfl (by simp_all)
        · exact exit_plain rfl (by simp [h])
      · exact exit_plain rfl (by simp [h])
    · exact exit_plain rfl (by simp [h])
  · exact exit_plain rfl (by simp [h])
end Go.Proofs
