/- Contracts of functions: the configuration in force. -/
import Derived.Test.YtnphfgphajejaaaC7
import Derived.Test.YtnphfgphajejaaaC3
namespace Go.Proofs
open Go.Pv
set_option maxRecDepth 100000

/-- The index of the k-th entry, as the code tells it. -/
abbrev idx (h : Hrd) (k : Nat) : Int := w64 (w64 (h.base + k) + 1)

/-- The configuration in force among the first i entries. -/
def fwd (h : Hrd) (upto : Int) : Nat → Conf × Int
  | 0 => (h.baseConf, h.base)
  | i + 1 => match h.log[i]? with
    | some x => if idx h i ≤ upto ∧ x.kind = 2 then (x.conf, idx h i) else fwd h upto i
    | none => fwd h upto i
def force (h : Hrd) (upto : Int) : Conf × Int := fwd h upto h.log.length
abbrev civ (x : Conf × Int) : PV := .tu [.ag x.1.enc, iv x.2]

theorem fwd_hit {h : Hrd} {upto : Int} {i : Nat} (hi : i < h.log.length) (h1 : idx h i ≤ upto) (h2 : (h.log[i]'hi).kind = 2) : fwd h upto (i + 1) = ((h.log[i]'hi).conf, idx h i) := by
  simp [fwd, hi, h1, h2]
theorem fwd_miss {h : Hrd} {upto : Int} {i : Nat} (hi : i < h.log.length) (h1 : ¬ (idx h i ≤ upto ∧ (h.log[i]'hi).kind = 2)) : fwd h upto (i + 1) = fwd h upto i := by
  simp only [fwd, List.getElem?_eq_getElem hi, h1, if_false]

theorem c_Force (a : Hrd) (hm : a.log.length ≤ maxLen) (upto : Int) : Ctr Try.prog 68 [.ag a.enc, iv upto] (civ (force a upto)) [] := by
  have hm' : a.log.length ≤ 9223372036854775807 := Nat.le_trans hm (by decide)
  refine spec_of_body mixed Try.func68 rfl (by kernel_rfl) (by kernel_rfl) ?_; conv => whnf
  refine tri_forB mixed (by kernel_rfl) (fun i : Nat => i ≤ a.log.length) (fun i => [(8, iv i), (7, iv (fwd a upto i).2)]) (fun i => [(2, a.enc), (4, cz.enc), (6, (fwd a upto i).1.enc)]) [] (fun i => a.log.length - i) 0 (Nat.zero_le _) ?_ ?_
  · conv => whnf
    (refine And.intro (And.intro (by with_unfolding_all rfl) (by intro q h; cases h)) ?_; refine And.intro ?_ (And.intro ?_ ?_) <;> (conv => whnf) <;> (repeat' (first | exact True.intro | (with_reducible exact rfl) | exact (rfl : List.replicate 0 PV.bad = []) | ((with_reducible refine And.intro ?_ ?_) <;> (first | (with_reducible exact wkV_same _ rfl) | exact wkV_pt rfl rfl | exact wkV_ow rfl rfl rfl | (refine wkV_ow rfl rfl ?_) | (refine wkV_sc (congrArg (Value.int .i64) ?_)) | (refine wkV_sc (congrArg Value.bool ?_)) | exact wkV_ls rfl | ((refine wkV_cl ?_); conv => whnf) | ((refine wkV_tu ?_); conv => whnf) | ((refine wkV_ag ?_); conv => whnf) | (conv => whnf))))))
    all_goals rfl
  · intro i hi
    conv => whnf
    ((first | (with_reducible refine split_dec (fun h => ?_) (fun h => ?_)) | (with_reducible refine split_beq (fun h => ?_) (fun h => ?_)) | (with_reducible refine split_bne (fun h => ?_) (fun h => ?_)) | (with_reducible refine split_not (fun h => ?_) (fun h => ?_)) | (with_reducible refine split_beqS (fun h => ?_) (fun h => ?_)) | (with_reducible refine split_intro (fun h => ?_) (fun h => ?_))) <;> conv => whnf)
    · simp only [List.length_map] at h
      have hlt : i < a.log.length := by omega
      ((first | (with_reducible refine split_dec (fun h => ?_) (fun h => ?_)) | (with_reducible refine split_beq (fun h => ?_) (fun h => ?_)) | (with_reducible refine split_bne (fun h => ?_) (fun h => ?_)) | (with_reducible refine split_not (fun h => ?_) (fun h => ?_)) | (with_reducible refine split_beqS (fun h => ?_) (fun h => ?_)) | (with_reducible refine split_intro (fun h => ?_) (fun h => ?_))) <;> conv => whnf)
      · refine ⟨by omega, _, row_at hlt, ?_⟩
        conv => whnf
        rename_i h0
        ((first | (with_reducible refine split_dec (fun h => ?_) (fun h => ?_)) | (with_reducible refine split_beq (fun h => ?_) (fun h => ?_)) | (with_reducible refine split_bne (fun h => ?_) (fun h => ?_)) | (with_reducible refine split_not (fun h => ?_) (fun h => ?_)) | (with_reducible refine split_beqS (fun h => ?_) (fun h => ?_)) | (with_reducible refine split_intro (fun h => ?_) (fun h => ?_))) <;> conv => whnf)
        · refine ⟨by omega, _, row_at hlt, ?_⟩
          conv => whnf
          rename_i h1
          refine ⟨i + 1, ⟨by omega, by omega⟩, ?_⟩
          conv => whnf
          have e := fwd_hit hlt h1 h
          (refine And.intro (And.intro (by with_unfolding_all rfl) (by intro q h; cases h)) ?_; refine And.intro ?_ (And.intro ?_ ?_) <;> (conv => whnf) <;> (repeat' (first | exact True.intro | (with_reducible exact rfl) | exact (rfl : List.replicate 0 PV.bad = []) | ((with_reducible refine And.intro ?_ ?_) <;> (first | (with_reducible exact wkV_same _ rfl) | exact wkV_pt rfl rfl | exact wkV_ow rfl rfl rfl | (refine wkV_ow rfl rfl ?_) | (refine wkV_sc (congrArg (Value.int .i64) ?_)) | (refine wkV_sc (congrArg Value.bool ?_)) | exact wkV_ls rfl | ((refine wkV_cl ?_); conv => whnf) | ((refine wkV_tu ?_); conv => whnf) | ((refine wkV_ag ?_); conv => whnf) | (conv => whnf))))))
          all_goals first | exact w1 (by omega) | (rw [e])
        · rename_i h1
          refine ⟨i + 1, ⟨by omega, by omega⟩, ?_⟩
          conv => whnf
          have e := fwd_miss (upto := upto) hlt (fun x => h x.2)
          (refine And.intro (And.intro (by with_unfolding_all rfl) (by intro q h; cases h)) ?_; refine And.intro ?_ (And.intro ?_ ?_) <;> (conv => whnf) <;> (repeat' (first | exact True.intro | (with_reducible exact rfl) | exact (rfl : List.replicate 0 PV.bad = []) | ((with_reducible refine And.intro ?_ ?_) <;> (first | (with_reducible exact wkV_same _ rfl) | exact wkV_pt rfl rfl | exact wkV_ow rfl rfl rfl | (refine wkV_ow rfl rfl ?_) | (refine wkV_sc (congrArg (Value.int .i64) ?_)) | (refine wkV_sc (congrArg Value.bool ?_)) | exact wkV_ls rfl | ((refine wkV_cl ?_); conv => whnf) | ((refine wkV_tu ?_); conv => whnf) | ((refine wkV_ag ?_); conv => whnf) | (conv => whnf))))))
          all_goals first | exact w1 (by omega) | (rw [e])
      · rename_i h0
        refine ⟨i + 1, ⟨by omega, by omega⟩, ?_⟩
        conv => whnf
        have e := fwd_miss hlt (fun x => h x.1)
        (refine And.intro (And.intro (by with_unfolding_all rfl) (by intro q h; cases h)) ?_; refine And.intro ?_ (And.intro ?_ ?_) <;> (conv => whnf) <;> (repeat' (first | exact True.intro | (with_reducible exact rfl) | exact (rfl : List.replicate 0 PV.bad = []) | ((with_reducible refine And.intro ?_ ?_) <;> (first | (with_reducible exact wkV_same _ rfl) | exact wkV_pt rfl rfl | exact wkV_ow rfl rfl rfl | (refine wkV_ow rfl rfl ?_) | (refine wkV_sc (congrArg (Value.int .i64) ?_)) | (refine wkV_sc (congrArg Value.bool ?_)) | exact wkV_ls rfl | ((refine wkV_cl ?_); conv => whnf) | ((refine wkV_tu ?_); conv => whnf) | ((refine wkV_ag ?_); conv => whnf) | (conv => whnf))))))
        all_goals first | exact w1 (by omega) | (rw [e])
    · simp only [List.length_map] at h
      have : i = a.log.length := by omega
      subst this
      exact exit_plain rfl rfl

theorem c_lConf (a : Hrd) (hm : a.log.length ≤ maxLen) (upto : Int) : Ctr Try.prog 129 [.ag a.enc, iv upto] (civ (force a upto)) [] := by
  have hm' : a.log.length ≤ 9223372036854775807 := Nat.le_trans hm (by decide)
  refine spec_of_body mixed Try.func129 rfl (by kernel_rfl) (by kernel_rfl) ?_; conv => whnf
  refine tri_for0 mixed (by kernel_rfl) (fun i : Nat => i ≤ a.log.length ∧ fwd a upto i = force a upto) (fun i => [(6, iv ((i : Int) - 1))]) [] (fun i => i) a.log.length ⟨Nat.le_refl _, rfl⟩ ?_ ?_
  · conv => whnf
    (refine And.intro (And.intro (by with_unfolding_all rfl) (by intro q h; cases h)) ?_; refine And.intro ?_ (And.intro ?_ ?_) <;> (conv => whnf) <;> (repeat' (first | exact True.intro | (with_reducible exact rfl) | exact (rfl : List.replicate 0 PV.bad = []) | ((with_reducible refine And.intro ?_ ?_) <;> (first | (with_reducible exact wkV_same _ rfl) | exact wkV_pt rfl rfl | exact wkV_ow rfl rfl rfl | (refine wkV_ow rfl rfl ?_) | (refine wkV_sc (congrArg (Value.int .i64) ?_)) | (refine wkV_sc (congrArg Value.bool ?_)) | exact wkV_ls rfl | ((refine wkV_cl ?_); conv => whnf) | ((refine wkV_tu ?_); conv => whnf) | ((refine wkV_ag ?_); conv => whnf) | (conv => whnf))))))
    simp only [List.length_map]; exact wrap_id (by omega) (by omega)
  · rintro i ⟨hi, hf⟩
    conv => whnf
    ((first | (with_reducible refine split_dec (fun h => ?_) (fun h => ?_)) | (with_reducible refine split_beq (fun h => ?_) (fun h => ?_)) | (with_reducible refine split_bne (fun h => ?_) (fun h => ?_)) | (with_reducible refine split_not (fun h => ?_) (fun h => ?_)) | (with_reducible refine split_beqS (fun h => ?_) (fun h => ?_)) | (with_reducible refine split_intro (fun h => ?_) (fun h => ?_))) <;> conv => whnf)
    · obtain ⟨k, rfl⟩ : ∃ k, i = k + 1 := ⟨i - 1, by omega⟩
      have ek : (((k + 1 : Nat) : Int) - 1) = (k : Int) := by omega
      rw [ek]
      have hlt : k < a.log.length := by omega
      refine ⟨by omega, _, row_at hlt, ?_⟩
      conv => whnf
      ((first | (with_reducible refine split_dec (fun h => ?_) (fun h => ?_)) | (with_reducible refine split_beq (fun h => ?_) (fun h => ?_)) | (with_reducible refine split_bne (fun h => ?_) (fun h => ?_)) | (with_reducible refine split_not (fun h => ?_) (fun h => ?_)) | (with_reducible refine split_beqS (fun h => ?_) (fun h => ?_)) | (with_reducible refine split_intro (fun h => ?_) (fun h => ?_))) <;> conv => whnf)
      · rename_i h0
        ((first | (with_reducible refine split_dec (fun h => ?_) (fun h => ?_)) | (with_reducible refine split_beq (fun h => ?_) (fun h => ?_)) | (with_reducible refine split_bne (fun h => ?_) (fun h => ?_)) | (with_reducible refine split_not (fun h => ?_) (fun h => ?_)) | (with_reducible refine split_beqS (fun h => ?_) (fun h => ?_)) | (with_reducible refine split_intro (fun h => ?_) (fun h => ?_))) <;> conv => whnf)
        · refine ⟨by omega, _, row_at hlt, ?_⟩
          conv => whnf
          rename_i h1
          refine exit_plain rfl ?_
          rw [← hf, fwd_hit hlt h h1]
        · rename_i h1
          refine ⟨k, ⟨⟨by omega, ?_⟩, by omega⟩, ?_⟩
          · rw [← hf, fwd_miss hlt (fun x => h x.1)]
          · conv => whnf
            (refine And.intro (And.intro (by with_unfolding_all rfl) (by intro q h; cases h)) ?_; refine And.intro ?_ (And.intro ?_ ?_) <;> (conv => whnf) <;> (repeat' (first | exact True.intro | (with_reducible exact rfl) | exact (rfl : List.replicate 0 PV.bad = []) | ((with_reducible refine And.intro ?_ ?_) <;> (first | (with_reducible exact wkV_same _ rfl) | exact wkV_pt rfl rfl | exact wkV_ow rfl rfl rfl | (refine wkV_ow rfl rfl ?_) | (refine wkV_sc (congrArg (Value.int .i64) ?_)) | (refine wkV_sc (congrArg Value.bool ?_)) | exact wkV_ls rfl | ((refine wkV_cl ?_); conv => whnf) | ((refine wkV_tu ?_); conv => whnf) | ((refine wkV_ag ?_); conv => whnf) | (conv => whnf))))))
            exact wrap_id (by omega) (by omega)
      · rename_i h0
        refine ⟨k, ⟨⟨by omega, ?_⟩, by omega⟩, ?_⟩
        · rw [← hf, fwd_miss hlt (fun x => h x.2)]
        · conv => whnf
          (refine And.intro (And.intro (by with_unfolding_all rfl) (by intro q h; cases h)) ?_; refine And.intro ?_ (And.intro ?_ ?_) <;> (conv => whnf) <;> (repeat' (first | exact True.intro | (with_reducible exact rfl) | exact (rfl : List.replicate 0 PV.bad = []) | ((with_reducible refine And.intro ?_ ?_) <;> (first | (with_reducible exact wkV_same _ rfl) | exact wkV_pt rfl rfl | exact wkV_ow rfl rfl rfl | (refine wkV_ow rfl rfl ?_) | (refine wkV_sc (congrArg (Value.int .i64) ?_)) | (refine wkV_sc (congrArg Value.bool ?_)) | exact wkV_ls rfl | ((refine wkV_cl ?_); conv => whnf) | ((refine wkV_tu ?_); conv => whnf) | ((refine wkV_ag ?_); conv => whnf) | (conv => whnf))))))
          exact wrap_id (by omega) (by omega)
    · have : i = 0 := by omega
      subst this
      refine exit_plain rfl ?_
      rw [← hf]; rfl

theorem c_vConf (r : Rft) (hm : r.hard.log.length ≤ maxLen) : Ctr Try.prog 48 [.ag r.enc] (.ag (force r.hard (lastI r.hard)).1.enc) [] := by
  refine spec_of_body mixed Try.func48 rfl (by kernel_rfl) (by kernel_rfl) ?_; conv => whnf
  ((try ((refine Exists.intro none ?_); (conv => whnf))); first | ((with_reducible refine call_by (c_Last r.hard hm) ?_); conv => whnf))
  ((try ((refine Exists.intro none ?_); (conv => whnf))); first | ((with_reducible refine call_by (c_lConf r.hard hm _) ?_); conv => whnf))
  exact exit_plain rfl rfl
theorem c_rConf15 (r : Rft) (hm : r.hard.log.length ≤ maxLen) : Ctr Try.prog 57 [.ag r.enc] (.ag (force r.hard (lastI r.hard)).1.enc) [] := by
  refine spec_of_body mixed Try.func57 rfl (by kernel_rfl) (by kernel_rfl) ?_; conv => whnf
  ((try ((refine Exists.intro none ?_); (conv => whnf))); first | ((with_reducible refine call_by (c_rLast r.hard hm) ?_); conv => whnf))
  ((try ((refine Exists.intro none ?_); (conv => whnf))); first | ((with_reducible refine call_by (c_Force r.hard hm _) ?_); conv => whnf))
  exact exit_plain rfl rfl

abbrev inForce (r : Rft) : Conf := (force r.hard (lastI r.hard)).1

theorem c_Wins (r : Rft) (hm : r.hard.log.length ≤ maxLen) : Ctr Try.prog 47 [.ag r.enc] (bv (quorum (inForce r) r.votes)) [] := by
  refine spec_of_body mixed Try.func47 rfl (by kernel_rfl) (by kernel_rfl) ?_; conv => whnf
  ((try ((refine Exists.intro none ?_); (conv => whnf))); first | ((with_reducible refine call_by (c_vConf r hm) ?_); conv => whnf))
  ((try ((refine Exists.intro none ?_); (conv => whnf))); first | ((with_reducible refine call_by (c_Quorum (inForce r) _) ?_); conv => whnf))
  exact exit_plain rfl rfl
theorem c_rWins (r : Rft) (hm : r.hard.log.length ≤ maxLen) : Ctr Try.prog 63 [.ag r.enc] (bv (quorum (inForce r) r.votes)) [] := by
  refine spec_of_body mixed Try.func63 rfl (by kernel_rfl) (by kernel_rfl) ?_; conv => whnf
  ((try ((refine Exists.intro none ?_); (conv => whnf))); first | ((with_reducible refine call_by (c_rConf15 r hm) ?_); conv => whnf))
  ((try ((refine Exists.intro none ?_); (conv => whnf))); first | ((with_reducible refine call_by (c_rQuorum (inForce r) _) ?_); conv => whnf))
  exact exit_plain rfl rfl

theorem c_Voter (r : Rft) (hm : r.hard.log.length ≤ maxLen) : Ctr Try.prog 58 [.ag r.enc] (bv (bitB (bor (inForce r).full (inForce r).wit) r.id)) [] := by
  refine spec_of_body mixed Try.func58 rfl (by kernel_rfl) (by kernel_rfl) ?_; conv => whnf
  ((try ((refine Exists.intro none ?_); (conv => whnf))); first | ((with_reducible refine call_by (c_vConf r hm) ?_); conv => whnf))
  ((try ((refine Exists.intro none ?_); (conv => whnf))); first | ((with_reducible refine call_by (c_Voters (inForce r)) ?_); conv => whnf))
  ((try ((refine Exists.intro none ?_); (conv => whnf))); first | ((with_reducible refine call_by (c_bit _ _) ?_); conv => whnf))
  exact exit_plain rfl rfl
theorem c_rVoter (r : Rft) (hm : r.hard.log.length ≤ maxLen) : Ctr Try.prog 59 [.ag r.enc] (bv (bitB (bor (inForce r).full (inForce r).wit) r.id)) [] := by
  refine spec_of_body mixed Try.func59 rfl (by kernel_rfl) (by kernel_rfl) ?_; conv => whnf
  ((try ((refine Exists.intro none ?_); (conv => whnf))); first | ((with_reducible refine call_by (c_Node _) ?_); conv => whnf))
  ((first | (with_reducible refine split_dec (fun h => ?_) (fun h => ?_)) | (with_reducible refine split_beq (fun h => ?_) (fun h => ?_)) | (with_reducible refine split_bne (fun h => ?_) (fun h => ?_)) | (with_reducible refine split_not (fun h => ?_) (fun h => ?_)) | (with_reducible refine split_beqS (fun h => ?_) (fun h => ?_)) | (with_reducible refine split_intro (fun h => ?_) (fun h => ?_))) <;> conv => whnf)
  · ((try ((refine Exists.intro none ?_); (conv => whnf))); first | ((with_reducible refine call_by (c_rConf15 r hm) ?_); conv => whnf))
    ((try ((refine Exists.intro none ?_); (conv => whnf))); first | ((with_reducible refine call_by (c_rVoters (inForce r)) ?_); conv => whnf))
    ((try ((refine Exists.intro none ?_); (conv => whnf))); first | ((with_reducible refine call_by (c_Has _ _) ?_); conv => whnf))
    refine exit_plain rfl ?_
    rw [hasB_eq h]
  · refine exit_plain rfl ?_
    rw [bitB_out h]
theorem c_rDelay (c : Conf) (i : Int) : Ctr Try.prog 60 [.ag c.enc, iv i] (iv (delay c i)) [] := by
  refine spec_of_body mixed Try.func60 rfl (by kernel_rfl) (by kernel_rfl) ?_; conv => whnf
  ((try ((refine Exists.intro none ?_); (conv => whnf))); first | ((with_reducible refine call_by (c_rKind c i) ?_); conv => whnf))
  repeat' ((first | (with_reducible refine split_dec (fun h => ?_) (fun h => ?_)) | (with_reducible refine split_beq (fun h => ?_) (fun h => ?_)) | (with_reducible refine split_bne (fun h => ?_) (fun h => ?_)) | (with_reducible refine split_not (fun h => ?_) (fun h => ?_)) | (with_reducible refine split_beqS (fun h => ?_) (fun h => ?_)) | (with_reducible refine split_intro (fun h => ?_) (fun h => ?_))) <;> conv => whnf)
  all_goals (refine exit_plain rfl ?_; have hf := kind_full c i; have hw := kind_wit c i; rw [Bool.eq_iff_iff, beq_iff_eq] at hf hw; simp_all [delay])
end Go.Proofs
