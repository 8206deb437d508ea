import Derived.Test.YtbhfokahocgndaaN3
set_option linter.unusedSimpArgs false
set_option linter.unusedVariables false
namespace Go.Proofs
open Go.Pv
set_option maxRecDepth 100000

set_option maxHeartbeats 4000000 in
theorem l_RaftVotes (r : Rft) (m : Mg) (hm : m.ok) : Ctr Try.prog 4 [.ag r.enc, .ag m.enc] (bv true) [] := by
  have kr := c_Heavy15 r
  have km := c_HeavyMsg m hm
  cases hr : heavyR r with
  | true =>
    rw [hr] at kr
    refine spec_of_body mixed Try.func4 rfl (by kernel_rfl) (by kernel_rfl) ?_; conv => whnf
    ((try ((refine Exists.intro none ?_); (conv => whnf))); first | ((with_reducible refine call_by (kr) ?_); conv => whnf))
    exact exit_plain rfl rfl
  | false =>
  rw [hr] at kr
  cases hv : heavyM m with
  | true =>
    rw [hv] at km
    refine spec_of_body mixed Try.func4 rfl (by kernel_rfl) (by kernel_rfl) ?_; conv => whnf
    ((try ((refine Exists.intro none ?_); (conv => whnf))); first | ((with_reducible refine call_by (kr) ?_); conv => whnf))
    ((try ((refine Exists.intro none ?_); (conv => whnf))); first | ((with_reducible refine call_by (km) ?_); conv => whnf))
    exact exit_plain rfl rfl
  | false =>
  rw [hv] at km
  cases outc r m hr hv with
  | bad E hE k =>
    refine spec_of_body mixed Try.func4 rfl (by kernel_rfl) (by kernel_rfl) ?_; conv => whnf
    ((try ((refine Exists.intro none ?_); (conv => whnf))); first | ((with_reducible refine call_by (kr) ?_); conv => whnf))
    ((try ((refine Exists.intro none ?_); (conv => whnf))); first | ((with_reducible refine call_by (km) ?_); conv => whnf))
    ((try ((refine Exists.intro none ?_); (conv => whnf))); first | ((with_reducible refine call_by (k) ?_); conv => whnf))
    ((first | (with_reducible refine split_dec (fun h => ?_) (fun h => ?_)) | (with_reducible refine split_beq (fun h => ?_) (fun h => ?_)) | (with_reducible refine split_bne (fun h => ?_) (fun h => ?_)) | (with_reducible refine split_not (fun h => ?_) (fun h => ?_)) | (with_reducible refine split_beqS (fun h => ?_) (fun h => ?_)) | (with_reducible refine split_intro (fun h => ?_) (fun h => ?_))) <;> conv => whnf)
    · ((try ((refine Exists.intro none ?_); (conv => whnf))); first | ((with_reducible refine call_by (c_wakes18) ?_); conv => whnf))
      exact exit_plain rfl rfl
    · exact absurd (by first | exact h | (simpa using h)) hE
  | ok R L k g t hn7 _ _ =>
    have kl := c_rLast r.hard (smallM (by have := heavyR_len hr; omega))
    refine spec_of_body mixed Try.func4 rfl (by kernel_rfl) (by kernel_rfl) ?_; conv => whnf
    ((try ((refine Exists.intro none ?_); (conv => whnf))); first | ((with_reducible refine call_by (kr) ?_); conv => whnf))
    ((try ((refine Exists.intro none ?_); (conv => whnf))); first | ((with_reducible refine call_by (km) ?_); conv => whnf))
    ((try ((refine Exists.intro none ?_); (conv => whnf))); first | ((with_reducible refine call_by (k) ?_); conv => whnf))
    (refine Exists.intro _ (And.intro rfl (And.intro (by intro q _; simp only [List.length_nil]; omega) (And.intro (by intro i hi; exact absurd hi (Nat.not_lt_zero i)) ?_))); conv => whnf)
    refine tri_forO mixed (by kernel_rfl) (fun k : Nat => k ≤ L.length) (fun k => [(8, iv k)]) (fun _ => [(2, r.enc), (3, m.enc), (5, R.enc)]) (fun _ => []) [] (fun k => L.length - k) 0 (Nat.zero_le _) ?_ ?_
    · conv => whnf
      (refine And.intro (And.intro (by with_unfolding_all rfl) (by intro q h; cases h)) ?_; refine And.intro ?_ (And.intro ?_ ?_) <;> (conv => whnf) <;> (repeat' (first | exact True.intro | (with_reducible exact rfl) | exact (rfl : List.replicate 0 PV.bad = []) | ((with_reducible refine And.intro ?_ ?_) <;> (first | (with_reducible exact wkV_same _ rfl) | exact wkV_pt rfl rfl | exact wkV_ow rfl rfl rfl | (refine wkV_ow rfl rfl ?_) | (refine wkV_sc (congrArg (Value.int .i64) ?_)) | (refine wkV_sc (congrArg Value.bool ?_)) | exact wkV_ls rfl | ((refine wkV_cl ?_); conv => whnf) | ((refine wkV_tu ?_); conv => whnf) | ((refine wkV_ag ?_); conv => whnf) | (conv => whnf))))))
      all_goals first | rfl | trace_state
    intro i hi
    conv => whnf
    ((first | (with_reducible refine split_dec (fun h => ?_) (fun h => ?_)) | (with_reducible refine split_beq (fun h => ?_) (fun h => ?_)) | (with_reducible refine split_bne (fun h => ?_) (fun h => ?_)) | (with_reducible refine split_not (fun h => ?_) (fun h => ?_)) | (with_reducible refine split_beqS (fun h => ?_) (fun h => ?_)) | (with_reducible refine split_intro (fun h => ?_) (fun h => ?_))) <;> conv => whnf)
    · simp only [List.length_map] at h
      have hlt : i < L.length := by omega
      clear h
      have tx := t (L[i]'hlt) (List.getElem_mem hlt)
      have tv := tx.vot
      (first | ((with_reducible refine And.intro (by omega) (Exists.intro _ (And.intro (row_at hlt) ?_))); conv => whnf))
      ((first | (with_reducible refine split_dec (fun h => ?_) (fun h => ?_)) | (with_reducible refine split_beq (fun h => ?_) (fun h => ?_)) | (with_reducible refine split_bne (fun h => ?_) (fun h => ?_)) | (with_reducible refine split_not (fun h => ?_) (fun h => ?_)) | (with_reducible refine split_beqS (fun h => ?_) (fun h => ?_)) | (with_reducible refine split_intro (fun h => ?_) (fun h => ?_))) <;> conv => whnf)
      · refine ⟨i + 1, [], ⟨by omega, by omega⟩, ?_⟩
        conv => whnf
        (refine And.intro (And.intro (by with_unfolding_all rfl) (by intro q h; cases h)) ?_; refine And.intro ?_ (And.intro ?_ ?_) <;> (conv => whnf) <;> (repeat' (first | exact True.intro | (with_reducible exact rfl) | exact (rfl : List.replicate 0 PV.bad = []) | ((with_reducible refine And.intro ?_ ?_) <;> (first | (with_reducible exact wkV_same _ rfl) | exact wkV_pt rfl rfl | exact wkV_ow rfl rfl rfl | (refine wkV_ow rfl rfl ?_) | (refine wkV_sc (congrArg (Value.int .i64) ?_)) | (refine wkV_sc (congrArg Value.bool ?_)) | exact wkV_ls rfl | ((refine wkV_cl ?_); conv => whnf) | ((refine wkV_tu ?_); conv => whnf) | ((refine wkV_ag ?_); conv => whnf) | (conv => whnf))))))
        all_goals first | rfl | exact w1 (by omega) | trace_state
      · have hk4 : (L[i]'hlt).kind = 4 := by first | exact h | exact Classical.byContradiction h
        clear h
        have tv := tv hk4
        (first | ((with_reducible refine And.intro (by omega) (Exists.intro _ (And.intro (row_at hlt) ?_))); conv => whnf))
        cases hy : (L[i]'hlt).yes with
        | false =>
          conv => whnf
          refine ⟨i + 1, [], ⟨by omega, by omega⟩, ?_⟩
          conv => whnf
          (refine And.intro (And.intro (by with_unfolding_all rfl) (by intro q h; cases h)) ?_; refine And.intro ?_ (And.intro ?_ ?_) <;> (conv => whnf) <;> (repeat' (first | exact True.intro | (with_reducible exact rfl) | exact (rfl : List.replicate 0 PV.bad = []) | ((with_reducible refine And.intro ?_ ?_) <;> (first | (with_reducible exact wkV_same _ rfl) | exact wkV_pt rfl rfl | exact wkV_ow rfl rfl rfl | (refine wkV_ow rfl rfl ?_) | (refine wkV_sc (congrArg (Value.int .i64) ?_)) | (refine wkV_sc (congrArg Value.bool ?_)) | exact wkV_ls rfl | ((refine wkV_cl ?_); conv => whnf) | ((refine wkV_tu ?_); conv => whnf) | ((refine wkV_ag ?_); conv => whnf) | (conv => whnf))))))
          all_goals first | rfl | exact w1 (by omega) | trace_state
        | true =>
          obtain ⟨t1, t2, t3, t4, t5, t6, t7⟩ := tv hy
          obtain ⟨n1, n2⟩ := newer_not t6
          conv => whnf
          ((try ((refine Exists.intro none ?_); (conv => whnf))); first | ((with_reducible refine call_by (kl) ?_); conv => whnf))
          (first | (with_reducible refine split_dt (by first | assumption | omega) ?_) | (with_reducible refine split_df (by first | assumption | omega) ?_) | (with_reducible refine split_et (by first | assumption | omega) ?_) | (with_reducible refine split_ef (by first | assumption | omega) ?_) | (with_reducible refine split_bt (by first | assumption | omega) ?_) | (with_reducible refine split_bf (by first | assumption | omega) ?_) | (with_reducible refine split_nt (by assumption) ?_) | (with_reducible refine split_nf (by assumption) ?_) | (with_reducible refine split_t (by assumption) ?_) | (with_reducible refine split_f (by assumption) ?_))
          conv => whnf
          (first | (with_reducible refine split_dt (by first | assumption | omega) ?_) | (with_reducible refine split_df (by first | assumption | omega) ?_) | (with_reducible refine split_et (by first | assumption | omega) ?_) | (with_reducible refine split_ef (by first | assumption | omega) ?_) | (with_reducible refine split_bt (by first | assumption | omega) ?_) | (with_reducible refine split_bf (by first | assumption | omega) ?_) | (with_reducible refine split_nt (by assumption) ?_) | (with_reducible refine split_nf (by assumption) ?_) | (with_reducible refine split_t (by assumption) ?_) | (with_reducible refine split_f (by assumption) ?_))
          conv => whnf
          (first | (with_reducible refine split_dt (by first | assumption | omega) ?_) | (with_reducible refine split_df (by first | assumption | omega) ?_) | (with_reducible refine split_et (by first | assumption | omega) ?_) | (with_reducible refine split_ef (by first | assumption | omega) ?_) | (with_reducible refine split_bt (by first | assumption | omega) ?_) | (with_reducible refine split_bf (by first | assumption | omega) ?_) | (with_reducible refine split_nt (by assumption) ?_) | (with_reducible refine split_nf (by assumption) ?_) | (with_reducible refine split_t (by assumption) ?_) | (with_reducible refine split_f (by assumption) ?_))
          conv => whnf
          (first | ((with_reducible refine And.intro (by omega) (Exists.intro _ (And.intro (row_at hlt) ?_))); conv => whnf))
          (first | (with_reducible refine split_dt (by first | assumption | omega) ?_) | (with_reducible refine split_df (by first | assumption | omega) ?_) | (with_reducible refine split_et (by first | assumption | omega) ?_) | (with_reducible refine split_ef (by first | assumption | omega) ?_) | (with_reducible refine split_bt (by first | assumption | omega) ?_) | (with_reducible refine split_bf (by first | assumption | omega) ?_) | (with_reducible refine split_nt (by assumption) ?_) | (with_reducible refine split_nf (by assumption) ?_) | (with_reducible refine split_t (by assumption) ?_) | (with_reducible refine split_f (by assumption) ?_))
          conv => whnf
          (first | ((with_reducible refine And.intro (by omega) (Exists.intro _ (And.intro (row_at hlt) ?_))); conv => whnf))
          (first | (with_reducible refine split_dt (by first | assumption | omega) ?_) | (with_reducible refine split_df (by first | assumption | omega) ?_) | (with_reducible refine split_et (by first | assumption | omega) ?_) | (with_reducible refine split_ef (by first | assumption | omega) ?_) | (with_reducible refine split_bt (by first | assumption | omega) ?_) | (with_reducible refine split_bf (by first | assumption | omega) ?_) | (with_reducible refine split_nt (by assumption) ?_) | (with_reducible refine split_nf (by assumption) ?_) | (with_reducible refine split_t (by assumption) ?_) | (with_reducible refine split_f (by assumption) ?_))
          conv => whnf
          (first | (with_reducible refine split_dt (by first | assumption | omega) ?_) | (with_reducible refine split_df (by first | assumption | omega) ?_) | (with_reducible refine split_et (by first | assumption | omega) ?_) | (with_reducible refine split_ef (by first | assumption | omega) ?_) | (with_reducible refine split_bt (by first | assumption | omega) ?_) | (with_reducible refine split_bf (by first | assumption | omega) ?_) | (with_reducible refine split_nt (by assumption) ?_) | (with_reducible refine split_nf (by assumption) ?_) | (with_reducible refine split_t (by assumption) ?_) | (with_reducible refine split_f (by assumption) ?_))
          conv => whnf
          ((first | (with_reducible refine split_dec (fun h => ?_) (fun h => ?_)) | (with_reducible refine split_beq (fun h => ?_) (fun h => ?_)) | (with_reducible refine split_bne (fun h => ?_) (fun h => ?_)) | (with_reducible refine split_not (fun h => ?_) (fun h => ?_)) | (with_reducible refine split_beqS (fun h => ?_) (fun h => ?_)) | (with_reducible refine split_intro (fun h => ?_) (fun h => ?_))) <;> conv => whnf)
          · have n2 := n2 h
            (first | (with_reducible refine split_dt (by first | assumption | omega) ?_) | (with_reducible refine split_df (by first | assumption | omega) ?_) | (with_reducible refine split_et (by first | assumption | omega) ?_) | (with_reducible refine split_ef (by first | assumption | omega) ?_) | (with_reducible refine split_bt (by first | assumption | omega) ?_) | (with_reducible refine split_bf (by first | assumption | omega) ?_) | (with_reducible refine split_nt (by assumption) ?_) | (with_reducible refine split_nf (by assumption) ?_) | (with_reducible refine split_t (by assumption) ?_) | (with_reducible refine split_f (by assumption) ?_))
            conv => whnf
            (first | (with_reducible refine split_dt (by first | assumption | omega) ?_) | (with_reducible refine split_df (by first | assumption | omega) ?_) | (with_reducible refine split_et (by first | assumption | omega) ?_) | (with_reducible refine split_ef (by first | assumption | omega) ?_) | (with_reducible refine split_bt (by first | assumption | omega) ?_) | (with_reducible refine split_bf (by first | assumption | omega) ?_) | (with_reducible refine split_nt (by assumption) ?_) | (with_reducible refine split_nf (by assumption) ?_) | (with_reducible refine split_t (by assumption) ?_) | (with_reducible refine split_f (by assumption) ?_))
            conv => whnf
            refine ⟨i + 1, [], ⟨by omega, by omega⟩, ?_⟩
            conv => whnf
            (refine And.intro (And.intro (by with_unfolding_all rfl) (by intro q h; cases h)) ?_; refine And.intro ?_ (And.intro ?_ ?_) <;> (conv => whnf) <;> (repeat' (first | exact True.intro | (with_reducible exact rfl) | exact (rfl : List.replicate 0 PV.bad = []) | ((with_reducible refine And.intro ?_ ?_) <;> (first | (with_reducible exact wkV_same _ rfl) | exact wkV_pt rfl rfl | exact wkV_ow rfl rfl rfl | (refine wkV_ow rfl rfl ?_) | (refine wkV_sc (congrArg (Value.int .i64) ?_)) | (refine wkV_sc (congrArg Value.bool ?_)) | exact wkV_ls rfl | ((refine wkV_cl ?_); conv => whnf) | ((refine wkV_tu ?_); conv => whnf) | ((refine wkV_ag ?_); conv => whnf) | (conv => whnf))))))
            all_goals first | rfl | exact w1 (by omega) | trace_state
          · (first | (with_reducible refine split_dt (by first | assumption | omega) ?_) | (with_reducible refine split_df (by first | assumption | omega) ?_) | (with_reducible refine split_et (by first | assumption | omega) ?_) | (with_reducible refine split_ef (by first | assumption | omega) ?_) | (with_reducible refine split_bt (by first | assumption | omega) ?_) | (with_reducible refine split_bf (by first | assumption | omega) ?_) | (with_reducible refine split_nt (by assumption) ?_) | (with_reducible refine split_nf (by assumption) ?_) | (with_reducible refine split_t (by assumption) ?_) | (with_reducible refine split_f (by assumption) ?_))
            conv => whnf
            refine ⟨i + 1, [], ⟨by omega, by omega⟩, ?_⟩
            conv => whnf
            (refine And.intro (And.intro (by with_unfolding_all rfl) (by intro q h; cases h)) ?_; refine And.intro ?_ (And.intro ?_ ?_) <;> (conv => whnf) <;> (repeat' (first | exact True.intro | (with_reducible exact rfl) | exact (rfl : List.replicate 0 PV.bad = []) | ((with_reducible refine And.intro ?_ ?_) <;> (first | (with_reducible exact wkV_same _ rfl) | exact wkV_pt rfl rfl | exact wkV_ow rfl rfl rfl | (refine wkV_ow rfl rfl ?_) | (refine wkV_sc (congrArg (Value.int .i64) ?_)) | (refine wkV_sc (congrArg Value.bool ?_)) | exact wkV_ls rfl | ((refine wkV_cl ?_); conv => whnf) | ((refine wkV_tu ?_); conv => whnf) | ((refine wkV_ag ?_); conv => whnf) | (conv => whnf))))))
            all_goals first | rfl | exact w1 (by omega) | trace_state
    · ((try ((refine Exists.intro none ?_); (conv => whnf))); first | ((with_reducible refine call_by (c_wakes18) ?_); conv => whnf))
      exact exit_plain rfl rfl
theorem told_RaftVotes (qs : List PV) (h : ArgsOf Try.prog [35, 45] qs) : Ctr Try.prog 4 qs (bv true) [] := by
  obtain ⟨p1, qs, rfl, h1, h⟩ := argsOf_cons h
  obtain ⟨p2, qs, rfl, h2, h⟩ := argsOf_cons h
  obtain rfl := argsOf_nil h
  obtain ⟨r, rfl, hr⟩ := arg_Rft h1
  obtain ⟨m, rfl, hm⟩ := arg_Mg h2
  exact l_RaftVotes r m hm
end Go.Proofs
