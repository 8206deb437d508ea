import Derived.Test.YtbhfokahocgndaaN3
import Derived.Test.YtbhfokahocgndaaC6
set_option linter.unusedSimpArgs false
set_option linter.unusedVariables false
namespace Go.Proofs
open Go.Pv
set_option maxRecDepth 100000

set_option maxHeartbeats 4000000 in
theorem l_RaftGrows (r : Rft) (m : Mg) (hm : m.ok) : Ctr Try.prog 5 [.ag r.enc, .ag m.enc] (bv true) [] := by
  have kr := c_Heavy15 r
  have km := c_HeavyMsg m hm
  cases hr : heavyR r with
  | true =>
    rw [hr] at kr
    refine spec_of_body mixed Try.func5 rfl (by kernel_rfl) (by kernel_rfl) ?_; conv => whnf
    ((try ((refine Exists.intro none ?_); (conv => whnf))); first | ((with_reducible refine call_by (kr) ?_); conv => whnf))
    exact exit_plain rfl rfl
  | false =>
  rw [hr] at kr
  cases hv : heavyM m with
  | true =>
    rw [hv] at km
    refine spec_of_body mixed Try.func5 rfl (by kernel_rfl) (by kernel_rfl) ?_; conv => whnf
    ((try ((refine Exists.intro none ?_); (conv => whnf))); first | ((with_reducible refine call_by (kr) ?_); conv => whnf))
    ((try ((refine Exists.intro none ?_); (conv => whnf))); first | ((with_reducible refine call_by (km) ?_); conv => whnf))
    exact exit_plain rfl rfl
  | false =>
  rw [hv] at km
  cases outc r m hr hv with
  | bad E hE k =>
    refine spec_of_body mixed Try.func5 rfl (by kernel_rfl) (by kernel_rfl) ?_; conv => whnf
    ((try ((refine Exists.intro none ?_); (conv => whnf))); first | ((with_reducible refine call_by (kr) ?_); conv => whnf))
    ((try ((refine Exists.intro none ?_); (conv => whnf))); first | ((with_reducible refine call_by (km) ?_); conv => whnf))
    ((try ((refine Exists.intro none ?_); (conv => whnf))); first | ((with_reducible refine call_by (k) ?_); conv => whnf))
    ((first | (with_reducible refine split_dec (fun h => ?_) (fun h => ?_)) | (with_reducible refine split_beq (fun h => ?_) (fun h => ?_)) | (with_reducible refine split_bne (fun h => ?_) (fun h => ?_)) | (with_reducible refine split_not (fun h => ?_) (fun h => ?_)) | (with_reducible refine split_beqS (fun h => ?_) (fun h => ?_)) | (with_reducible refine split_intro (fun h => ?_) (fun h => ?_))) <;> conv => whnf)
    · ((try ((refine Exists.intro none ?_); (conv => whnf))); first | ((with_reducible refine call_by (c_wakes18) ?_); conv => whnf))
      exact exit_plain rfl rfl
    · exact absurd (by first | exact h | (simpa using h)) hE
  | ok R L k g t hn7 hM _ =>
  cases L with
  | nil =>
    refine spec_of_body mixed Try.func5 rfl (by kernel_rfl) (by kernel_rfl) ?_; conv => whnf
    ((try ((refine Exists.intro none ?_); (conv => whnf))); first | ((with_reducible refine call_by (kr) ?_); conv => whnf))
    ((try ((refine Exists.intro none ?_); (conv => whnf))); first | ((with_reducible refine call_by (km) ?_); conv => whnf))
    ((try ((refine Exists.intro none ?_); (conv => whnf))); first | ((with_reducible refine call_by (k) ?_); conv => whnf))
    (refine Exists.intro _ (And.intro rfl (And.intro (by intro q _; simp only [List.length_nil]; omega) (And.intro (by intro i hi; exact absurd hi (Nat.not_lt_zero i)) ?_))); conv => whnf)
    ((try ((refine Exists.intro none ?_); (conv => whnf))); first | ((with_reducible refine call_by (c_wakes18) ?_); conv => whnf))
    exact exit_plain rfl rfl
  | cons x L =>
  have tx := (t x (List.mem_cons_self ..)).gro
  have hix := hM.index
  have hen := (heavyM_len hv).1.1
  have hgl := g.log
  have hgb := g.base
  have kl := c_rLast R.hard (smallM (by omega))
  have ka := fun i hi => c_rAt R.hard (smallM (by omega)) hgb.1 (by omega) i hi
  refine spec_of_body mixed Try.func5 rfl (by kernel_rfl) (by kernel_rfl) ?_; conv => whnf
  ((try ((refine Exists.intro none ?_); (conv => whnf))); first | ((with_reducible refine call_by (kr) ?_); conv => whnf))
  ((try ((refine Exists.intro none ?_); (conv => whnf))); first | ((with_reducible refine call_by (km) ?_); conv => whnf))
  ((try ((refine Exists.intro none ?_); (conv => whnf))); first | ((with_reducible refine call_by (k) ?_); conv => whnf))
  (refine Exists.intro _ (And.intro rfl (And.intro (by intro q _; simp only [List.length_nil]; omega) (And.intro (by intro i hi; exact absurd hi (Nat.not_lt_zero i)) ?_))); conv => whnf)
  have row0 : ((x :: L).map Mx.enc)[Int.toNat 0]? = some x.enc := rfl
  refine ⟨by decide, _, row0, ?_⟩
  conv => whnf
  ((first | (with_reducible refine split_dec (fun h => ?_) (fun h => ?_)) | (with_reducible refine split_beq (fun h => ?_) (fun h => ?_)) | (with_reducible refine split_bne (fun h => ?_) (fun h => ?_)) | (with_reducible refine split_not (fun h => ?_) (fun h => ?_)) | (with_reducible refine split_beqS (fun h => ?_) (fun h => ?_)) | (with_reducible refine split_intro (fun h => ?_) (fun h => ?_))) <;> conv => whnf)
  · ((try ((refine Exists.intro none ?_); (conv => whnf))); first | ((with_reducible refine call_by (c_wakes18) ?_); conv => whnf))
    exact exit_plain rfl rfl
  · have hk : x.kind = 6 := by first | exact h | exact Classical.byContradiction h
    clear h
    have tx := tx hk
    refine ⟨by decide, _, row0, ?_⟩
    conv => whnf
    cases hy : x.yes with
    | false =>
      conv => whnf
      ((try ((refine Exists.intro none ?_); (conv => whnf))); first | ((with_reducible refine call_by (c_wakes18) ?_); conv => whnf))
      exact exit_plain rfl rfl
    | true =>
      obtain ⟨t1, t2, t3, t4, t5, t6⟩ := tx hy
      conv => whnf
      ((try ((refine Exists.intro none ?_); (conv => whnf))); first | ((with_reducible refine call_by (kl) ?_); conv => whnf))
      refine ⟨by decide, _, row0, ?_⟩
      conv => whnf
      (first | (with_reducible refine split_dt (by first | assumption | omega) ?_) | (with_reducible refine split_df (by first | assumption | omega) ?_) | (with_reducible refine split_et (by first | assumption | omega) ?_) | (with_reducible refine split_ef (by first | assumption | omega) ?_) | (with_reducible refine split_bt (by first | assumption | omega) ?_) | (with_reducible refine split_bf (by first | assumption | omega) ?_) | (with_reducible refine split_nt (by assumption) ?_) | (with_reducible refine split_nf (by assumption) ?_) | (with_reducible refine split_t (by assumption) ?_) | (with_reducible refine split_f (by assumption) ?_))
      conv => whnf
      (first | (with_reducible refine split_dt (by first | assumption | omega) ?_) | (with_reducible refine split_df (by first | assumption | omega) ?_) | (with_reducible refine split_et (by first | assumption | omega) ?_) | (with_reducible refine split_ef (by first | assumption | omega) ?_) | (with_reducible refine split_bt (by first | assumption | omega) ?_) | (with_reducible refine split_bf (by first | assumption | omega) ?_) | (with_reducible refine split_nt (by assumption) ?_) | (with_reducible refine split_nf (by assumption) ?_) | (with_reducible refine split_t (by assumption) ?_) | (with_reducible refine split_f (by assumption) ?_))
      conv => whnf
      (first | (with_reducible refine split_dt (by first | assumption | omega) ?_) | (with_reducible refine split_df (by first | assumption | omega) ?_) | (with_reducible refine split_et (by first | assumption | omega) ?_) | (with_reducible refine split_ef (by first | assumption | omega) ?_) | (with_reducible refine split_bt (by first | assumption | omega) ?_) | (with_reducible refine split_bf (by first | assumption | omega) ?_) | (with_reducible refine split_nt (by assumption) ?_) | (with_reducible refine split_nf (by assumption) ?_) | (with_reducible refine split_t (by assumption) ?_) | (with_reducible refine split_f (by assumption) ?_))
      conv => whnf
      (first | (with_reducible refine split_dt (by first | assumption | omega) ?_) | (with_reducible refine split_df (by first | assumption | omega) ?_) | (with_reducible refine split_et (by first | assumption | omega) ?_) | (with_reducible refine split_ef (by first | assumption | omega) ?_) | (with_reducible refine split_bt (by first | assumption | omega) ?_) | (with_reducible refine split_bf (by first | assumption | omega) ?_) | (with_reducible refine split_nt (by assumption) ?_) | (with_reducible refine split_nf (by assumption) ?_) | (with_reducible refine split_t (by assumption) ?_) | (with_reducible refine split_f (by assumption) ?_))
      conv => whnf
      refine ⟨by decide, _, row0, ?_⟩
      conv => whnf
      (first | (with_reducible refine split_dt (by first | assumption | omega) ?_) | (with_reducible refine split_df (by first | assumption | omega) ?_) | (with_reducible refine split_et (by first | assumption | omega) ?_) | (with_reducible refine split_ef (by first | assumption | omega) ?_) | (with_reducible refine split_bt (by first | assumption | omega) ?_) | (with_reducible refine split_bf (by first | assumption | omega) ?_) | (with_reducible refine split_nt (by assumption) ?_) | (with_reducible refine split_nf (by assumption) ?_) | (with_reducible refine split_t (by assumption) ?_) | (with_reducible refine split_f (by assumption) ?_))
      conv => whnf
      refine tri_forO mixed (by kernel_rfl) (fun k : Nat => k ≤ m.entries.length) (fun k => [(10, iv k)]) (fun _ => [(2, r.enc), (3, m.enc), (5, R.enc)]) (fun _ => []) [] (fun k => m.entries.length - k) 0 (Nat.zero_le _) ?_ ?_
      · conv => whnf
        (refine And.intro (And.intro (by with_unfolding_all rfl) (by intro q h; cases h)) ?_; refine And.intro ?_ (And.intro ?_ ?_) <;> (conv => whnf) <;> (repeat' (first | exact True.intro | (with_reducible exact rfl) | exact (rfl : List.replicate 0 PV.bad = []) | ((with_reducible refine And.intro ?_ ?_) <;> (first | (with_reducible exact wkV_same _ rfl) | exact wkV_pt rfl rfl | exact wkV_ow rfl rfl rfl | (refine wkV_ow rfl rfl ?_) | (refine wkV_sc (congrArg (Value.int .i64) ?_)) | (refine wkV_sc (congrArg Value.bool ?_)) | exact wkV_ls rfl | ((refine wkV_cl ?_); conv => whnf) | ((refine wkV_tu ?_); conv => whnf) | ((refine wkV_ag ?_); conv => whnf) | (conv => whnf))))))
        all_goals first | rfl | trace_state
      intro i hi
      conv => whnf
      ((first | (with_reducible refine split_dec (fun h => ?_) (fun h => ?_)) | (with_reducible refine split_beq (fun h => ?_) (fun h => ?_)) | (with_reducible refine split_bne (fun h => ?_) (fun h => ?_)) | (with_reducible refine split_not (fun h => ?_) (fun h => ?_)) | (with_reducible refine split_beqS (fun h => ?_) (fun h => ?_)) | (with_reducible refine split_intro (fun h => ?_) (fun h => ?_))) <;> conv => whnf)
      · simp only [List.length_map] at h
        have hlt : i < m.entries.length := by omega
        clear h
        have ew : IntKind.i64.wrap (IntKind.i64.wrap (m.index + 1) + (i : Int)) = m.index + 1 + (i : Int) := by
          rw [show IntKind.i64.wrap (m.index + 1) = m.index + 1 from wrap_id (by omega) (by omega)]
          exact wrap_id (by omega) (by omega)
        have ka := ka (m.index + 1 + (i : Int)) (by unfold isI; omega)
        have t6 := fun h5 => t6 h5 i hlt
        rw [ew]
        generalize hoe : entAt R.hard (m.index + 1 + (i : Int)) = oe at *
        cases oe with
        | none =>
          ((try ((refine Exists.intro none ?_); (conv => whnf))); first | ((with_reducible refine call_by (ka) ?_); conv => whnf))
          ((first | (with_reducible refine split_dec (fun h => ?_) (fun h => ?_)) | (with_reducible refine split_beq (fun h => ?_) (fun h => ?_)) | (with_reducible refine split_bne (fun h => ?_) (fun h => ?_)) | (with_reducible refine split_not (fun h => ?_) (fun h => ?_)) | (with_reducible refine split_beqS (fun h => ?_) (fun h => ?_)) | (with_reducible refine split_intro (fun h => ?_) (fun h => ?_))) <;> conv => whnf)
          · have h5 := h
            clear h
            ((first | (with_reducible refine split_dec (fun h => ?_) (fun h => ?_)) | (with_reducible refine split_beq (fun h => ?_) (fun h => ?_)) | (with_reducible refine split_bne (fun h => ?_) (fun h => ?_)) | (with_reducible refine split_not (fun h => ?_) (fun h => ?_)) | (with_reducible refine split_beqS (fun h => ?_) (fun h => ?_)) | (with_reducible refine split_intro (fun h => ?_) (fun h => ?_))) <;> conv => whnf)
            · obtain ⟨e, he, _⟩ := t6 h5 h
              cases he
            · clear h
              refine ⟨i + 1, [], ⟨by omega, by omega⟩, ?_⟩
              conv => whnf
              (refine And.intro (And.intro (by with_unfolding_all rfl) (by intro q h; cases h)) ?_; refine And.intro ?_ (And.intro ?_ ?_) <;> (conv => whnf) <;> (repeat' (first | exact True.intro | (with_reducible exact rfl) | exact (rfl : List.replicate 0 PV.bad = []) | ((with_reducible refine And.intro ?_ ?_) <;> (first | (with_reducible exact wkV_same _ rfl) | exact wkV_pt rfl rfl | exact wkV_ow rfl rfl rfl | (refine wkV_ow rfl rfl ?_) | (refine wkV_sc (congrArg (Value.int .i64) ?_)) | (refine wkV_sc (congrArg Value.bool ?_)) | exact wkV_ls rfl | ((refine wkV_cl ?_); conv => whnf) | ((refine wkV_tu ?_); conv => whnf) | ((refine wkV_ag ?_); conv => whnf) | (conv => whnf))))))
              all_goals first | rfl | exact w1 (by omega) | trace_state
          · clear h
            refine ⟨i + 1, [], ⟨by omega, by omega⟩, ?_⟩
            conv => whnf
            (refine And.intro (And.intro (by with_unfolding_all rfl) (by intro q h; cases h)) ?_; refine And.intro ?_ (And.intro ?_ ?_) <;> (conv => whnf) <;> (repeat' (first | exact True.intro | (with_reducible exact rfl) | exact (rfl : List.replicate 0 PV.bad = []) | ((with_reducible refine And.intro ?_ ?_) <;> (first | (with_reducible exact wkV_same _ rfl) | exact wkV_pt rfl rfl | exact wkV_ow rfl rfl rfl | (refine wkV_ow rfl rfl ?_) | (refine wkV_sc (congrArg (Value.int .i64) ?_)) | (refine wkV_sc (congrArg Value.bool ?_)) | exact wkV_ls rfl | ((refine wkV_cl ?_); conv => whnf) | ((refine wkV_tu ?_); conv => whnf) | ((refine wkV_ag ?_); conv => whnf) | (conv => whnf))))))
            all_goals first | rfl | exact w1 (by omega) | trace_state
        | some e =>
          ((try ((refine Exists.intro none ?_); (conv => whnf))); first | ((with_reducible refine call_by (ka) ?_); conv => whnf))
          ((first | (with_reducible refine split_dec (fun h => ?_) (fun h => ?_)) | (with_reducible refine split_beq (fun h => ?_) (fun h => ?_)) | (with_reducible refine split_bne (fun h => ?_) (fun h => ?_)) | (with_reducible refine split_not (fun h => ?_) (fun h => ?_)) | (with_reducible refine split_beqS (fun h => ?_) (fun h => ?_)) | (with_reducible refine split_intro (fun h => ?_) (fun h => ?_))) <;> conv => whnf)
          · have h5 := h
            clear h
            ((first | (with_reducible refine split_dec (fun h => ?_) (fun h => ?_)) | (with_reducible refine split_beq (fun h => ?_) (fun h => ?_)) | (with_reducible refine split_bne (fun h => ?_) (fun h => ?_)) | (with_reducible refine split_not (fun h => ?_) (fun h => ?_)) | (with_reducible refine split_beqS (fun h => ?_) (fun h => ?_)) | (with_reducible refine split_intro (fun h => ?_) (fun h => ?_))) <;> conv => whnf)
            · obtain ⟨e', he, het⟩ := t6 h5 h
              obtain rfl := Option.some.inj he
              clear h
              have het : ((some e).getD ez).term = (m.entries[i]'hlt).term := het
              (first | ((with_reducible refine And.intro (by omega) (Exists.intro _ (And.intro (row_at hlt) ?_))); conv => whnf))
              (first | (with_reducible refine split_dt (by first | assumption | omega) ?_) | (with_reducible refine split_df (by first | assumption | omega) ?_) | (with_reducible refine split_et (by first | assumption | omega) ?_) | (with_reducible refine split_ef (by first | assumption | omega) ?_) | (with_reducible refine split_bt (by first | assumption | omega) ?_) | (with_reducible refine split_bf (by first | assumption | omega) ?_) | (with_reducible refine split_nt (by assumption) ?_) | (with_reducible refine split_nf (by assumption) ?_) | (with_reducible refine split_t (by assumption) ?_) | (with_reducible refine split_f (by assumption) ?_))
              conv => whnf
              refine ⟨i + 1, [], ⟨by omega, by omega⟩, ?_⟩
              conv => whnf
              (refine And.intro (And.intro (by with_unfolding_all rfl) (by intro q h; cases h)) ?_; refine And.intro ?_ (And.intro ?_ ?_) <;> (conv => whnf) <;> (repeat' (first | exact True.intro | (with_reducible exact rfl) | exact (rfl : List.replicate 0 PV.bad = []) | ((with_reducible refine And.intro ?_ ?_) <;> (first | (with_reducible exact wkV_same _ rfl) | exact wkV_pt rfl rfl | exact wkV_ow rfl rfl rfl | (refine wkV_ow rfl rfl ?_) | (refine wkV_sc (congrArg (Value.int .i64) ?_)) | (refine wkV_sc (congrArg Value.bool ?_)) | exact wkV_ls rfl | ((refine wkV_cl ?_); conv => whnf) | ((refine wkV_tu ?_); conv => whnf) | ((refine wkV_ag ?_); conv => whnf) | (conv => whnf))))))
              all_goals first | rfl | exact w1 (by omega) | trace_state
            · clear h
              refine ⟨i + 1, [], ⟨by omega, by omega⟩, ?_⟩
              conv => whnf
              (refine And.intro (And.intro (by with_unfolding_all rfl) (by intro q h; cases h)) ?_; refine And.intro ?_ (And.intro ?_ ?_) <;> (conv => whnf) <;> (repeat' (first | exact True.intro | (with_reducible exact rfl) | exact (rfl : List.replicate 0 PV.bad = []) | ((with_reducible refine And.intro ?_ ?_) <;> (first | (with_reducible exact wkV_same _ rfl) | exact wkV_pt rfl rfl | exact wkV_ow rfl rfl rfl | (refine wkV_ow rfl rfl ?_) | (refine wkV_sc (congrArg (Value.int .i64) ?_)) | (refine wkV_sc (congrArg Value.bool ?_)) | exact wkV_ls rfl | ((refine wkV_cl ?_); conv => whnf) | ((refine wkV_tu ?_); conv => whnf) | ((refine wkV_ag ?_); conv => whnf) | (conv => whnf))))))
              all_goals first | rfl | exact w1 (by omega) | trace_state
          · clear h
            refine ⟨i + 1, [], ⟨by omega, by omega⟩, ?_⟩
            conv => whnf
            (refine And.intro (And.intro (by with_unfolding_all rfl) (by intro q h; cases h)) ?_; refine And.intro ?_ (And.intro ?_ ?_) <;> (conv => whnf) <;> (repeat' (first | exact True.intro | (with_reducible exact rfl) | exact (rfl : List.replicate 0 PV.bad = []) | ((with_reducible refine And.intro ?_ ?_) <;> (first | (with_reducible exact wkV_same _ rfl) | exact wkV_pt rfl rfl | exact wkV_ow rfl rfl rfl | (refine wkV_ow rfl rfl ?_) | (refine wkV_sc (congrArg (Value.int .i64) ?_)) | (refine wkV_sc (congrArg Value.bool ?_)) | exact wkV_ls rfl | ((refine wkV_cl ?_); conv => whnf) | ((refine wkV_tu ?_); conv => whnf) | ((refine wkV_ag ?_); conv => whnf) | (conv => whnf))))))
            all_goals first | rfl | exact w1 (by omega) | trace_state
      · ((try ((refine Exists.intro none ?_); (conv => whnf))); first | ((with_reducible refine call_by (c_wakes18) ?_); conv => whnf))
        exact exit_plain rfl rfl
theorem told_RaftGrows (qs : List PV) (h : ArgsOf Try.prog [35, 45] qs) : Ctr Try.prog 5 qs (bv true) [] := by
  obtain ⟨p1, qs, rfl, h1, h⟩ := argsOf_cons h
  obtain ⟨p2, qs, rfl, h2, h⟩ := argsOf_cons h
  obtain rfl := argsOf_nil h
  obtain ⟨r, rfl, hr⟩ := arg_Rft h1
  obtain ⟨m, rfl, hm⟩ := arg_Mg h2
  exact l_RaftGrows r m hm
end Go.Proofs
