/- Contracts of functions: a message is taken, by its kind. (genH17.py prints this) -/
import Derived.Test.YtbhfokahocgndaaGreatH16
set_option linter.unusedSimpArgs false
set_option linter.unusedVariables false
namespace Go.Proofs
open Go.Pv
set_option maxRecDepth 100000

abbrev mkM (m : Mg) (k : Int) : Mg := { m with kind := k }
abbrev mkY (m : Mg) (k : Int) (y : Bool) : Mg := { m with kind := k, yes := y }
/-- A vote more. -/
noncomputable abbrev vtR (x : Rft) (m : Mg) : Rft := { x with votes := bor x.votes (shl 1 m.frm) }
noncomputable def k2R (x : Rft) (m : Mg) : Rft := if x.role = 1 then (if m.term = x.hard.term + 1 then (if quorum (inForce (vtR x m)) (vtR x m).votes = true then standR (vtR x m) else vtR x m) else x) else x
noncomputable def k2O (x : Rft) (m : Mg) : List (List PV) := if x.role = 1 then (if m.term = x.hard.term + 1 then (if quorum (inForce (vtR x m)) (vtR x m).votes = true then standO (vtR x m) else []) else []) else []
abbrev vdR (x : Rft) (m : Mg) : Rft := { x with hard := { x.hard with vote := m.frm } }
noncomputable def k3R (x : Rft) (m : Mg) : Rft := if voted x m = true then fallR (vdR x m) x.hard.term (-1) else x
noncomputable def k3O (x : Rft) (m : Mg) : List (List PV) := if voted x m = true then [msgV 4 (fallR (vdR x m) x.hard.term (-1)).id m.frm (fallR (vdR x m) x.hard.term (-1)).hard.term 0 0 0 0 true .nl cz .nl] else [msgV 4 x.id m.frm x.hard.term 0 0 0 0 false .nl cz .nl]
noncomputable def k4R (x : Rft) (m : Mg) : Rft := if x.role = 2 then (if quorum (inForce (vtR x m)) (vtR x m).votes = true then leadR (vtR x m) else vtR x m) else x
noncomputable def k4O (x : Rft) (m : Mg) : List (List PV) := if x.role = 2 then (if quorum (inForce (vtR x m)) (vtR x m).votes = true then (allL (leadR (vtR x m))).map (feedRow (leadR (vtR x m))) else []) else []
noncomputable def k8R (x : Rft) (m : Mg) : Rft := if isVoter x = true then (if x.lead = m.frm then standR x else x) else x
noncomputable def k8O (x : Rft) (m : Mg) : List (List PV) := if isVoter x = true then (if x.lead = m.frm then standO x else []) else []
theorem fit_fall {r : Rft} (hf : Fit r) {t : Int} (ht : r.hard.term ≤ t ∧ t ≤ 1099511627776) (l : Int) : Fit (fallR r t l) := by
  have hd := delay_fit (inForce r) hf.id
  have hT := hf.term
  have hz : ∀ i, i < 7 → 0 ≤ zA.at i ∧ zA.at i ≤ 1099511627776 := by
    intro i hi
    rcases (by omega : i = 0 ∨ i = 1 ∨ i = 2 ∨ i = 3 ∨ i = 4 ∨ i = 5 ∨ i = 6) with rfl | rfl | rfl | rfl | rfl | rfl | rfl <;> decide
  refine ⟨hf.id, by rw [fall_log]; exact hf.log, by rw [fall_snap]; exact hf.snap, ?_, ?_, hf.round, hf.quiet, ⟨hd.1, Int.le_trans hd.2 (by decide)⟩, hz, hz, Nat.zero_le _⟩
  · have : (fallR r t l).hard.base = r.hard.base := by unfold fallR; split <;> rfl
    rw [this]; exact hf.base
  · unfold fallR
    split
    · show 0 ≤ t ∧ t ≤ 1099511627776; omega
    · exact hT
theorem fall_term {r : Rft} {t : Int} (ht : r.hard.term < t) (l : Int) : (fallR r t l).hard.term = t := by unfold fallR; rw [if_pos ht]
set_option maxHeartbeats 4000000 in
theorem c_take_1 (r : Rft) (hf : Fit r) (out : List (List PV)) (ho : out.length ≤ 4000000) (m : Mg) :
    CtrE Tryz.prog 77 [.pt 1000000 0, .ag (mkM m 1).enc] [(1000000, repI r out)] (obI r out) (iv 0) [(1000000, repX r (out ++ askedO r (mkM m 1)))] obX := by
  have hl0 := hf.log
  have ka := c_asked r (smallM (by omega)) out (by omega) (mkM m 1)
  refine spec_of_bodyE mixed Tryz.func77 rfl (by kernel_rfl) (by kernel_rfl) ?_; conv => whnf
  ((first | (with_reducible refine split_dec (fun h => ?_) (fun h => ?_)) | (with_reducible refine split_beq (fun h => ?_) (fun h => ?_)) | (with_reducible refine split_bne (fun h => ?_) (fun h => ?_)) | (with_reducible refine split_not (fun h => ?_) (fun h => ?_)) | (with_reducible refine split_beqS (fun h => ?_) (fun h => ?_)) | (with_reducible refine split_intro (fun h => ?_) (fun h => ?_))) <;> conv => whnf)
  · ((refine Exists.intro (some ([(1000000, 1000000)], [(1000000, 1000000), (1000001, 1000001), (1000002, 1000002), (1000003, 1000003)], [])) ?_); (conv => whnf); first | ((with_reducible refine callE_by (ka) ?_); conv => whnf))
    (refine exitE_of [(1000000, 1000000), (1000001, 1000001), (1000002, 1000002), (1000003, 1000003)] [] ?_; (conv => whnf); (refine And.intro (And.intro (by with_unfolding_all rfl) (by intro q h; cases h)) ?_; refine And.intro ?_ (And.intro ?_ ?_) <;> (conv => whnf) <;> (repeat' (first | exact True.intro | (with_reducible exact rfl) | exact (rfl : List.replicate 0 PV.bad = []) | ((with_reducible refine And.intro ?_ ?_) <;> (first | (with_reducible exact wkV_same _ rfl) | exact wkV_pt rfl rfl | exact wkV_ow rfl rfl rfl | (refine wkV_ow rfl rfl ?_) | (refine wkV_sc (congrArg (Value.int .i64) ?_)) | (refine wkV_sc (congrArg Value.bool ?_)) | exact wkV_ls rfl | ((refine wkV_cl ?_); conv => whnf) | ((refine wkV_tu ?_); conv => whnf) | ((refine wkV_ag ?_); conv => whnf) | (conv => whnf)))))))
    all_goals first | rfl | trace_state
  · ((refine Exists.intro (some ([(1000000, 1000000)], [(1000000, 1000000), (1000001, 1000001), (1000002, 1000002), (1000003, 1000003)], [])) ?_); (conv => whnf); first | ((with_reducible refine callE_by (ka) ?_); conv => whnf))
    (refine exitE_of [(1000000, 1000000), (1000001, 1000001), (1000002, 1000002), (1000003, 1000003)] [] ?_; (conv => whnf); (refine And.intro (And.intro (by with_unfolding_all rfl) (by intro q h; cases h)) ?_; refine And.intro ?_ (And.intro ?_ ?_) <;> (conv => whnf) <;> (repeat' (first | exact True.intro | (with_reducible exact rfl) | exact (rfl : List.replicate 0 PV.bad = []) | ((with_reducible refine And.intro ?_ ?_) <;> (first | (with_reducible exact wkV_same _ rfl) | exact wkV_pt rfl rfl | exact wkV_ow rfl rfl rfl | (refine wkV_ow rfl rfl ?_) | (refine wkV_sc (congrArg (Value.int .i64) ?_)) | (refine wkV_sc (congrArg Value.bool ?_)) | exact wkV_ls rfl | ((refine wkV_cl ?_); conv => whnf) | ((refine wkV_tu ?_); conv => whnf) | ((refine wkV_ag ?_); conv => whnf) | (conv => whnf)))))))
    all_goals first | rfl | trace_state
set_option maxHeartbeats 8000000 in
theorem c_take_old (r : Rft) (hf : Fit r) (out : List (List PV)) (ho : out.length ≤ 4000000) (m : Mg) (hk : ¬ m.kind = 1) (hlt : m.term < r.hard.term) :
    CtrE Tryz.prog 77 [.pt 1000000 0, .ag m.enc] [(1000000, repI r out)] (obI r out) (iv 0) [(1000000, repX r (out ++ elderO r m))] obX := by
  have ke := c_elder r out (by omega) m
  have hng : ¬ m.term > r.hard.term := by omega
  refine spec_of_bodyE mixed Tryz.func77 rfl (by kernel_rfl) (by kernel_rfl) ?_; conv => whnf
  (first | (with_reducible refine split_dt (by first | assumption | omega) ?_) | (with_reducible refine split_df (by first | assumption | omega) ?_) | (with_reducible refine split_et (by first | assumption | omega) ?_) | (with_reducible refine split_ef (by first | assumption | omega) ?_) | (with_reducible refine split_bt (by first | assumption | omega) ?_) | (with_reducible refine split_bf (by first | assumption | omega) ?_) | (with_reducible refine split_nt (by assumption) ?_) | (with_reducible refine split_nf (by assumption) ?_) | (with_reducible refine split_t (by assumption) ?_) | (with_reducible refine split_f (by assumption) ?_))
  conv => whnf
  (first | (with_reducible refine split_dt (by first | assumption | omega) ?_) | (with_reducible refine split_df (by first | assumption | omega) ?_) | (with_reducible refine split_et (by first | assumption | omega) ?_) | (with_reducible refine split_ef (by first | assumption | omega) ?_) | (with_reducible refine split_bt (by first | assumption | omega) ?_) | (with_reducible refine split_bf (by first | assumption | omega) ?_) | (with_reducible refine split_nt (by assumption) ?_) | (with_reducible refine split_nf (by assumption) ?_) | (with_reducible refine split_t (by assumption) ?_) | (with_reducible refine split_f (by assumption) ?_))
  conv => whnf
  (first | (with_reducible refine split_dt (by first | assumption | omega) ?_) | (with_reducible refine split_df (by first | assumption | omega) ?_) | (with_reducible refine split_et (by first | assumption | omega) ?_) | (with_reducible refine split_ef (by first | assumption | omega) ?_) | (with_reducible refine split_bt (by first | assumption | omega) ?_) | (with_reducible refine split_bf (by first | assumption | omega) ?_) | (with_reducible refine split_nt (by assumption) ?_) | (with_reducible refine split_nf (by assumption) ?_) | (with_reducible refine split_t (by assumption) ?_) | (with_reducible refine split_f (by assumption) ?_))
  conv => whnf
  ((refine Exists.intro (some ([(1000000, 1000000)], [(1000000, 1000000), (1000001, 1000001), (1000002, 1000002), (1000003, 1000003)], [])) ?_); (conv => whnf); first | ((with_reducible refine callE_by (ke) ?_); conv => whnf))
  (refine exitE_of [(1000000, 1000000), (1000001, 1000001), (1000002, 1000002), (1000003, 1000003)] [] ?_; (conv => whnf); (refine And.intro (And.intro (by with_unfolding_all rfl) (by intro q h; cases h)) ?_; refine And.intro ?_ (And.intro ?_ ?_) <;> (conv => whnf) <;> (repeat' (first | exact True.intro | (with_reducible exact rfl) | exact (rfl : List.replicate 0 PV.bad = []) | ((with_reducible refine And.intro ?_ ?_) <;> (first | (with_reducible exact wkV_same _ rfl) | exact wkV_pt rfl rfl | exact wkV_ow rfl rfl rfl | (refine wkV_ow rfl rfl ?_) | (refine wkV_sc (congrArg (Value.int .i64) ?_)) | (refine wkV_sc (congrArg Value.bool ?_)) | exact wkV_ls rfl | ((refine wkV_cl ?_); conv => whnf) | ((refine wkV_tu ?_); conv => whnf) | ((refine wkV_ag ?_); conv => whnf) | (conv => whnf)))))))
  all_goals first | rfl | trace_state
end Go.Proofs
