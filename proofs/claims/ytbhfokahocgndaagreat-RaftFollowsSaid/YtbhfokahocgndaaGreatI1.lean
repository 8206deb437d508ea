import Derived.Test.YtbhfokahocgndaaGreatH17
/- Contracts of functions: a message is taken, by its kind: one kind. (genH17.py writes this) -/
set_option linter.unusedSimpArgs false
set_option linter.unusedVariables false
namespace Go.Proofs
open Go.Pv
set_option maxRecDepth 100000

set_option maxHeartbeats 8000000 in
theorem c_take_2n (r : Rft) (hf : Fit r) (out : List (List PV)) (ho : out.length ≤ 4000000) (m : Mg) (hfr : 0 ≤ m.frm ∧ m.frm < 7) (hmt : m.term ≤ 1099511627776) (heq : m.term = r.hard.term) :
    CtrE Tryz.prog 77 [.pt 1000000 0, .ag (mkY m 2 false).enc] [(1000000, repI r out)] (obI r out) (iv 0) [(1000000, repX (r) (out ++ ([] : List (List PV))))] obX := by
  have hl0 := hf.log
  have hT0 := hf.term
  have hfx := hf
  have hx0 : ¬ (mkY m 2 false).term < r.hard.term := by show ¬ m.term < r.hard.term; omega
  have hg1 : ¬ r.hard.term < (mkY m 2 false).term := by show ¬ r.hard.term < m.term; omega
  have hlx := hfx.log
  have hmx : r.hard.log.length ≤ maxLen := smallM (by omega)
  rw [List.append_nil]
  refine spec_of_bodyE mixed Tryz.func77 rfl (by kernel_rfl) (by kernel_rfl) ?_; conv => whnf
  (first | (with_reducible refine split_dt (by first | assumption | omega) ?_) | (with_reducible refine split_df (by first | assumption | omega) ?_) | (with_reducible refine split_et (by first | assumption | omega) ?_) | (with_reducible refine split_ef (by first | assumption | omega) ?_) | (with_reducible refine split_bt (by first | assumption | omega) ?_) | (with_reducible refine split_bf (by first | assumption | omega) ?_) | (with_reducible refine split_nt (by assumption) ?_) | (with_reducible refine split_nf (by assumption) ?_) | (with_reducible refine split_t (by assumption) ?_) | (with_reducible refine split_f (by assumption) ?_))
  conv => whnf
  (first | (with_reducible refine split_dt (by first | assumption | omega) ?_) | (with_reducible refine split_df (by first | assumption | omega) ?_) | (with_reducible refine split_et (by first | assumption | omega) ?_) | (with_reducible refine split_ef (by first | assumption | omega) ?_) | (with_reducible refine split_bt (by first | assumption | omega) ?_) | (with_reducible refine split_bf (by first | assumption | omega) ?_) | (with_reducible refine split_nt (by assumption) ?_) | (with_reducible refine split_nf (by assumption) ?_) | (with_reducible refine split_t (by assumption) ?_) | (with_reducible refine split_f (by assumption) ?_))
  conv => whnf
  refine ⟨⟨by decide, hfr.1⟩, ?_⟩
  conv => whnf
  ((first | (with_reducible refine split_dec (fun h => ?_) (fun h => ?_)) | (with_reducible refine split_beq (fun h => ?_) (fun h => ?_)) | (with_reducible refine split_bne (fun h => ?_) (fun h => ?_)) | (with_reducible refine split_not (fun h => ?_) (fun h => ?_)) | (with_reducible refine split_beqS (fun h => ?_) (fun h => ?_)) | (with_reducible refine split_intro (fun h => ?_) (fun h => ?_))) <;> conv => whnf)
  · (refine exitE_val 1000000 9 1000000 _ _ rfl rfl rfl rfl ?_; refine exitE_val 1000000 10 1000001 _ _ rfl rfl rfl rfl ?_; refine exitE_val 1000000 39 1000002 _ _ rfl rfl rfl rfl ?_; refine exitE_val 1000000 40 1000003 _ _ rfl rfl rfl rfl ?_; refine exitE_of [(1000000, 1000000), (1000001, 1000001), (1000002, 1000002), (1000003, 1000003)] [] ?_; (conv => whnf); (refine And.intro (And.intro (by with_unfolding_all rfl) (by intro q h; cases h)) ?_; refine And.intro ?_ (And.intro ?_ ?_) <;> (conv => whnf) <;> (repeat' (first | exact True.intro | (with_reducible exact rfl) | exact (rfl : List.replicate 0 PV.bad = []) | ((with_reducible refine And.intro ?_ ?_) <;> (first | (with_reducible exact wkV_same _ rfl) | exact wkV_pt rfl rfl | exact wkV_ow rfl rfl rfl | (refine wkV_ow rfl rfl ?_) | (refine wkV_sc (congrArg (Value.int .i64) ?_)) | (refine wkV_sc (congrArg Value.bool ?_)) | exact wkV_ls rfl | ((refine wkV_cl ?_); conv => whnf) | ((refine wkV_tu ?_); conv => whnf) | ((refine wkV_ag ?_); conv => whnf) | (conv => whnf)))))))
    all_goals first | rfl | exact .inl rfl | trace_state
  · (refine exitE_val 1000000 9 1000000 _ _ rfl rfl rfl rfl ?_; refine exitE_val 1000000 10 1000001 _ _ rfl rfl rfl rfl ?_; refine exitE_val 1000000 39 1000002 _ _ rfl rfl rfl rfl ?_; refine exitE_val 1000000 40 1000003 _ _ rfl rfl rfl rfl ?_; refine exitE_of [(1000000, 1000000), (1000001, 1000001), (1000002, 1000002), (1000003, 1000003)] [] ?_; (conv => whnf); (refine And.intro (And.intro (by with_unfolding_all rfl) (by intro q h; cases h)) ?_; refine And.intro ?_ (And.intro ?_ ?_) <;> (conv => whnf) <;> (repeat' (first | exact True.intro | (with_reducible exact rfl) | exact (rfl : List.replicate 0 PV.bad = []) | ((with_reducible refine And.intro ?_ ?_) <;> (first | (with_reducible exact wkV_same _ rfl) | exact wkV_pt rfl rfl | exact wkV_ow rfl rfl rfl | (refine wkV_ow rfl rfl ?_) | (refine wkV_sc (congrArg (Value.int .i64) ?_)) | (refine wkV_sc (congrArg Value.bool ?_)) | exact wkV_ls rfl | ((refine wkV_cl ?_); conv => whnf) | ((refine wkV_tu ?_); conv => whnf) | ((refine wkV_ag ?_); conv => whnf) | (conv => whnf)))))))
    all_goals first | rfl | exact .inl rfl | trace_state
set_option maxHeartbeats 8000000 in
theorem c_take_2nF (r : Rft) (hf : Fit r) (out : List (List PV)) (ho : out.length ≤ 4000000) (m : Mg) (hfr : 0 ≤ m.frm ∧ m.frm < 7) (hmt : m.term ≤ 1099511627776) (hgt : r.hard.term < m.term) :
    CtrE Tryz.prog 77 [.pt 1000000 0, .ag (mkY m 2 false).enc] [(1000000, repI r out)] (obI r out) (iv 0) [(1000000, repX ((fallR r m.term (-1))) (out ++ ([] : List (List PV))))] obX := by
  have hl0 := hf.log
  have hT0 := hf.term
  have kf := c_fallX r (smallM (by omega)) out m.term (-1)
  have hfx := fit_fall hf (t := m.term) (by omega) (-1)
  have hxt := fall_term hgt (-1)
  have hx0 : ¬ (mkY m 2 false).term < (fallR r m.term (-1)).hard.term := by show ¬ m.term < (fallR r m.term (-1)).hard.term; omega
  have hg1 : r.hard.term < (mkY m 2 false).term := hgt
  have hlx := hfx.log
  have hmx : (fallR r m.term (-1)).hard.log.length ≤ maxLen := smallM (by omega)
  rw [List.append_nil]
  refine spec_of_bodyE mixed Tryz.func77 rfl (by kernel_rfl) (by kernel_rfl) ?_; conv => whnf
  (first | (with_reducible refine split_dt (by first | assumption | omega) ?_) | (with_reducible refine split_df (by first | assumption | omega) ?_) | (with_reducible refine split_et (by first | assumption | omega) ?_) | (with_reducible refine split_ef (by first | assumption | omega) ?_) | (with_reducible refine split_bt (by first | assumption | omega) ?_) | (with_reducible refine split_bf (by first | assumption | omega) ?_) | (with_reducible refine split_nt (by assumption) ?_) | (with_reducible refine split_nf (by assumption) ?_) | (with_reducible refine split_t (by assumption) ?_) | (with_reducible refine split_f (by assumption) ?_))
  conv => whnf
  ((refine Exists.intro (some ([(1000000, 1000000)], [(1000000, 1000000), (1000001, 1000001), (1000002, 1000002), (1000003, 1000003)], [(2, 3000)])) ?_); (conv => whnf); first | ((with_reducible refine callE_by (kf) ?_); conv => whnf))
  (first | (with_reducible refine split_dt (by first | assumption | omega) ?_) | (with_reducible refine split_df (by first | assumption | omega) ?_) | (with_reducible refine split_et (by first | assumption | omega) ?_) | (with_reducible refine split_ef (by first | assumption | omega) ?_) | (with_reducible refine split_bt (by first | assumption | omega) ?_) | (with_reducible refine split_bf (by first | assumption | omega) ?_) | (with_reducible refine split_nt (by assumption) ?_) | (with_reducible refine split_nf (by assumption) ?_) | (with_reducible refine split_t (by assumption) ?_) | (with_reducible refine split_f (by assumption) ?_))
  conv => whnf
  refine ⟨⟨by decide, hfr.1⟩, ?_⟩
  conv => whnf
  (refine exitE_val 1000000 9 1000000 _ _ rfl rfl rfl rfl ?_; refine exitE_val 1000000 10 1000001 _ _ rfl rfl rfl rfl ?_; refine exitE_val 1000000 39 3000 _ _ rfl rfl rfl rfl ?_; refine exitE_val 1000000 40 1000003 _ _ rfl rfl rfl rfl ?_; refine exitE_of [(1000000, 1000000), (1000001, 1000001), (1000002, 1000002), (1000003, 1000003)] [] ?_; (conv => whnf); (refine And.intro (And.intro (by with_unfolding_all rfl) (by intro q h; cases h)) ?_; refine And.intro ?_ (And.intro ?_ ?_) <;> (conv => whnf) <;> (repeat' (first | exact True.intro | (with_reducible exact rfl) | exact (rfl : List.replicate 0 PV.bad = []) | ((with_reducible refine And.intro ?_ ?_) <;> (first | (with_reducible exact wkV_same _ rfl) | exact wkV_pt rfl rfl | exact wkV_ow rfl rfl rfl | (refine wkV_ow rfl rfl ?_) | (refine wkV_sc (congrArg (Value.int .i64) ?_)) | (refine wkV_sc (congrArg Value.bool ?_)) | exact wkV_ls rfl | ((refine wkV_cl ?_); conv => whnf) | ((refine wkV_tu ?_); conv => whnf) | ((refine wkV_ag ?_); conv => whnf) | (conv => whnf)))))))
  all_goals first | rfl | exact .inl rfl | trace_state
end Go.Proofs

/- Contracts of functions: a message is taken, by its kind: one kind. (genH17.py writes this) -/
namespace Go.Proofs
open Go.Pv
set_option maxRecDepth 100000

set_option maxHeartbeats 8000000 in
theorem c_take_2y (r : Rft) (hf : Fit r) (out : List (List PV)) (ho : out.length ≤ 4000000) (m : Mg) (hfr : 0 ≤ m.frm ∧ m.frm < 7) (hmt : m.term ≤ 1099511627776) (hge : r.hard.term < m.term) :
    CtrE Tryz.prog 77 [.pt 1000000 0, .ag (mkY m 2 true).enc] [(1000000, repI r out)] (obI r out) (iv 0) [(1000000, repX (k2R r (mkY m 2 true)) (out ++ k2O r (mkY m 2 true)))] obX := by
  have hl0 := hf.log
  have hT0 := hf.term
  have hfx := hf
  have hx0 : ¬ (mkY m 2 true).term < r.hard.term := by show ¬ m.term < r.hard.term; omega
  have hg1 : r.hard.term < (mkY m 2 true).term := hge
  have hlx := hfx.log
  have hmx : r.hard.log.length ≤ maxLen := smallM (by omega)
  have kw := c_Wins (vtR r (mkY m 2 true)) hmx
  have kst := c_stand (vtR r (mkY m 2 true)) ⟨hfx.id, hfx.log, hfx.snap, hfx.base, hfx.term, hfx.round, hfx.quiet, hfx.wait, hfx.next, hfx.silent, hfx.reads⟩ out ho
  have ew : IntKind.i64.wrap (r.hard.term + 1) = r.hard.term + 1 := wrap_id (by have := hfx.term; omega) (by have := hfx.term; omega)
  refine spec_of_bodyE mixed Tryz.func77 rfl (by kernel_rfl) (by kernel_rfl) ?_; conv => whnf
  (first | (with_reducible refine split_dt (by first | assumption | omega) ?_) | (with_reducible refine split_df (by first | assumption | omega) ?_) | (with_reducible refine split_et (by first | assumption | omega) ?_) | (with_reducible refine split_ef (by first | assumption | omega) ?_) | (with_reducible refine split_bt (by first | assumption | omega) ?_) | (with_reducible refine split_bf (by first | assumption | omega) ?_) | (with_reducible refine split_nt (by assumption) ?_) | (with_reducible refine split_nf (by assumption) ?_) | (with_reducible refine split_t (by assumption) ?_) | (with_reducible refine split_f (by assumption) ?_))
  conv => whnf
  (first | (with_reducible refine split_dt (by first | assumption | omega) ?_) | (with_reducible refine split_df (by first | assumption | omega) ?_) | (with_reducible refine split_et (by first | assumption | omega) ?_) | (with_reducible refine split_ef (by first | assumption | omega) ?_) | (with_reducible refine split_bt (by first | assumption | omega) ?_) | (with_reducible refine split_bf (by first | assumption | omega) ?_) | (with_reducible refine split_nt (by assumption) ?_) | (with_reducible refine split_nf (by assumption) ?_) | (with_reducible refine split_t (by assumption) ?_) | (with_reducible refine split_f (by assumption) ?_))
  conv => whnf
  refine ⟨⟨by decide, hfr.1⟩, ?_⟩
  conv => whnf
  unfold k2R k2O
  ((first | (with_reducible refine split_dec (fun h => ?_) (fun h => ?_)) | (with_reducible refine split_beq (fun h => ?_) (fun h => ?_)) | (with_reducible refine split_bne (fun h => ?_) (fun h => ?_)) | (with_reducible refine split_not (fun h => ?_) (fun h => ?_)) | (with_reducible refine split_beqS (fun h => ?_) (fun h => ?_)) | (with_reducible refine split_intro (fun h => ?_) (fun h => ?_))) <;> conv => whnf)
  · have h : r.role = 1 := h
    rw [if_pos h, if_pos h]
    rw [ew]
    conv => whnf
    ((first | (with_reducible refine split_dec (fun h => ?_) (fun h => ?_)) | (with_reducible refine split_beq (fun h => ?_) (fun h => ?_)) | (with_reducible refine split_bne (fun h => ?_) (fun h => ?_)) | (with_reducible refine split_not (fun h => ?_) (fun h => ?_)) | (with_reducible refine split_beqS (fun h => ?_) (fun h => ?_)) | (with_reducible refine split_intro (fun h => ?_) (fun h => ?_))) <;> conv => whnf)
    · have h : m.term = r.hard.term + 1 := h
      rw [if_pos h, if_pos h]
      ((try ((refine Exists.intro none ?_); (conv => whnf))); (first | (with_reducible refine And.intro (Nat.le_of_eq (Nat.zero_add _)) ?_) | (refine And.intro (by simp only [List.length_map, List.length_set, Nat.zero_add]; omega) ?_)); conv => whnf)
      ((try ((refine Exists.intro none ?_); (conv => whnf))); (first | (with_reducible refine And.intro (Nat.le_of_eq (Nat.zero_add _)) ?_) | (refine And.intro (by simp only [List.length_map, List.length_set, Nat.zero_add]; omega) ?_)); conv => whnf)
      ((try ((refine Exists.intro none ?_); (conv => whnf))); (first | (with_reducible refine And.intro (Nat.le_of_eq (Nat.zero_add _)) ?_) | (refine And.intro (by simp only [List.length_map, List.length_set, Nat.zero_add]; omega) ?_)); conv => whnf)
      cases hq : quorum (inForce (vtR r (mkY m 2 true))) (vtR r (mkY m 2 true)).votes with
      | true =>
        rw [hq] at kw
        rw [if_pos rfl, if_pos rfl]
        ((try ((refine Exists.intro none ?_); (conv => whnf))); first | (refine call_eq (kw) (by simp only [List.drop_zero, List.take_length]) ?_; conv => whnf))
        ((refine Exists.intro (some ([(1000000, 1000000)], [(1000000, 1000000), (1000001, 1000001), (1000002, 1000002), (1000003, 1000003)], [])) ?_); (conv => whnf); first | ((with_reducible refine callE_by (kst) ?_); conv => whnf))
        (refine exitE_of [(1000000, 1000000), (1000001, 1000001), (1000002, 1000002), (1000003, 1000003)] [] ?_; (conv => whnf); (refine And.intro (And.intro (by with_unfolding_all rfl) (by intro q h; cases h)) ?_; refine And.intro ?_ (And.intro ?_ ?_) <;> (conv => whnf) <;> (repeat' (first | exact True.intro | (with_reducible exact rfl) | exact (rfl : List.replicate 0 PV.bad = []) | ((with_reducible refine And.intro ?_ ?_) <;> (first | (with_reducible exact wkV_same _ rfl) | exact wkV_pt rfl rfl | exact wkV_ow rfl rfl rfl | (refine wkV_ow rfl rfl ?_) | (refine wkV_sc (congrArg (Value.int .i64) ?_)) | (refine wkV_sc (congrArg Value.bool ?_)) | exact wkV_ls rfl | ((refine wkV_cl ?_); conv => whnf) | ((refine wkV_tu ?_); conv => whnf) | ((refine wkV_ag ?_); conv => whnf) | (conv => whnf)))))))
        all_goals first | rfl | trace_state
      | false =>
        rw [hq] at kw
        rw [if_neg (show ¬ false = true by decide), if_neg (show ¬ false = true by decide), List.append_nil]
        ((try ((refine Exists.intro none ?_); (conv => whnf))); first | (refine call_eq (kw) (by simp only [List.drop_zero, List.take_length]) ?_; conv => whnf))
        (refine exitE_val 1000000 9 1000000 _ _ rfl rfl rfl rfl ?_; refine exitE_val 1000000 10 1000001 _ _ rfl rfl rfl rfl ?_; refine exitE_val 1000000 39 1000002 _ _ rfl rfl rfl rfl ?_; refine exitE_val 1000000 40 1000003 _ _ rfl rfl rfl rfl ?_; refine exitE_of [(1000000, 1000000), (1000001, 1000001), (1000002, 1000002), (1000003, 1000003)] [] ?_; (conv => whnf); (refine And.intro (And.intro (by with_unfolding_all rfl) (by intro q h; cases h)) ?_; refine And.intro ?_ (And.intro ?_ ?_) <;> (conv => whnf) <;> (repeat' (first | exact True.intro | (with_reducible exact rfl) | exact (rfl : List.replicate 0 PV.bad = []) | ((with_reducible refine And.intro ?_ ?_) <;> (first | (with_reducible exact wkV_same _ rfl) | exact wkV_pt rfl rfl | exact wkV_ow rfl rfl rfl | (refine wkV_ow rfl rfl ?_) | (refine wkV_sc (congrArg (Value.int .i64) ?_)) | (refine wkV_sc (congrArg Value.bool ?_)) | exact wkV_ls rfl | ((refine wkV_cl ?_); conv => whnf) | ((refine wkV_tu ?_); conv => whnf) | ((refine wkV_ag ?_); conv => whnf) | (conv => whnf)))))))
        all_goals first | rfl | exact .inl rfl | trace_state
    · have h : ¬ m.term = r.hard.term + 1 := h
      rw [if_neg h, if_neg h, List.append_nil]
      (refine exitE_val 1000000 9 1000000 _ _ rfl rfl rfl rfl ?_; refine exitE_val 1000000 10 1000001 _ _ rfl rfl rfl rfl ?_; refine exitE_val 1000000 39 1000002 _ _ rfl rfl rfl rfl ?_; refine exitE_val 1000000 40 1000003 _ _ rfl rfl rfl rfl ?_; refine exitE_of [(1000000, 1000000), (1000001, 1000001), (1000002, 1000002), (1000003, 1000003)] [] ?_; (conv => whnf); (refine And.intro (And.intro (by with_unfolding_all rfl) (by intro q h; cases h)) ?_; refine And.intro ?_ (And.intro ?_ ?_) <;> (conv => whnf) <;> (repeat' (first | exact True.intro | (with_reducible exact rfl) | exact (rfl : List.replicate 0 PV.bad = []) | ((with_reducible refine And.intro ?_ ?_) <;> (first | (with_reducible exact wkV_same _ rfl) | exact wkV_pt rfl rfl | exact wkV_ow rfl rfl rfl | (refine wkV_ow rfl rfl ?_) | (refine wkV_sc (congrArg (Value.int .i64) ?_)) | (refine wkV_sc (congrArg Value.bool ?_)) | exact wkV_ls rfl | ((refine wkV_cl ?_); conv => whnf) | ((refine wkV_tu ?_); conv => whnf) | ((refine wkV_ag ?_); conv => whnf) | (conv => whnf)))))))
      all_goals first | rfl | exact .inl rfl | trace_state
  · have h : ¬ r.role = 1 := h
    rw [if_neg h, if_neg h, List.append_nil]
    (refine exitE_val 1000000 9 1000000 _ _ rfl rfl rfl rfl ?_; refine exitE_val 1000000 10 1000001 _ _ rfl rfl rfl rfl ?_; refine exitE_val 1000000 39 1000002 _ _ rfl rfl rfl rfl ?_; refine exitE_val 1000000 40 1000003 _ _ rfl rfl rfl rfl ?_; refine exitE_of [(1000000, 1000000), (1000001, 1000001), (1000002, 1000002), (1000003, 1000003)] [] ?_; (conv => whnf); (refine And.intro (And.intro (by with_unfolding_all rfl) (by intro q h; cases h)) ?_; refine And.intro ?_ (And.intro ?_ ?_) <;> (conv => whnf) <;> (repeat' (first | exact True.intro | (with_reducible exact rfl) | exact (rfl : List.replicate 0 PV.bad = []) | ((with_reducible refine And.intro ?_ ?_) <;> (first | (with_reducible exact wkV_same _ rfl) | exact wkV_pt rfl rfl | exact wkV_ow rfl rfl rfl | (refine wkV_ow rfl rfl ?_) | (refine wkV_sc (congrArg (Value.int .i64) ?_)) | (refine wkV_sc (congrArg Value.bool ?_)) | exact wkV_ls rfl | ((refine wkV_cl ?_); conv => whnf) | ((refine wkV_tu ?_); conv => whnf) | ((refine wkV_ag ?_); conv => whnf) | (conv => whnf)))))))
    all_goals first | rfl | exact .inl rfl | trace_state
set_option maxHeartbeats 8000000 in
theorem c_take_2z (r : Rft) (hf : Fit r) (out : List (List PV)) (ho : out.length ≤ 4000000) (m : Mg) (hfr : 0 ≤ m.frm ∧ m.frm < 7) (hmt : m.term ≤ 1099511627776) (heq : m.term = r.hard.term) :
    CtrE Tryz.prog 77 [.pt 1000000 0, .ag (mkY m 2 true).enc] [(1000000, repI r out)] (obI r out) (iv 0) [(1000000, repX (k2R r (mkY m 2 true)) (out ++ k2O r (mkY m 2 true)))] obX := by
  have hl0 := hf.log
  have hT0 := hf.term
  have hfx := hf
  have hx0 : ¬ (mkY m 2 true).term < r.hard.term := by show ¬ m.term < r.hard.term; omega
  have hg1 : ¬ r.hard.term < (mkY m 2 true).term := by show ¬ r.hard.term < m.term; omega
  have hlx := hfx.log
  have hmx : r.hard.log.length ≤ maxLen := smallM (by omega)
  have kw := c_Wins (vtR r (mkY m 2 true)) hmx
  have kst := c_stand (vtR r (mkY m 2 true)) ⟨hfx.id, hfx.log, hfx.snap, hfx.base, hfx.term, hfx.round, hfx.quiet, hfx.wait, hfx.next, hfx.silent, hfx.reads⟩ out ho
  have ew : IntKind.i64.wrap (r.hard.term + 1) = r.hard.term + 1 := wrap_id (by have := hfx.term; omega) (by have := hfx.term; omega)
  refine spec_of_bodyE mixed Tryz.func77 rfl (by kernel_rfl) (by kernel_rfl) ?_; conv => whnf
  (first | (with_reducible refine split_dt (by first | assumption | omega) ?_) | (with_reducible refine split_df (by first | assumption | omega) ?_) | (with_reducible refine split_et (by first | assumption | omega) ?_) | (with_reducible refine split_ef (by first | assumption | omega) ?_) | (with_reducible refine split_bt (by first | assumption | omega) ?_) | (with_reducible refine split_bf (by first | assumption | omega) ?_) | (with_reducible refine split_nt (by assumption) ?_) | (with_reducible refine split_nf (by assumption) ?_) | (with_reducible refine split_t (by assumption) ?_) | (with_reducible refine split_f (by assumption) ?_))
  conv => whnf
  (first | (with_reducible refine split_dt (by first | assumption | omega) ?_) | (with_reducible refine split_df (by first | assumption | omega) ?_) | (with_reducible refine split_et (by first | assumption | omega) ?_) | (with_reducible refine split_ef (by first | assumption | omega) ?_) | (with_reducible refine split_bt (by first | assumption | omega) ?_) | (with_reducible refine split_bf (by first | assumption | omega) ?_) | (with_reducible refine split_nt (by assumption) ?_) | (with_reducible refine split_nf (by assumption) ?_) | (with_reducible refine split_t (by assumption) ?_) | (with_reducible refine split_f (by assumption) ?_))
  conv => whnf
  refine ⟨⟨by decide, hfr.1⟩, ?_⟩
  conv => whnf
  unfold k2R k2O
  ((first | (with_reducible refine split_dec (fun h => ?_) (fun h => ?_)) | (with_reducible refine split_beq (fun h => ?_) (fun h => ?_)) | (with_reducible refine split_bne (fun h => ?_) (fun h => ?_)) | (with_reducible refine split_not (fun h => ?_) (fun h => ?_)) | (with_reducible refine split_beqS (fun h => ?_) (fun h => ?_)) | (with_reducible refine split_intro (fun h => ?_) (fun h => ?_))) <;> conv => whnf)
  · have h : r.role = 1 := h
    rw [if_pos h, if_pos h]
    rw [ew]
    conv => whnf
    ((first | (with_reducible refine split_dec (fun h => ?_) (fun h => ?_)) | (with_reducible refine split_beq (fun h => ?_) (fun h => ?_)) | (with_reducible refine split_bne (fun h => ?_) (fun h => ?_)) | (with_reducible refine split_not (fun h => ?_) (fun h => ?_)) | (with_reducible refine split_beqS (fun h => ?_) (fun h => ?_)) | (with_reducible refine split_intro (fun h => ?_) (fun h => ?_))) <;> conv => whnf)
    · have h : m.term = r.hard.term + 1 := h
      rw [if_pos h, if_pos h]
      ((try ((refine Exists.intro none ?_); (conv => whnf))); (first | (with_reducible refine And.intro (Nat.le_of_eq (Nat.zero_add _)) ?_) | (refine And.intro (by simp only [List.length_map, List.length_set, Nat.zero_add]; omega) ?_)); conv => whnf)
      ((try ((refine Exists.intro none ?_); (conv => whnf))); (first | (with_reducible refine And.intro (Nat.le_of_eq (Nat.zero_add _)) ?_) | (refine And.intro (by simp only [List.length_map, List.length_set, Nat.zero_add]; omega) ?_)); conv => whnf)
      ((try ((refine Exists.intro none ?_); (conv => whnf))); (first | (with_reducible refine And.intro (Nat.le_of_eq (Nat.zero_add _)) ?_) | (refine And.intro (by simp only [List.length_map, List.length_set, Nat.zero_add]; omega) ?_)); conv => whnf)
      cases hq : quorum (inForce (vtR r (mkY m 2 true))) (vtR r (mkY m 2 true)).votes with
      | true =>
        rw [hq] at kw
        rw [if_pos rfl, if_pos rfl]
        ((try ((refine Exists.intro none ?_); (conv => whnf))); first | (refine call_eq (kw) (by simp only [List.drop_zero, List.take_length]) ?_; conv => whnf))
        ((refine Exists.intro (some ([(1000000, 1000000)], [(1000000, 1000000), (1000001, 1000001), (1000002, 1000002), (1000003, 1000003)], [])) ?_); (conv => whnf); first | ((with_reducible refine callE_by (kst) ?_); conv => whnf))
        (refine exitE_of [(1000000, 1000000), (1000001, 1000001), (1000002, 1000002), (1000003, 1000003)] [] ?_; (conv => whnf); (refine And.intro (And.intro (by with_unfolding_all rfl) (by intro q h; cases h)) ?_; refine And.intro ?_ (And.intro ?_ ?_) <;> (conv => whnf) <;> (repeat' (first | exact True.intro | (with_reducible exact rfl) | exact (rfl : List.replicate 0 PV.bad = []) | ((with_reducible refine And.intro ?_ ?_) <;> (first | (with_reducible exact wkV_same _ rfl) | exact wkV_pt rfl rfl | exact wkV_ow rfl rfl rfl | (refine wkV_ow rfl rfl ?_) | (refine wkV_sc (congrArg (Value.int .i64) ?_)) | (refine wkV_sc (congrArg Value.bool ?_)) | exact wkV_ls rfl | ((refine wkV_cl ?_); conv => whnf) | ((refine wkV_tu ?_); conv => whnf) | ((refine wkV_ag ?_); conv => whnf) | (conv => whnf)))))))
        all_goals first | rfl | trace_state
      | false =>
        rw [hq] at kw
        rw [if_neg (show ¬ false = true by decide), if_neg (show ¬ false = true by decide), List.append_nil]
        ((try ((refine Exists.intro none ?_); (conv => whnf))); first | (refine call_eq (kw) (by simp only [List.drop_zero, List.take_length]) ?_; conv => whnf))
        (refine exitE_val 1000000 9 1000000 _ _ rfl rfl rfl rfl ?_; refine exitE_val 1000000 10 1000001 _ _ rfl rfl rfl rfl ?_; refine exitE_val 1000000 39 1000002 _ _ rfl rfl rfl rfl ?_; refine exitE_val 1000000 40 1000003 _ _ rfl rfl rfl rfl ?_; refine exitE_of [(1000000, 1000000), (1000001, 1000001), (1000002, 1000002), (1000003, 1000003)] [] ?_; (conv => whnf); (refine And.intro (And.intro (by with_unfolding_all rfl) (by intro q h; cases h)) ?_; refine And.intro ?_ (And.intro ?_ ?_) <;> (conv => whnf) <;> (repeat' (first | exact True.intro | (with_reducible exact rfl) | exact (rfl : List.replicate 0 PV.bad = []) | ((with_reducible refine And.intro ?_ ?_) <;> (first | (with_reducible exact wkV_same _ rfl) | exact wkV_pt rfl rfl | exact wkV_ow rfl rfl rfl | (refine wkV_ow rfl rfl ?_) | (refine wkV_sc (congrArg (Value.int .i64) ?_)) | (refine wkV_sc (congrArg Value.bool ?_)) | exact wkV_ls rfl | ((refine wkV_cl ?_); conv => whnf) | ((refine wkV_tu ?_); conv => whnf) | ((refine wkV_ag ?_); conv => whnf) | (conv => whnf)))))))
        all_goals first | rfl | exact .inl rfl | trace_state
    · have h : ¬ m.term = r.hard.term + 1 := h
      rw [if_neg h, if_neg h, List.append_nil]
      (refine exitE_val 1000000 9 1000000 _ _ rfl rfl rfl rfl ?_; refine exitE_val 1000000 10 1000001 _ _ rfl rfl rfl rfl ?_; refine exitE_val 1000000 39 1000002 _ _ rfl rfl rfl rfl ?_; refine exitE_val 1000000 40 1000003 _ _ rfl rfl rfl rfl ?_; refine exitE_of [(1000000, 1000000), (1000001, 1000001), (1000002, 1000002), (1000003, 1000003)] [] ?_; (conv => whnf); (refine And.intro (And.intro (by with_unfolding_all rfl) (by intro q h; cases h)) ?_; refine And.intro ?_ (And.intro ?_ ?_) <;> (conv => whnf) <;> (repeat' (first | exact True.intro | (with_reducible exact rfl) | exact (rfl : List.replicate 0 PV.bad = []) | ((with_reducible refine And.intro ?_ ?_) <;> (first | (with_reducible exact wkV_same _ rfl) | exact wkV_pt rfl rfl | exact wkV_ow rfl rfl rfl | (refine wkV_ow rfl rfl ?_) | (refine wkV_sc (congrArg (Value.int .i64) ?_)) | (refine wkV_sc (congrArg Value.bool ?_)) | exact wkV_ls rfl | ((refine wkV_cl ?_); conv => whnf) | ((refine wkV_tu ?_); conv => whnf) | ((refine wkV_ag ?_); conv => whnf) | (conv => whnf)))))))
      all_goals first | rfl | exact .inl rfl | trace_state
  · have h : ¬ r.role = 1 := h
    rw [if_neg h, if_neg h, List.append_nil]
    (refine exitE_val 1000000 9 1000000 _ _ rfl rfl rfl rfl ?_; refine exitE_val 1000000 10 1000001 _ _ rfl rfl rfl rfl ?_; refine exitE_val 1000000 39 1000002 _ _ rfl rfl rfl rfl ?_; refine exitE_val 1000000 40 1000003 _ _ rfl rfl rfl rfl ?_; refine exitE_of [(1000000, 1000000), (1000001, 1000001), (1000002, 1000002), (1000003, 1000003)] [] ?_; (conv => whnf); (refine And.intro (And.intro (by with_unfolding_all rfl) (by intro q h; cases h)) ?_; refine And.intro ?_ (And.intro ?_ ?_) <;> (conv => whnf) <;> (repeat' (first | exact True.intro | (with_reducible exact rfl) | exact (rfl : List.replicate 0 PV.bad = []) | ((with_reducible refine And.intro ?_ ?_) <;> (first | (with_reducible exact wkV_same _ rfl) | exact wkV_pt rfl rfl | exact wkV_ow rfl rfl rfl | (refine wkV_ow rfl rfl ?_) | (refine wkV_sc (congrArg (Value.int .i64) ?_)) | (refine wkV_sc (congrArg Value.bool ?_)) | exact wkV_ls rfl | ((refine wkV_cl ?_); conv => whnf) | ((refine wkV_tu ?_); conv => whnf) | ((refine wkV_ag ?_); conv => whnf) | (conv => whnf)))))))
    all_goals first | rfl | exact .inl rfl | trace_state
end Go.Proofs

/- Contracts of functions: a message is taken, by its kind: one kind. (genH17.py writes this) -/
namespace Go.Proofs
open Go.Pv
set_option maxRecDepth 100000

set_option maxHeartbeats 8000000 in
theorem c_take_3 (r : Rft) (hf : Fit r) (out : List (List PV)) (ho : out.length ≤ 4000000) (m : Mg) (hfr : 0 ≤ m.frm ∧ m.frm < 7) (hmt : m.term ≤ 1099511627776) (heq : m.term = r.hard.term) :
    CtrE Tryz.prog 77 [.pt 1000000 0, .ag (mkM m 3).enc] [(1000000, repI r out)] (obI r out) (iv 0) [(1000000, repX (k3R r (mkM m 3)) (out ++ k3O r (mkM m 3)))] obX := by
  have hl0 := hf.log
  have hT0 := hf.term
  have hfx := hf
  have hx0 : ¬ (mkM m 3).term < r.hard.term := by show ¬ m.term < r.hard.term; omega
  have hg1 : ¬ r.hard.term < (mkM m 3).term := by show ¬ r.hard.term < m.term; omega
  have hlx := hfx.log
  have hmx : r.hard.log.length ≤ maxLen := smallM (by omega)
  have kv := c_Voted r hmx (mkM m 3)
  have kfv := c_fallX (vdR r (mkM m 3)) hmx out r.hard.term (-1)
  have kan := c_answer r out (by omega) (mkM m 3) 4 0 0 false
  have kay := c_answer (fallR (vdR r (mkM m 3)) r.hard.term (-1)) out (by omega) (mkM m 3) 4 0 0 true
  unfold k3R k3O
  generalize fallR (vdR r (mkM m 3)) r.hard.term (-1) = z at *
  refine spec_of_bodyE mixed Tryz.func77 rfl (by kernel_rfl) (by kernel_rfl) ?_; conv => whnf
  (first | (with_reducible refine split_dt (by first | assumption | omega) ?_) | (with_reducible refine split_df (by first | assumption | omega) ?_) | (with_reducible refine split_et (by first | assumption | omega) ?_) | (with_reducible refine split_ef (by first | assumption | omega) ?_) | (with_reducible refine split_bt (by first | assumption | omega) ?_) | (with_reducible refine split_bf (by first | assumption | omega) ?_) | (with_reducible refine split_nt (by assumption) ?_) | (with_reducible refine split_nf (by assumption) ?_) | (with_reducible refine split_t (by assumption) ?_) | (with_reducible refine split_f (by assumption) ?_))
  conv => whnf
  (first | (with_reducible refine split_dt (by first | assumption | omega) ?_) | (with_reducible refine split_df (by first | assumption | omega) ?_) | (with_reducible refine split_et (by first | assumption | omega) ?_) | (with_reducible refine split_ef (by first | assumption | omega) ?_) | (with_reducible refine split_bt (by first | assumption | omega) ?_) | (with_reducible refine split_bf (by first | assumption | omega) ?_) | (with_reducible refine split_nt (by assumption) ?_) | (with_reducible refine split_nf (by assumption) ?_) | (with_reducible refine split_t (by assumption) ?_) | (with_reducible refine split_f (by assumption) ?_))
  conv => whnf
  refine ⟨⟨by decide, hfr.1⟩, ?_⟩
  conv => whnf
  ((try ((refine Exists.intro none ?_); (conv => whnf))); (first | (with_reducible refine And.intro (Nat.le_of_eq (Nat.zero_add _)) ?_) | (refine And.intro (by simp only [List.length_map, List.length_set, Nat.zero_add]; omega) ?_)); conv => whnf)
  ((try ((refine Exists.intro none ?_); (conv => whnf))); (first | (with_reducible refine And.intro (Nat.le_of_eq (Nat.zero_add _)) ?_) | (refine And.intro (by simp only [List.length_map, List.length_set, Nat.zero_add]; omega) ?_)); conv => whnf)
  ((try ((refine Exists.intro none ?_); (conv => whnf))); (first | (with_reducible refine And.intro (Nat.le_of_eq (Nat.zero_add _)) ?_) | (refine And.intro (by simp only [List.length_map, List.length_set, Nat.zero_add]; omega) ?_)); conv => whnf)
  cases hq : voted r (mkM m 3) with
  | true =>
    rw [hq] at kv
    rw [if_pos rfl, if_pos rfl]
    ((try ((refine Exists.intro none ?_); (conv => whnf))); first | (refine call_eq (kv) (by simp only [List.drop_zero, List.take_length]) ?_; conv => whnf))
    ((refine Exists.intro (some ([(1000000, 1000000)], [(1000000, 1000000), (1000001, 1000001), (1000002, 1000002), (1000003, 1000003)], [(2, 3001)])) ?_); (conv => whnf); first | ((with_reducible refine callE_by (kfv) ?_); conv => whnf))
    ((refine Exists.intro (some ([(1000000, 1000000)], [(1000000, 1000000), (1000001, 1000001), (1000002, 3001), (1000003, 1000003)], [(1, 4000)])) ?_); (conv => whnf); first | ((with_reducible refine callE_by (kay) ?_); conv => whnf))
    (refine exitE_val 1000000 9 1000000 _ _ rfl rfl rfl rfl ?_; refine exitE_val 1000000 10 1000001 _ _ rfl rfl rfl rfl ?_; refine exitE_val 1000000 39 3001 _ _ rfl rfl rfl rfl ?_; refine exitE_val 1000000 40 4000 _ _ rfl rfl rfl rfl ?_; refine exitE_of [(1000000, 1000000), (1000001, 1000001), (1000002, 1000002), (1000003, 1000003)] [] ?_; (conv => whnf); (refine And.intro (And.intro (by with_unfolding_all rfl) (by intro q h; cases h)) ?_; refine And.intro ?_ (And.intro ?_ ?_) <;> (conv => whnf) <;> (repeat' (first | exact True.intro | (with_reducible exact rfl) | exact (rfl : List.replicate 0 PV.bad = []) | ((with_reducible refine And.intro ?_ ?_) <;> (first | (with_reducible exact wkV_same _ rfl) | exact wkV_pt rfl rfl | exact wkV_ow rfl rfl rfl | (refine wkV_ow rfl rfl ?_) | (refine wkV_sc (congrArg (Value.int .i64) ?_)) | (refine wkV_sc (congrArg Value.bool ?_)) | exact wkV_ls rfl | ((refine wkV_cl ?_); conv => whnf) | ((refine wkV_tu ?_); conv => whnf) | ((refine wkV_ag ?_); conv => whnf) | (conv => whnf)))))))
    all_goals first | rfl | exact .inl rfl | trace_state
  | false =>
    rw [hq] at kv
    rw [if_neg (show ¬ false = true by decide), if_neg (show ¬ false = true by decide)]
    ((try ((refine Exists.intro none ?_); (conv => whnf))); first | (refine call_eq (kv) (by simp only [List.drop_zero, List.take_length]) ?_; conv => whnf))
    ((refine Exists.intro (some ([(1000000, 1000000)], [(1000000, 1000000), (1000001, 1000001), (1000002, 1000002), (1000003, 1000003)], [(1, 4000)])) ?_); (conv => whnf); first | ((with_reducible refine callE_by (kan) ?_); conv => whnf))
    (refine exitE_val 1000000 9 1000000 _ _ rfl rfl rfl rfl ?_; refine exitE_val 1000000 10 1000001 _ _ rfl rfl rfl rfl ?_; refine exitE_val 1000000 39 1000002 _ _ rfl rfl rfl rfl ?_; refine exitE_val 1000000 40 4000 _ _ rfl rfl rfl rfl ?_; refine exitE_of [(1000000, 1000000), (1000001, 1000001), (1000002, 1000002), (1000003, 1000003)] [] ?_; (conv => whnf); (refine And.intro (And.intro (by with_unfolding_all rfl) (by intro q h; cases h)) ?_; refine And.intro ?_ (And.intro ?_ ?_) <;> (conv => whnf) <;> (repeat' (first | exact True.intro | (with_reducible exact rfl) | exact (rfl : List.replicate 0 PV.bad = []) | ((with_reducible refine And.intro ?_ ?_) <;> (first | (with_reducible exact wkV_same _ rfl) | exact wkV_pt rfl rfl | exact wkV_ow rfl rfl rfl | (refine wkV_ow rfl rfl ?_) | (refine wkV_sc (congrArg (Value.int .i64) ?_)) | (refine wkV_sc (congrArg Value.bool ?_)) | exact wkV_ls rfl | ((refine wkV_cl ?_); conv => whnf) | ((refine wkV_tu ?_); conv => whnf) | ((refine wkV_ag ?_); conv => whnf) | (conv => whnf)))))))
    all_goals first | rfl | exact .inl rfl | trace_state
set_option maxHeartbeats 8000000 in
theorem c_take_3F (r : Rft) (hf : Fit r) (out : List (List PV)) (ho : out.length ≤ 4000000) (m : Mg) (hfr : 0 ≤ m.frm ∧ m.frm < 7) (hmt : m.term ≤ 1099511627776) (hgt : r.hard.term < m.term) :
    CtrE Tryz.prog 77 [.pt 1000000 0, .ag (mkM m 3).enc] [(1000000, repI r out)] (obI r out) (iv 0) [(1000000, repX (k3R (fallR r m.term (-1)) (mkM m 3)) (out ++ k3O (fallR r m.term (-1)) (mkM m 3)))] obX := by
  have hl0 := hf.log
  have hT0 := hf.term
  have kf := c_fallX r (smallM (by omega)) out m.term (-1)
  have hfx := fit_fall hf (t := m.term) (by omega) (-1)
  have hxt := fall_term hgt (-1)
  generalize fallR r m.term (-1) = x at *
  have hx0 : ¬ (mkM m 3).term < x.hard.term := by show ¬ m.term < x.hard.term; omega
  have hg1 : r.hard.term < (mkM m 3).term := hgt
  have hlx := hfx.log
  have hmx : x.hard.log.length ≤ maxLen := smallM (by omega)
  have kv := c_Voted x hmx (mkM m 3)
  have kfv := c_fallX (vdR x (mkM m 3)) hmx out x.hard.term (-1)
  have kan := c_answer x out (by omega) (mkM m 3) 4 0 0 false
  have kay := c_answer (fallR (vdR x (mkM m 3)) x.hard.term (-1)) out (by omega) (mkM m 3) 4 0 0 true
  unfold k3R k3O
  generalize fallR (vdR x (mkM m 3)) x.hard.term (-1) = z at *
  refine spec_of_bodyE mixed Tryz.func77 rfl (by kernel_rfl) (by kernel_rfl) ?_; conv => whnf
  (first | (with_reducible refine split_dt (by first | assumption | omega) ?_) | (with_reducible refine split_df (by first | assumption | omega) ?_) | (with_reducible refine split_et (by first | assumption | omega) ?_) | (with_reducible refine split_ef (by first | assumption | omega) ?_) | (with_reducible refine split_bt (by first | assumption | omega) ?_) | (with_reducible refine split_bf (by first | assumption | omega) ?_) | (with_reducible refine split_nt (by assumption) ?_) | (with_reducible refine split_nf (by assumption) ?_) | (with_reducible refine split_t (by assumption) ?_) | (with_reducible refine split_f (by assumption) ?_))
  conv => whnf
  ((refine Exists.intro (some ([(1000000, 1000000)], [(1000000, 1000000), (1000001, 1000001), (1000002, 1000002), (1000003, 1000003)], [(2, 3000)])) ?_); (conv => whnf); first | ((with_reducible refine callE_by (kf) ?_); conv => whnf))
  (first | (with_reducible refine split_dt (by first | assumption | omega) ?_) | (with_reducible refine split_df (by first | assumption | omega) ?_) | (with_reducible refine split_et (by first | assumption | omega) ?_) | (with_reducible refine split_ef (by first | assumption | omega) ?_) | (with_reducible refine split_bt (by first | assumption | omega) ?_) | (with_reducible refine split_bf (by first | assumption | omega) ?_) | (with_reducible refine split_nt (by assumption) ?_) | (with_reducible refine split_nf (by assumption) ?_) | (with_reducible refine split_t (by assumption) ?_) | (with_reducible refine split_f (by assumption) ?_))
  conv => whnf
  refine ⟨⟨by decide, hfr.1⟩, ?_⟩
  conv => whnf
  ((try ((refine Exists.intro none ?_); (conv => whnf))); (first | (with_reducible refine And.intro (Nat.le_of_eq (Nat.zero_add _)) ?_) | (refine And.intro (by simp only [List.length_map, List.length_set, Nat.zero_add]; omega) ?_)); conv => whnf)
  ((try ((refine Exists.intro none ?_); (conv => whnf))); (first | (with_reducible refine And.intro (Nat.le_of_eq (Nat.zero_add _)) ?_) | (refine And.intro (by simp only [List.length_map, List.length_set, Nat.zero_add]; omega) ?_)); conv => whnf)
  ((try ((refine Exists.intro none ?_); (conv => whnf))); (first | (with_reducible refine And.intro (Nat.le_of_eq (Nat.zero_add _)) ?_) | (refine And.intro (by simp only [List.length_map, List.length_set, Nat.zero_add]; omega) ?_)); conv => whnf)
  cases hq : voted x (mkM m 3) with
  | true =>
    rw [hq] at kv
    rw [if_pos rfl, if_pos rfl]
    ((try ((refine Exists.intro none ?_); (conv => whnf))); first | (refine call_eq (kv) (by simp only [List.drop_zero, List.take_length]) ?_; conv => whnf))
    ((refine Exists.intro (some ([(1000000, 1000000)], [(1000000, 1000000), (1000001, 1000001), (1000002, 3000), (1000003, 1000003)], [(2, 3001)])) ?_); (conv => whnf); first | ((with_reducible refine callE_by (kfv) ?_); conv => whnf))
    ((refine Exists.intro (some ([(1000000, 1000000)], [(1000000, 1000000), (1000001, 1000001), (1000002, 3001), (1000003, 1000003)], [(1, 4000)])) ?_); (conv => whnf); first | ((with_reducible refine callE_by (kay) ?_); conv => whnf))
    (refine exitE_val 1000000 9 1000000 _ _ rfl rfl rfl rfl ?_; refine exitE_val 1000000 10 1000001 _ _ rfl rfl rfl rfl ?_; refine exitE_val 1000000 39 3001 _ _ rfl rfl rfl rfl ?_; refine exitE_val 1000000 40 4000 _ _ rfl rfl rfl rfl ?_; refine exitE_of [(1000000, 1000000), (1000001, 1000001), (1000002, 1000002), (1000003, 1000003)] [] ?_; (conv => whnf); (refine And.intro (And.intro (by with_unfolding_all rfl) (by intro q h; cases h)) ?_; refine And.intro ?_ (And.intro ?_ ?_) <;> (conv => whnf) <;> (repeat' (first | exact True.intro | (with_reducible exact rfl) | exact (rfl : List.replicate 0 PV.bad = []) | ((with_reducible refine And.intro ?_ ?_) <;> (first | (with_reducible exact wkV_same _ rfl) | exact wkV_pt rfl rfl | exact wkV_ow rfl rfl rfl | (refine wkV_ow rfl rfl ?_) | (refine wkV_sc (congrArg (Value.int .i64) ?_)) | (refine wkV_sc (congrArg Value.bool ?_)) | exact wkV_ls rfl | ((refine wkV_cl ?_); conv => whnf) | ((refine wkV_tu ?_); conv => whnf) | ((refine wkV_ag ?_); conv => whnf) | (conv => whnf)))))))
    all_goals first | rfl | exact .inl rfl | trace_state
  | false =>
    rw [hq] at kv
    rw [if_neg (show ¬ false = true by decide), if_neg (show ¬ false = true by decide)]
    ((try ((refine Exists.intro none ?_); (conv => whnf))); first | (refine call_eq (kv) (by simp only [List.drop_zero, List.take_length]) ?_; conv => whnf))
    ((refine Exists.intro (some ([(1000000, 1000000)], [(1000000, 1000000), (1000001, 1000001), (1000002, 3000), (1000003, 1000003)], [(1, 4000)])) ?_); (conv => whnf); first | ((with_reducible refine callE_by (kan) ?_); conv => whnf))
    (refine exitE_val 1000000 9 1000000 _ _ rfl rfl rfl rfl ?_; refine exitE_val 1000000 10 1000001 _ _ rfl rfl rfl rfl ?_; refine exitE_val 1000000 39 3000 _ _ rfl rfl rfl rfl ?_; refine exitE_val 1000000 40 4000 _ _ rfl rfl rfl rfl ?_; refine exitE_of [(1000000, 1000000), (1000001, 1000001), (1000002, 1000002), (1000003, 1000003)] [] ?_; (conv => whnf); (refine And.intro (And.intro (by with_unfolding_all rfl) (by intro q h; cases h)) ?_; refine And.intro ?_ (And.intro ?_ ?_) <;> (conv => whnf) <;> (repeat' (first | exact True.intro | (with_reducible exact rfl) | exact (rfl : List.replicate 0 PV.bad = []) | ((with_reducible refine And.intro ?_ ?_) <;> (first | (with_reducible exact wkV_same _ rfl) | exact wkV_pt rfl rfl | exact wkV_ow rfl rfl rfl | (refine wkV_ow rfl rfl ?_) | (refine wkV_sc (congrArg (Value.int .i64) ?_)) | (refine wkV_sc (congrArg Value.bool ?_)) | exact wkV_ls rfl | ((refine wkV_cl ?_); conv => whnf) | ((refine wkV_tu ?_); conv => whnf) | ((refine wkV_ag ?_); conv => whnf) | (conv => whnf)))))))
    all_goals first | rfl | exact .inl rfl | trace_state
end Go.Proofs

/- Contracts of functions: a message is taken, by its kind: one kind. (genH17.py writes this) -/
namespace Go.Proofs
open Go.Pv
set_option maxRecDepth 100000

set_option maxHeartbeats 8000000 in
theorem c_take_4n (r : Rft) (hf : Fit r) (out : List (List PV)) (ho : out.length ≤ 4000000) (m : Mg) (hfr : 0 ≤ m.frm ∧ m.frm < 7) (hmt : m.term ≤ 1099511627776) (heq : m.term = r.hard.term) :
    CtrE Tryz.prog 77 [.pt 1000000 0, .ag (mkY m 4 false).enc] [(1000000, repI r out)] (obI r out) (iv 0) [(1000000, repX (r) (out ++ ([] : List (List PV))))] obX := by
  have hl0 := hf.log
  have hT0 := hf.term
  have hfx := hf
  have hx0 : ¬ (mkY m 4 false).term < r.hard.term := by show ¬ m.term < r.hard.term; omega
  have hg1 : ¬ r.hard.term < (mkY m 4 false).term := by show ¬ r.hard.term < m.term; omega
  have hlx := hfx.log
  have hmx : r.hard.log.length ≤ maxLen := smallM (by omega)
  rw [List.append_nil]
  refine spec_of_bodyE mixed Tryz.func77 rfl (by kernel_rfl) (by kernel_rfl) ?_; conv => whnf
  (first | (with_reducible refine split_dt (by first | assumption | omega) ?_) | (with_reducible refine split_df (by first | assumption | omega) ?_) | (with_reducible refine split_et (by first | assumption | omega) ?_) | (with_reducible refine split_ef (by first | assumption | omega) ?_) | (with_reducible refine split_bt (by first | assumption | omega) ?_) | (with_reducible refine split_bf (by first | assumption | omega) ?_) | (with_reducible refine split_nt (by assumption) ?_) | (with_reducible refine split_nf (by assumption) ?_) | (with_reducible refine split_t (by assumption) ?_) | (with_reducible refine split_f (by assumption) ?_))
  conv => whnf
  (first | (with_reducible refine split_dt (by first | assumption | omega) ?_) | (with_reducible refine split_df (by first | assumption | omega) ?_) | (with_reducible refine split_et (by first | assumption | omega) ?_) | (with_reducible refine split_ef (by first | assumption | omega) ?_) | (with_reducible refine split_bt (by first | assumption | omega) ?_) | (with_reducible refine split_bf (by first | assumption | omega) ?_) | (with_reducible refine split_nt (by assumption) ?_) | (with_reducible refine split_nf (by assumption) ?_) | (with_reducible refine split_t (by assumption) ?_) | (with_reducible refine split_f (by assumption) ?_))
  conv => whnf
  refine ⟨⟨by decide, hfr.1⟩, ?_⟩
  conv => whnf
  ((first | (with_reducible refine split_dec (fun h => ?_) (fun h => ?_)) | (with_reducible refine split_beq (fun h => ?_) (fun h => ?_)) | (with_reducible refine split_bne (fun h => ?_) (fun h => ?_)) | (with_reducible refine split_not (fun h => ?_) (fun h => ?_)) | (with_reducible refine split_beqS (fun h => ?_) (fun h => ?_)) | (with_reducible refine split_intro (fun h => ?_) (fun h => ?_))) <;> conv => whnf)
  · (refine exitE_val 1000000 9 1000000 _ _ rfl rfl rfl rfl ?_; refine exitE_val 1000000 10 1000001 _ _ rfl rfl rfl rfl ?_; refine exitE_val 1000000 39 1000002 _ _ rfl rfl rfl rfl ?_; refine exitE_val 1000000 40 1000003 _ _ rfl rfl rfl rfl ?_; refine exitE_of [(1000000, 1000000), (1000001, 1000001), (1000002, 1000002), (1000003, 1000003)] [] ?_; (conv => whnf); (refine And.intro (And.intro (by with_unfolding_all rfl) (by intro q h; cases h)) ?_; refine And.intro ?_ (And.intro ?_ ?_) <;> (conv => whnf) <;> (repeat' (first | exact True.intro | (with_reducible exact rfl) | exact (rfl : List.replicate 0 PV.bad = []) | ((with_reducible refine And.intro ?_ ?_) <;> (first | (with_reducible exact wkV_same _ rfl) | exact wkV_pt rfl rfl | exact wkV_ow rfl rfl rfl | (refine wkV_ow rfl rfl ?_) | (refine wkV_sc (congrArg (Value.int .i64) ?_)) | (refine wkV_sc (congrArg Value.bool ?_)) | exact wkV_ls rfl | ((refine wkV_cl ?_); conv => whnf) | ((refine wkV_tu ?_); conv => whnf) | ((refine wkV_ag ?_); conv => whnf) | (conv => whnf)))))))
    all_goals first | rfl | exact .inl rfl | trace_state
  · (refine exitE_val 1000000 9 1000000 _ _ rfl rfl rfl rfl ?_; refine exitE_val 1000000 10 1000001 _ _ rfl rfl rfl rfl ?_; refine exitE_val 1000000 39 1000002 _ _ rfl rfl rfl rfl ?_; refine exitE_val 1000000 40 1000003 _ _ rfl rfl rfl rfl ?_; refine exitE_of [(1000000, 1000000), (1000001, 1000001), (1000002, 1000002), (1000003, 1000003)] [] ?_; (conv => whnf); (refine And.intro (And.intro (by with_unfolding_all rfl) (by intro q h; cases h)) ?_; refine And.intro ?_ (And.intro ?_ ?_) <;> (conv => whnf) <;> (repeat' (first | exact True.intro | (with_reducible exact rfl) | exact (rfl : List.replicate 0 PV.bad = []) | ((with_reducible refine And.intro ?_ ?_) <;> (first | (with_reducible exact wkV_same _ rfl) | exact wkV_pt rfl rfl | exact wkV_ow rfl rfl rfl | (refine wkV_ow rfl rfl ?_) | (refine wkV_sc (congrArg (Value.int .i64) ?_)) | (refine wkV_sc (congrArg Value.bool ?_)) | exact wkV_ls rfl | ((refine wkV_cl ?_); conv => whnf) | ((refine wkV_tu ?_); conv => whnf) | ((refine wkV_ag ?_); conv => whnf) | (conv => whnf)))))))
    all_goals first | rfl | exact .inl rfl | trace_state
set_option maxHeartbeats 8000000 in
theorem c_take_4nF (r : Rft) (hf : Fit r) (out : List (List PV)) (ho : out.length ≤ 4000000) (m : Mg) (hfr : 0 ≤ m.frm ∧ m.frm < 7) (hmt : m.term ≤ 1099511627776) (hgt : r.hard.term < m.term) :
    CtrE Tryz.prog 77 [.pt 1000000 0, .ag (mkY m 4 false).enc] [(1000000, repI r out)] (obI r out) (iv 0) [(1000000, repX ((fallR r m.term (-1))) (out ++ ([] : List (List PV))))] obX := by
  have hl0 := hf.log
  have hT0 := hf.term
  have kf := c_fallX r (smallM (by omega)) out m.term (-1)
  have hfx := fit_fall hf (t := m.term) (by omega) (-1)
  have hxt := fall_term hgt (-1)
  generalize fallR r m.term (-1) = x at *
  have hx0 : ¬ (mkY m 4 false).term < x.hard.term := by show ¬ m.term < x.hard.term; omega
  have hg1 : r.hard.term < (mkY m 4 false).term := hgt
  have hlx := hfx.log
  have hmx : x.hard.log.length ≤ maxLen := smallM (by omega)
  rw [List.append_nil]
  refine spec_of_bodyE mixed Tryz.func77 rfl (by kernel_rfl) (by kernel_rfl) ?_; conv => whnf
  (first | (with_reducible refine split_dt (by first | assumption | omega) ?_) | (with_reducible refine split_df (by first | assumption | omega) ?_) | (with_reducible refine split_et (by first | assumption | omega) ?_) | (with_reducible refine split_ef (by first | assumption | omega) ?_) | (with_reducible refine split_bt (by first | assumption | omega) ?_) | (with_reducible refine split_bf (by first | assumption | omega) ?_) | (with_reducible refine split_nt (by assumption) ?_) | (with_reducible refine split_nf (by assumption) ?_) | (with_reducible refine split_t (by assumption) ?_) | (with_reducible refine split_f (by assumption) ?_))
  conv => whnf
  ((refine Exists.intro (some ([(1000000, 1000000)], [(1000000, 1000000), (1000001, 1000001), (1000002, 1000002), (1000003, 1000003)], [(2, 3000)])) ?_); (conv => whnf); first | ((with_reducible refine callE_by (kf) ?_); conv => whnf))
  (first | (with_reducible refine split_dt (by first | assumption | omega) ?_) | (with_reducible refine split_df (by first | assumption | omega) ?_) | (with_reducible refine split_et (by first | assumption | omega) ?_) | (with_reducible refine split_ef (by first | assumption | omega) ?_) | (with_reducible refine split_bt (by first | assumption | omega) ?_) | (with_reducible refine split_bf (by first | assumption | omega) ?_) | (with_reducible refine split_nt (by assumption) ?_) | (with_reducible refine split_nf (by assumption) ?_) | (with_reducible refine split_t (by assumption) ?_) | (with_reducible refine split_f (by assumption) ?_))
  conv => whnf
  refine ⟨⟨by decide, hfr.1⟩, ?_⟩
  conv => whnf
  ((first | (with_reducible refine split_dec (fun h => ?_) (fun h => ?_)) | (with_reducible refine split_beq (fun h => ?_) (fun h => ?_)) | (with_reducible refine split_bne (fun h => ?_) (fun h => ?_)) | (with_reducible refine split_not (fun h => ?_) (fun h => ?_)) | (with_reducible refine split_beqS (fun h => ?_) (fun h => ?_)) | (with_reducible refine split_intro (fun h => ?_) (fun h => ?_))) <;> conv => whnf)
  · (refine exitE_val 1000000 9 1000000 _ _ rfl rfl rfl rfl ?_; refine exitE_val 1000000 10 1000001 _ _ rfl rfl rfl rfl ?_; refine exitE_val 1000000 39 3000 _ _ rfl rfl rfl rfl ?_; refine exitE_val 1000000 40 1000003 _ _ rfl rfl rfl rfl ?_; refine exitE_of [(1000000, 1000000), (1000001, 1000001), (1000002, 1000002), (1000003, 1000003)] [] ?_; (conv => whnf); (refine And.intro (And.intro (by with_unfolding_all rfl) (by intro q h; cases h)) ?_; refine And.intro ?_ (And.intro ?_ ?_) <;> (conv => whnf) <;> (repeat' (first | exact True.intro | (with_reducible exact rfl) | exact (rfl : List.replicate 0 PV.bad = []) | ((with_reducible refine And.intro ?_ ?_) <;> (first | (with_reducible exact wkV_same _ rfl) | exact wkV_pt rfl rfl | exact wkV_ow rfl rfl rfl | (refine wkV_ow rfl rfl ?_) | (refine wkV_sc (congrArg (Value.int .i64) ?_)) | (refine wkV_sc (congrArg Value.bool ?_)) | exact wkV_ls rfl | ((refine wkV_cl ?_); conv => whnf) | ((refine wkV_tu ?_); conv => whnf) | ((refine wkV_ag ?_); conv => whnf) | (conv => whnf)))))))
    all_goals first | rfl | exact .inl rfl | trace_state
  · (refine exitE_val 1000000 9 1000000 _ _ rfl rfl rfl rfl ?_; refine exitE_val 1000000 10 1000001 _ _ rfl rfl rfl rfl ?_; refine exitE_val 1000000 39 3000 _ _ rfl rfl rfl rfl ?_; refine exitE_val 1000000 40 1000003 _ _ rfl rfl rfl rfl ?_; refine exitE_of [(1000000, 1000000), (1000001, 1000001), (1000002, 1000002), (1000003, 1000003)] [] ?_; (conv => whnf); (refine And.intro (And.intro (by with_unfolding_all rfl) (by intro q h; cases h)) ?_; refine And.intro ?_ (And.intro ?_ ?_) <;> (conv => whnf) <;> (repeat' (first | exact True.intro | (with_reducible exact rfl) | exact (rfl : List.replicate 0 PV.bad = []) | ((with_reducible refine And.intro ?_ ?_) <;> (first | (with_reducible exact wkV_same _ rfl) | exact wkV_pt rfl rfl | exact wkV_ow rfl rfl rfl | (refine wkV_ow rfl rfl ?_) | (refine wkV_sc (congrArg (Value.int .i64) ?_)) | (refine wkV_sc (congrArg Value.bool ?_)) | exact wkV_ls rfl | ((refine wkV_cl ?_); conv => whnf) | ((refine wkV_tu ?_); conv => whnf) | ((refine wkV_ag ?_); conv => whnf) | (conv => whnf)))))))
    all_goals first | rfl | exact .inl rfl | trace_state
end Go.Proofs

/- Contracts of functions: a message is taken, by its kind: one kind. (genH17.py writes this) -/
namespace Go.Proofs
open Go.Pv
set_option maxRecDepth 100000

set_option maxHeartbeats 8000000 in
theorem c_take_4y (r : Rft) (hf : Fit r) (out : List (List PV)) (ho : out.length ≤ 4000000) (m : Mg) (hfr : 0 ≤ m.frm ∧ m.frm < 7) (hmt : m.term ≤ 1099511627776) (heq : m.term = r.hard.term) :
    CtrE Tryz.prog 77 [.pt 1000000 0, .ag (mkY m 4 true).enc] [(1000000, repI r out)] (obI r out) (iv 0) [(1000000, repX (k4R r (mkY m 4 true)) (out ++ k4O r (mkY m 4 true)))] obX := by
  have hl0 := hf.log
  have hT0 := hf.term
  have hfx := hf
  have hx0 : ¬ (mkY m 4 true).term < r.hard.term := by show ¬ m.term < r.hard.term; omega
  have hg1 : ¬ r.hard.term < (mkY m 4 true).term := by show ¬ r.hard.term < m.term; omega
  have hlx := hfx.log
  have hmx : r.hard.log.length ≤ maxLen := smallM (by omega)
  have kw := c_Wins (vtR r (mkY m 4 true)) hmx
  have kld := c_lead (vtR r (mkY m 4 true)) hfx.id hfx.log hfx.snap hfx.base hfx.round out ho
  refine spec_of_bodyE mixed Tryz.func77 rfl (by kernel_rfl) (by kernel_rfl) ?_; conv => whnf
  (first | (with_reducible refine split_dt (by first | assumption | omega) ?_) | (with_reducible refine split_df (by first | assumption | omega) ?_) | (with_reducible refine split_et (by first | assumption | omega) ?_) | (with_reducible refine split_ef (by first | assumption | omega) ?_) | (with_reducible refine split_bt (by first | assumption | omega) ?_) | (with_reducible refine split_bf (by first | assumption | omega) ?_) | (with_reducible refine split_nt (by assumption) ?_) | (with_reducible refine split_nf (by assumption) ?_) | (with_reducible refine split_t (by assumption) ?_) | (with_reducible refine split_f (by assumption) ?_))
  conv => whnf
  (first | (with_reducible refine split_dt (by first | assumption | omega) ?_) | (with_reducible refine split_df (by first | assumption | omega) ?_) | (with_reducible refine split_et (by first | assumption | omega) ?_) | (with_reducible refine split_ef (by first | assumption | omega) ?_) | (with_reducible refine split_bt (by first | assumption | omega) ?_) | (with_reducible refine split_bf (by first | assumption | omega) ?_) | (with_reducible refine split_nt (by assumption) ?_) | (with_reducible refine split_nf (by assumption) ?_) | (with_reducible refine split_t (by assumption) ?_) | (with_reducible refine split_f (by assumption) ?_))
  conv => whnf
  refine ⟨⟨by decide, hfr.1⟩, ?_⟩
  conv => whnf
  unfold k4R k4O
  ((first | (with_reducible refine split_dec (fun h => ?_) (fun h => ?_)) | (with_reducible refine split_beq (fun h => ?_) (fun h => ?_)) | (with_reducible refine split_bne (fun h => ?_) (fun h => ?_)) | (with_reducible refine split_not (fun h => ?_) (fun h => ?_)) | (with_reducible refine split_beqS (fun h => ?_) (fun h => ?_)) | (with_reducible refine split_intro (fun h => ?_) (fun h => ?_))) <;> conv => whnf)
  · have h : r.role = 2 := h
    rw [if_pos h, if_pos h]
    ((try ((refine Exists.intro none ?_); (conv => whnf))); (first | (with_reducible refine And.intro (Nat.le_of_eq (Nat.zero_add _)) ?_) | (refine And.intro (by simp only [List.length_map, List.length_set, Nat.zero_add]; omega) ?_)); conv => whnf)
    ((try ((refine Exists.intro none ?_); (conv => whnf))); (first | (with_reducible refine And.intro (Nat.le_of_eq (Nat.zero_add _)) ?_) | (refine And.intro (by simp only [List.length_map, List.length_set, Nat.zero_add]; omega) ?_)); conv => whnf)
    ((try ((refine Exists.intro none ?_); (conv => whnf))); (first | (with_reducible refine And.intro (Nat.le_of_eq (Nat.zero_add _)) ?_) | (refine And.intro (by simp only [List.length_map, List.length_set, Nat.zero_add]; omega) ?_)); conv => whnf)
    cases hq : quorum (inForce (vtR r (mkY m 4 true))) (vtR r (mkY m 4 true)).votes with
    | true =>
      rw [hq] at kw
      rw [if_pos rfl, if_pos rfl]
      ((try ((refine Exists.intro none ?_); (conv => whnf))); first | (refine call_eq (kw) (by simp only [List.drop_zero, List.take_length]) ?_; conv => whnf))
      ((refine Exists.intro (some ([(1000000, 1000000)], [(1000000, 1000000), (1000001, 1000001), (1000002, 1000002), (1000003, 1000003)], [])) ?_); (conv => whnf); first | ((with_reducible refine callE_by (kld) ?_); conv => whnf))
      (refine exitE_of [(1000000, 1000000), (1000001, 1000001), (1000002, 1000002), (1000003, 1000003)] [] ?_; (conv => whnf); (refine And.intro (And.intro (by with_unfolding_all rfl) (by intro q h; cases h)) ?_; refine And.intro ?_ (And.intro ?_ ?_) <;> (conv => whnf) <;> (repeat' (first | exact True.intro | (with_reducible exact rfl) | exact (rfl : List.replicate 0 PV.bad = []) | ((with_reducible refine And.intro ?_ ?_) <;> (first | (with_reducible exact wkV_same _ rfl) | exact wkV_pt rfl rfl | exact wkV_ow rfl rfl rfl | (refine wkV_ow rfl rfl ?_) | (refine wkV_sc (congrArg (Value.int .i64) ?_)) | (refine wkV_sc (congrArg Value.bool ?_)) | exact wkV_ls rfl | ((refine wkV_cl ?_); conv => whnf) | ((refine wkV_tu ?_); conv => whnf) | ((refine wkV_ag ?_); conv => whnf) | (conv => whnf)))))))
      all_goals first | rfl | trace_state
    | false =>
      rw [hq] at kw
      rw [if_neg (show ¬ false = true by decide), if_neg (show ¬ false = true by decide), List.append_nil]
      ((try ((refine Exists.intro none ?_); (conv => whnf))); first | (refine call_eq (kw) (by simp only [List.drop_zero, List.take_length]) ?_; conv => whnf))
      (refine exitE_val 1000000 9 1000000 _ _ rfl rfl rfl rfl ?_; refine exitE_val 1000000 10 1000001 _ _ rfl rfl rfl rfl ?_; refine exitE_val 1000000 39 1000002 _ _ rfl rfl rfl rfl ?_; refine exitE_val 1000000 40 1000003 _ _ rfl rfl rfl rfl ?_; refine exitE_of [(1000000, 1000000), (1000001, 1000001), (1000002, 1000002), (1000003, 1000003)] [] ?_; (conv => whnf); (refine And.intro (And.intro (by with_unfolding_all rfl) (by intro q h; cases h)) ?_; refine And.intro ?_ (And.intro ?_ ?_) <;> (conv => whnf) <;> (repeat' (first | exact True.intro | (with_reducible exact rfl) | exact (rfl : List.replicate 0 PV.bad = []) | ((with_reducible refine And.intro ?_ ?_) <;> (first | (with_reducible exact wkV_same _ rfl) | exact wkV_pt rfl rfl | exact wkV_ow rfl rfl rfl | (refine wkV_ow rfl rfl ?_) | (refine wkV_sc (congrArg (Value.int .i64) ?_)) | (refine wkV_sc (congrArg Value.bool ?_)) | exact wkV_ls rfl | ((refine wkV_cl ?_); conv => whnf) | ((refine wkV_tu ?_); conv => whnf) | ((refine wkV_ag ?_); conv => whnf) | (conv => whnf)))))))
      all_goals first | rfl | exact .inl rfl | trace_state
  · have h : ¬ r.role = 2 := h
    rw [if_neg h, if_neg h, List.append_nil]
    (refine exitE_val 1000000 9 1000000 _ _ rfl rfl rfl rfl ?_; refine exitE_val 1000000 10 1000001 _ _ rfl rfl rfl rfl ?_; refine exitE_val 1000000 39 1000002 _ _ rfl rfl rfl rfl ?_; refine exitE_val 1000000 40 1000003 _ _ rfl rfl rfl rfl ?_; refine exitE_of [(1000000, 1000000), (1000001, 1000001), (1000002, 1000002), (1000003, 1000003)] [] ?_; (conv => whnf); (refine And.intro (And.intro (by with_unfolding_all rfl) (by intro q h; cases h)) ?_; refine And.intro ?_ (And.intro ?_ ?_) <;> (conv => whnf) <;> (repeat' (first | exact True.intro | (with_reducible exact rfl) | exact (rfl : List.replicate 0 PV.bad = []) | ((with_reducible refine And.intro ?_ ?_) <;> (first | (with_reducible exact wkV_same _ rfl) | exact wkV_pt rfl rfl | exact wkV_ow rfl rfl rfl | (refine wkV_ow rfl rfl ?_) | (refine wkV_sc (congrArg (Value.int .i64) ?_)) | (refine wkV_sc (congrArg Value.bool ?_)) | exact wkV_ls rfl | ((refine wkV_cl ?_); conv => whnf) | ((refine wkV_tu ?_); conv => whnf) | ((refine wkV_ag ?_); conv => whnf) | (conv => whnf)))))))
    all_goals first | rfl | exact .inl rfl | trace_state
set_option maxHeartbeats 8000000 in
theorem c_take_4yF (r : Rft) (hf : Fit r) (out : List (List PV)) (ho : out.length ≤ 4000000) (m : Mg) (hfr : 0 ≤ m.frm ∧ m.frm < 7) (hmt : m.term ≤ 1099511627776) (hgt : r.hard.term < m.term) :
    CtrE Tryz.prog 77 [.pt 1000000 0, .ag (mkY m 4 true).enc] [(1000000, repI r out)] (obI r out) (iv 0) [(1000000, repX (k4R (fallR r m.term (-1)) (mkY m 4 true)) (out ++ k4O (fallR r m.term (-1)) (mkY m 4 true)))] obX := by
  have hl0 := hf.log
  have hT0 := hf.term
  have kf := c_fallX r (smallM (by omega)) out m.term (-1)
  have hfx := fit_fall hf (t := m.term) (by omega) (-1)
  have hxt := fall_term hgt (-1)
  generalize fallR r m.term (-1) = x at *
  have hx0 : ¬ (mkY m 4 true).term < x.hard.term := by show ¬ m.term < x.hard.term; omega
  have hg1 : r.hard.term < (mkY m 4 true).term := hgt
  have hlx := hfx.log
  have hmx : x.hard.log.length ≤ maxLen := smallM (by omega)
  have kw := c_Wins (vtR x (mkY m 4 true)) hmx
  have kld := c_lead (vtR x (mkY m 4 true)) hfx.id hfx.log hfx.snap hfx.base hfx.round out ho
  refine spec_of_bodyE mixed Tryz.func77 rfl (by kernel_rfl) (by kernel_rfl) ?_; conv => whnf
  (first | (with_reducible refine split_dt (by first | assumption | omega) ?_) | (with_reducible refine split_df (by first | assumption | omega) ?_) | (with_reducible refine split_et (by first | assumption | omega) ?_) | (with_reducible refine split_ef (by first | assumption | omega) ?_) | (with_reducible refine split_bt (by first | assumption | omega) ?_) | (with_reducible refine split_bf (by first | assumption | omega) ?_) | (with_reducible refine split_nt (by assumption) ?_) | (with_reducible refine split_nf (by assumption) ?_) | (with_reducible refine split_t (by assumption) ?_) | (with_reducible refine split_f (by assumption) ?_))
  conv => whnf
  ((refine Exists.intro (some ([(1000000, 1000000)], [(1000000, 1000000), (1000001, 1000001), (1000002, 1000002), (1000003, 1000003)], [(2, 3000)])) ?_); (conv => whnf); first | ((with_reducible refine callE_by (kf) ?_); conv => whnf))
  (first | (with_reducible refine split_dt (by first | assumption | omega) ?_) | (with_reducible refine split_df (by first | assumption | omega) ?_) | (with_reducible refine split_et (by first | assumption | omega) ?_) | (with_reducible refine split_ef (by first | assumption | omega) ?_) | (with_reducible refine split_bt (by first | assumption | omega) ?_) | (with_reducible refine split_bf (by first | assumption | omega) ?_) | (with_reducible refine split_nt (by assumption) ?_) | (with_reducible refine split_nf (by assumption) ?_) | (with_reducible refine split_t (by assumption) ?_) | (with_reducible refine split_f (by assumption) ?_))
  conv => whnf
  refine ⟨⟨by decide, hfr.1⟩, ?_⟩
  conv => whnf
  unfold k4R k4O
  ((first | (with_reducible refine split_dec (fun h => ?_) (fun h => ?_)) | (with_reducible refine split_beq (fun h => ?_) (fun h => ?_)) | (with_reducible refine split_bne (fun h => ?_) (fun h => ?_)) | (with_reducible refine split_not (fun h => ?_) (fun h => ?_)) | (with_reducible refine split_beqS (fun h => ?_) (fun h => ?_)) | (with_reducible refine split_intro (fun h => ?_) (fun h => ?_))) <;> conv => whnf)
  · have h : x.role = 2 := h
    rw [if_pos h, if_pos h]
    ((try ((refine Exists.intro none ?_); (conv => whnf))); (first | (with_reducible refine And.intro (Nat.le_of_eq (Nat.zero_add _)) ?_) | (refine And.intro (by simp only [List.length_map, List.length_set, Nat.zero_add]; omega) ?_)); conv => whnf)
    ((try ((refine Exists.intro none ?_); (conv => whnf))); (first | (with_reducible refine And.intro (Nat.le_of_eq (Nat.zero_add _)) ?_) | (refine And.intro (by simp only [List.length_map, List.length_set, Nat.zero_add]; omega) ?_)); conv => whnf)
    ((try ((refine Exists.intro none ?_); (conv => whnf))); (first | (with_reducible refine And.intro (Nat.le_of_eq (Nat.zero_add _)) ?_) | (refine And.intro (by simp only [List.length_map, List.length_set, Nat.zero_add]; omega) ?_)); conv => whnf)
    cases hq : quorum (inForce (vtR x (mkY m 4 true))) (vtR x (mkY m 4 true)).votes with
    | true =>
      rw [hq] at kw
      rw [if_pos rfl, if_pos rfl]
      ((try ((refine Exists.intro none ?_); (conv => whnf))); first | (refine call_eq (kw) (by simp only [List.drop_zero, List.take_length]) ?_; conv => whnf))
      ((refine Exists.intro (some ([(1000000, 1000000)], [(1000000, 1000000), (1000001, 1000001), (1000002, 3000), (1000003, 1000003)], [])) ?_); (conv => whnf); first | ((with_reducible refine callE_by (kld) ?_); conv => whnf))
      (refine exitE_of [(1000000, 1000000), (1000001, 1000001), (1000002, 1000002), (1000003, 1000003)] [] ?_; (conv => whnf); (refine And.intro (And.intro (by with_unfolding_all rfl) (by intro q h; cases h)) ?_; refine And.intro ?_ (And.intro ?_ ?_) <;> (conv => whnf) <;> (repeat' (first | exact True.intro | (with_reducible exact rfl) | exact (rfl : List.replicate 0 PV.bad = []) | ((with_reducible refine And.intro ?_ ?_) <;> (first | (with_reducible exact wkV_same _ rfl) | exact wkV_pt rfl rfl | exact wkV_ow rfl rfl rfl | (refine wkV_ow rfl rfl ?_) | (refine wkV_sc (congrArg (Value.int .i64) ?_)) | (refine wkV_sc (congrArg Value.bool ?_)) | exact wkV_ls rfl | ((refine wkV_cl ?_); conv => whnf) | ((refine wkV_tu ?_); conv => whnf) | ((refine wkV_ag ?_); conv => whnf) | (conv => whnf)))))))
      all_goals first | rfl | trace_state
    | false =>
      rw [hq] at kw
      rw [if_neg (show ¬ false = true by decide), if_neg (show ¬ false = true by decide), List.append_nil]
      ((try ((refine Exists.intro none ?_); (conv => whnf))); first | (refine call_eq (kw) (by simp only [List.drop_zero, List.take_length]) ?_; conv => whnf))
      (refine exitE_val 1000000 9 1000000 _ _ rfl rfl rfl rfl ?_; refine exitE_val 1000000 10 1000001 _ _ rfl rfl rfl rfl ?_; refine exitE_val 1000000 39 3000 _ _ rfl rfl rfl rfl ?_; refine exitE_val 1000000 40 1000003 _ _ rfl rfl rfl rfl ?_; refine exitE_of [(1000000, 1000000), (1000001, 1000001), (1000002, 1000002), (1000003, 1000003)] [] ?_; (conv => whnf); (refine And.intro (And.intro (by with_unfolding_all rfl) (by intro q h; cases h)) ?_; refine And.intro ?_ (And.intro ?_ ?_) <;> (conv => whnf) <;> (repeat' (first | exact True.intro | (with_reducible exact rfl) | exact (rfl : List.replicate 0 PV.bad = []) | ((with_reducible refine And.intro ?_ ?_) <;> (first | (with_reducible exact wkV_same _ rfl) | exact wkV_pt rfl rfl | exact wkV_ow rfl rfl rfl | (refine wkV_ow rfl rfl ?_) | (refine wkV_sc (congrArg (Value.int .i64) ?_)) | (refine wkV_sc (congrArg Value.bool ?_)) | exact wkV_ls rfl | ((refine wkV_cl ?_); conv => whnf) | ((refine wkV_tu ?_); conv => whnf) | ((refine wkV_ag ?_); conv => whnf) | (conv => whnf)))))))
      all_goals first | rfl | exact .inl rfl | trace_state
  · have h : ¬ x.role = 2 := h
    rw [if_neg h, if_neg h, List.append_nil]
    (refine exitE_val 1000000 9 1000000 _ _ rfl rfl rfl rfl ?_; refine exitE_val 1000000 10 1000001 _ _ rfl rfl rfl rfl ?_; refine exitE_val 1000000 39 3000 _ _ rfl rfl rfl rfl ?_; refine exitE_val 1000000 40 1000003 _ _ rfl rfl rfl rfl ?_; refine exitE_of [(1000000, 1000000), (1000001, 1000001), (1000002, 1000002), (1000003, 1000003)] [] ?_; (conv => whnf); (refine And.intro (And.intro (by with_unfolding_all rfl) (by intro q h; cases h)) ?_; refine And.intro ?_ (And.intro ?_ ?_) <;> (conv => whnf) <;> (repeat' (first | exact True.intro | (with_reducible exact rfl) | exact (rfl : List.replicate 0 PV.bad = []) | ((with_reducible refine And.intro ?_ ?_) <;> (first | (with_reducible exact wkV_same _ rfl) | exact wkV_pt rfl rfl | exact wkV_ow rfl rfl rfl | (refine wkV_ow rfl rfl ?_) | (refine wkV_sc (congrArg (Value.int .i64) ?_)) | (refine wkV_sc (congrArg Value.bool ?_)) | exact wkV_ls rfl | ((refine wkV_cl ?_); conv => whnf) | ((refine wkV_tu ?_); conv => whnf) | ((refine wkV_ag ?_); conv => whnf) | (conv => whnf)))))))
    all_goals first | rfl | exact .inl rfl | trace_state
end Go.Proofs

/- Contracts of functions: a message is taken, by its kind: one kind. (genH17.py writes this) -/
namespace Go.Proofs
open Go.Pv
set_option maxRecDepth 100000

set_option maxHeartbeats 8000000 in
theorem c_take_5 (r : Rft) (hf : Fit r) (out : List (List PV)) (ho : out.length ≤ 4000000) (m : Mg) (hfr : 0 ≤ m.frm ∧ m.frm < 7) (hmt : m.term ≤ 1099511627776) (heq : m.term = r.hard.term) (hen : m.entries.length ≤ 4294967) (hgl : growE r.hard r.commit (mkM m 5) = 0 → (growO r.hard r.commit (mkM m 5)).h.log.length ≤ maxLen) :
    CtrE Tryz.prog 77 [.pt 1000000 0, .ag (mkM m 5).enc] [(1000000, repI r out)] (obI r out) (iv (appE r (mkM m 5))) [(1000000, repX (appR r (mkM m 5)) (out ++ appO r (mkM m 5)))] obX := by
  have hl0 := hf.log
  have hT0 := hf.term
  have hfx := hf
  have hx0 : ¬ (mkM m 5).term < r.hard.term := by show ¬ m.term < r.hard.term; omega
  have hg1 : ¬ r.hard.term < (mkM m 5).term := by show ¬ r.hard.term < m.term; omega
  have hlx := hfx.log
  have hmx : r.hard.log.length ≤ maxLen := smallM (by omega)
  have ka := c_append r hfx out (by omega) (mkM m 5) hen hgl
  refine spec_of_bodyE mixed Tryz.func77 rfl (by kernel_rfl) (by kernel_rfl) ?_; conv => whnf
  (first | (with_reducible refine split_dt (by first | assumption | omega) ?_) | (with_reducible refine split_df (by first | assumption | omega) ?_) | (with_reducible refine split_et (by first | assumption | omega) ?_) | (with_reducible refine split_ef (by first | assumption | omega) ?_) | (with_reducible refine split_bt (by first | assumption | omega) ?_) | (with_reducible refine split_bf (by first | assumption | omega) ?_) | (with_reducible refine split_nt (by assumption) ?_) | (with_reducible refine split_nf (by assumption) ?_) | (with_reducible refine split_t (by assumption) ?_) | (with_reducible refine split_f (by assumption) ?_))
  conv => whnf
  (first | (with_reducible refine split_dt (by first | assumption | omega) ?_) | (with_reducible refine split_df (by first | assumption | omega) ?_) | (with_reducible refine split_et (by first | assumption | omega) ?_) | (with_reducible refine split_ef (by first | assumption | omega) ?_) | (with_reducible refine split_bt (by first | assumption | omega) ?_) | (with_reducible refine split_bf (by first | assumption | omega) ?_) | (with_reducible refine split_nt (by assumption) ?_) | (with_reducible refine split_nf (by assumption) ?_) | (with_reducible refine split_t (by assumption) ?_) | (with_reducible refine split_f (by assumption) ?_))
  conv => whnf
  refine ⟨⟨by decide, hfr.1⟩, ?_⟩
  conv => whnf
  ((refine Exists.intro (some ([(1000000, 1000000)], [(1000000, 1000000), (1000001, 1000001), (1000002, 1000002), (1000003, 1000003)], [])) ?_); (conv => whnf); first | ((with_reducible refine callE_by (ka) ?_); conv => whnf))
  (refine exitE_of [(1000000, 1000000), (1000001, 1000001), (1000002, 1000002), (1000003, 1000003)] [] ?_; (conv => whnf); (refine And.intro (And.intro (by with_unfolding_all rfl) (by intro q h; cases h)) ?_; refine And.intro ?_ (And.intro ?_ ?_) <;> (conv => whnf) <;> (repeat' (first | exact True.intro | (with_reducible exact rfl) | exact (rfl : List.replicate 0 PV.bad = []) | ((with_reducible refine And.intro ?_ ?_) <;> (first | (with_reducible exact wkV_same _ rfl) | exact wkV_pt rfl rfl | exact wkV_ow rfl rfl rfl | (refine wkV_ow rfl rfl ?_) | (refine wkV_sc (congrArg (Value.int .i64) ?_)) | (refine wkV_sc (congrArg Value.bool ?_)) | exact wkV_ls rfl | ((refine wkV_cl ?_); conv => whnf) | ((refine wkV_tu ?_); conv => whnf) | ((refine wkV_ag ?_); conv => whnf) | (conv => whnf)))))))
  all_goals first | rfl | trace_state
set_option maxHeartbeats 8000000 in
theorem c_take_5F (r : Rft) (hf : Fit r) (out : List (List PV)) (ho : out.length ≤ 4000000) (m : Mg) (hfr : 0 ≤ m.frm ∧ m.frm < 7) (hmt : m.term ≤ 1099511627776) (hgt : r.hard.term < m.term) (hen : m.entries.length ≤ 4294967) (hgl : growE (fallR r m.term (-1)).hard (fallR r m.term (-1)).commit (mkM m 5) = 0 → (growO (fallR r m.term (-1)).hard (fallR r m.term (-1)).commit (mkM m 5)).h.log.length ≤ maxLen) :
    CtrE Tryz.prog 77 [.pt 1000000 0, .ag (mkM m 5).enc] [(1000000, repI r out)] (obI r out) (iv (appE (fallR r m.term (-1)) (mkM m 5))) [(1000000, repX (appR (fallR r m.term (-1)) (mkM m 5)) (out ++ appO (fallR r m.term (-1)) (mkM m 5)))] obX := by
  have hl0 := hf.log
  have hT0 := hf.term
  have kf := c_fallX r (smallM (by omega)) out m.term (-1)
  have hfx := fit_fall hf (t := m.term) (by omega) (-1)
  have hxt := fall_term hgt (-1)
  generalize fallR r m.term (-1) = x at *
  have hx0 : ¬ (mkM m 5).term < x.hard.term := by show ¬ m.term < x.hard.term; omega
  have hg1 : r.hard.term < (mkM m 5).term := hgt
  have hlx := hfx.log
  have hmx : x.hard.log.length ≤ maxLen := smallM (by omega)
  have ka := c_append x hfx out (by omega) (mkM m 5) hen hgl
  refine spec_of_bodyE mixed Tryz.func77 rfl (by kernel_rfl) (by kernel_rfl) ?_; conv => whnf
  (first | (with_reducible refine split_dt (by first | assumption | omega) ?_) | (with_reducible refine split_df (by first | assumption | omega) ?_) | (with_reducible refine split_et (by first | assumption | omega) ?_) | (with_reducible refine split_ef (by first | assumption | omega) ?_) | (with_reducible refine split_bt (by first | assumption | omega) ?_) | (with_reducible refine split_bf (by first | assumption | omega) ?_) | (with_reducible refine split_nt (by assumption) ?_) | (with_reducible refine split_nf (by assumption) ?_) | (with_reducible refine split_t (by assumption) ?_) | (with_reducible refine split_f (by assumption) ?_))
  conv => whnf
  ((refine Exists.intro (some ([(1000000, 1000000)], [(1000000, 1000000), (1000001, 1000001), (1000002, 1000002), (1000003, 1000003)], [(2, 3000)])) ?_); (conv => whnf); first | ((with_reducible refine callE_by (kf) ?_); conv => whnf))
  (first | (with_reducible refine split_dt (by first | assumption | omega) ?_) | (with_reducible refine split_df (by first | assumption | omega) ?_) | (with_reducible refine split_et (by first | assumption | omega) ?_) | (with_reducible refine split_ef (by first | assumption | omega) ?_) | (with_reducible refine split_bt (by first | assumption | omega) ?_) | (with_reducible refine split_bf (by first | assumption | omega) ?_) | (with_reducible refine split_nt (by assumption) ?_) | (with_reducible refine split_nf (by assumption) ?_) | (with_reducible refine split_t (by assumption) ?_) | (with_reducible refine split_f (by assumption) ?_))
  conv => whnf
  refine ⟨⟨by decide, hfr.1⟩, ?_⟩
  conv => whnf
  ((refine Exists.intro (some ([(1000000, 1000000)], [(1000000, 1000000), (1000001, 1000001), (1000002, 3000), (1000003, 1000003)], [])) ?_); (conv => whnf); first | ((with_reducible refine callE_by (ka) ?_); conv => whnf))
  (refine exitE_of [(1000000, 1000000), (1000001, 1000001), (1000002, 1000002), (1000003, 1000003)] [] ?_; (conv => whnf); (refine And.intro (And.intro (by with_unfolding_all rfl) (by intro q h; cases h)) ?_; refine And.intro ?_ (And.intro ?_ ?_) <;> (conv => whnf) <;> (repeat' (first | exact True.intro | (with_reducible exact rfl) | exact (rfl : List.replicate 0 PV.bad = []) | ((with_reducible refine And.intro ?_ ?_) <;> (first | (with_reducible exact wkV_same _ rfl) | exact wkV_pt rfl rfl | exact wkV_ow rfl rfl rfl | (refine wkV_ow rfl rfl ?_) | (refine wkV_sc (congrArg (Value.int .i64) ?_)) | (refine wkV_sc (congrArg Value.bool ?_)) | exact wkV_ls rfl | ((refine wkV_cl ?_); conv => whnf) | ((refine wkV_tu ?_); conv => whnf) | ((refine wkV_ag ?_); conv => whnf) | (conv => whnf)))))))
  all_goals first | rfl | trace_state
end Go.Proofs

/- Contracts of functions: a message is taken, by its kind: one kind. (genH17.py writes this) -/
namespace Go.Proofs
open Go.Pv
set_option maxRecDepth 100000

set_option maxHeartbeats 8000000 in
theorem c_take_7 (r : Rft) (hf : Fit r) (out : List (List PV)) (ho : out.length ≤ 4000000) (m : Mg) (hfr : 0 ≤ m.frm ∧ m.frm < 7) (hmt : m.term ≤ 1099511627776) (heq : m.term = r.hard.term) (hsn : m.snap.length ≤ 4294967296) (hix : 0 ≤ m.index ∧ m.index ≤ 1099511627776) (hgl : (insHH r (mkM m 7)).log.length ≤ maxLen) :
    CtrE Tryz.prog 77 [.pt 1000000 0, .ag (mkM m 7).enc] [(1000000, repI r out)] (obI r out) (iv (insE r (mkM m 7))) [(1000000, repX (insR r (mkM m 7)) (out ++ insO r (mkM m 7)))] obX := by
  have hl0 := hf.log
  have hT0 := hf.term
  have hfx := hf
  have hx0 : ¬ (mkM m 7).term < r.hard.term := by show ¬ m.term < r.hard.term; omega
  have hg1 : ¬ r.hard.term < (mkM m 7).term := by show ¬ r.hard.term < m.term; omega
  have hlx := hfx.log
  have hmx : r.hard.log.length ≤ maxLen := smallM (by omega)
  have ka := c_install r hfx out (by omega) (mkM m 7) hsn (by unfold isI; exact ⟨by show _ ≤ m.index; omega, by show m.index < _; omega⟩) hgl
  refine spec_of_bodyE mixed Tryz.func77 rfl (by kernel_rfl) (by kernel_rfl) ?_; conv => whnf
  (first | (with_reducible refine split_dt (by first | assumption | omega) ?_) | (with_reducible refine split_df (by first | assumption | omega) ?_) | (with_reducible refine split_et (by first | assumption | omega) ?_) | (with_reducible refine split_ef (by first | assumption | omega) ?_) | (with_reducible refine split_bt (by first | assumption | omega) ?_) | (with_reducible refine split_bf (by first | assumption | omega) ?_) | (with_reducible refine split_nt (by assumption) ?_) | (with_reducible refine split_nf (by assumption) ?_) | (with_reducible refine split_t (by assumption) ?_) | (with_reducible refine split_f (by assumption) ?_))
  conv => whnf
  (first | (with_reducible refine split_dt (by first | assumption | omega) ?_) | (with_reducible refine split_df (by first | assumption | omega) ?_) | (with_reducible refine split_et (by first | assumption | omega) ?_) | (with_reducible refine split_ef (by first | assumption | omega) ?_) | (with_reducible refine split_bt (by first | assumption | omega) ?_) | (with_reducible refine split_bf (by first | assumption | omega) ?_) | (with_reducible refine split_nt (by assumption) ?_) | (with_reducible refine split_nf (by assumption) ?_) | (with_reducible refine split_t (by assumption) ?_) | (with_reducible refine split_f (by assumption) ?_))
  conv => whnf
  refine ⟨⟨by decide, hfr.1⟩, ?_⟩
  conv => whnf
  ((refine Exists.intro (some ([(1000000, 1000000)], [(1000000, 1000000), (1000001, 1000001), (1000002, 1000002), (1000003, 1000003)], [])) ?_); (conv => whnf); first | ((with_reducible refine callE_by (ka) ?_); conv => whnf))
  (refine exitE_of [(1000000, 1000000), (1000001, 1000001), (1000002, 1000002), (1000003, 1000003)] [] ?_; (conv => whnf); (refine And.intro (And.intro (by with_unfolding_all rfl) (by intro q h; cases h)) ?_; refine And.intro ?_ (And.intro ?_ ?_) <;> (conv => whnf) <;> (repeat' (first | exact True.intro | (with_reducible exact rfl) | exact (rfl : List.replicate 0 PV.bad = []) | ((with_reducible refine And.intro ?_ ?_) <;> (first | (with_reducible exact wkV_same _ rfl) | exact wkV_pt rfl rfl | exact wkV_ow rfl rfl rfl | (refine wkV_ow rfl rfl ?_) | (refine wkV_sc (congrArg (Value.int .i64) ?_)) | (refine wkV_sc (congrArg Value.bool ?_)) | exact wkV_ls rfl | ((refine wkV_cl ?_); conv => whnf) | ((refine wkV_tu ?_); conv => whnf) | ((refine wkV_ag ?_); conv => whnf) | (conv => whnf)))))))
  all_goals first | rfl | trace_state
set_option maxHeartbeats 8000000 in
theorem c_take_7F (r : Rft) (hf : Fit r) (out : List (List PV)) (ho : out.length ≤ 4000000) (m : Mg) (hfr : 0 ≤ m.frm ∧ m.frm < 7) (hmt : m.term ≤ 1099511627776) (hgt : r.hard.term < m.term) (hsn : m.snap.length ≤ 4294967296) (hix : 0 ≤ m.index ∧ m.index ≤ 1099511627776) (hgl : (insHH (fallR r m.term (-1)) (mkM m 7)).log.length ≤ maxLen) :
    CtrE Tryz.prog 77 [.pt 1000000 0, .ag (mkM m 7).enc] [(1000000, repI r out)] (obI r out) (iv (insE (fallR r m.term (-1)) (mkM m 7))) [(1000000, repX (insR (fallR r m.term (-1)) (mkM m 7)) (out ++ insO (fallR r m.term (-1)) (mkM m 7)))] obX := by
  have hl0 := hf.log
  have hT0 := hf.term
  have kf := c_fallX r (smallM (by omega)) out m.term (-1)
  have hfx := fit_fall hf (t := m.term) (by omega) (-1)
  have hxt := fall_term hgt (-1)
  generalize fallR r m.term (-1) = x at *
  have hx0 : ¬ (mkM m 7).term < x.hard.term := by show ¬ m.term < x.hard.term; omega
  have hg1 : r.hard.term < (mkM m 7).term := hgt
  have hlx := hfx.log
  have hmx : x.hard.log.length ≤ maxLen := smallM (by omega)
  have ka := c_install x hfx out (by omega) (mkM m 7) hsn (by unfold isI; exact ⟨by show _ ≤ m.index; omega, by show m.index < _; omega⟩) hgl
  refine spec_of_bodyE mixed Tryz.func77 rfl (by kernel_rfl) (by kernel_rfl) ?_; conv => whnf
  (first | (with_reducible refine split_dt (by first | assumption | omega) ?_) | (with_reducible refine split_df (by first | assumption | omega) ?_) | (with_reducible refine split_et (by first | assumption | omega) ?_) | (with_reducible refine split_ef (by first | assumption | omega) ?_) | (with_reducible refine split_bt (by first | assumption | omega) ?_) | (with_reducible refine split_bf (by first | assumption | omega) ?_) | (with_reducible refine split_nt (by assumption) ?_) | (with_reducible refine split_nf (by assumption) ?_) | (with_reducible refine split_t (by assumption) ?_) | (with_reducible refine split_f (by assumption) ?_))
  conv => whnf
  ((refine Exists.intro (some ([(1000000, 1000000)], [(1000000, 1000000), (1000001, 1000001), (1000002, 1000002), (1000003, 1000003)], [(2, 3000)])) ?_); (conv => whnf); first | ((with_reducible refine callE_by (kf) ?_); conv => whnf))
  (first | (with_reducible refine split_dt (by first | assumption | omega) ?_) | (with_reducible refine split_df (by first | assumption | omega) ?_) | (with_reducible refine split_et (by first | assumption | omega) ?_) | (with_reducible refine split_ef (by first | assumption | omega) ?_) | (with_reducible refine split_bt (by first | assumption | omega) ?_) | (with_reducible refine split_bf (by first | assumption | omega) ?_) | (with_reducible refine split_nt (by assumption) ?_) | (with_reducible refine split_nf (by assumption) ?_) | (with_reducible refine split_t (by assumption) ?_) | (with_reducible refine split_f (by assumption) ?_))
  conv => whnf
  refine ⟨⟨by decide, hfr.1⟩, ?_⟩
  conv => whnf
  ((refine Exists.intro (some ([(1000000, 1000000)], [(1000000, 1000000), (1000001, 1000001), (1000002, 3000), (1000003, 1000003)], [])) ?_); (conv => whnf); first | ((with_reducible refine callE_by (ka) ?_); conv => whnf))
  (refine exitE_of [(1000000, 1000000), (1000001, 1000001), (1000002, 1000002), (1000003, 1000003)] [] ?_; (conv => whnf); (refine And.intro (And.intro (by with_unfolding_all rfl) (by intro q h; cases h)) ?_; refine And.intro ?_ (And.intro ?_ ?_) <;> (conv => whnf) <;> (repeat' (first | exact True.intro | (with_reducible exact rfl) | exact (rfl : List.replicate 0 PV.bad = []) | ((with_reducible refine And.intro ?_ ?_) <;> (first | (with_reducible exact wkV_same _ rfl) | exact wkV_pt rfl rfl | exact wkV_ow rfl rfl rfl | (refine wkV_ow rfl rfl ?_) | (refine wkV_sc (congrArg (Value.int .i64) ?_)) | (refine wkV_sc (congrArg Value.bool ?_)) | exact wkV_ls rfl | ((refine wkV_cl ?_); conv => whnf) | ((refine wkV_tu ?_); conv => whnf) | ((refine wkV_ag ?_); conv => whnf) | (conv => whnf)))))))
  all_goals first | rfl | trace_state
end Go.Proofs

/- Contracts of functions: a message is taken, by its kind: one kind. (genH17.py writes this) -/
namespace Go.Proofs
open Go.Pv
set_option maxRecDepth 100000

set_option maxHeartbeats 8000000 in
theorem c_take_6 (r : Rft) (hf : Fit r) (out : List (List PV)) (ho : out.length ≤ 4000000) (m : Mg) (hfr : 0 ≤ m.frm ∧ m.frm < 7) (hmt : m.term ≤ 1099511627776) (heq : m.term = r.hard.term) (hix : 0 ≤ m.index ∧ m.index ≤ 1099511627776) (hmm : ∀ i, i < 7 → 0 ≤ r.mtch.at i ∧ r.mtch.at i ≤ lastI r.hard) :
    CtrE Tryz.prog 77 [.pt 1000000 0, .ag (mkM m 6).enc] [(1000000, repI r out)] (obI r out) (iv 0) [(1000000, repX (lrnAll r (mkM m 6)) (out ++ ([] : List (List PV))))] obX := by
  have hl0 := hf.log
  have hT0 := hf.term
  have hfx := hf
  have hx0 : ¬ (mkM m 6).term < r.hard.term := by show ¬ m.term < r.hard.term; omega
  have hg1 : ¬ r.hard.term < (mkM m 6).term := by show ¬ r.hard.term < m.term; omega
  have hlx := hfx.log
  have hmx : r.hard.log.length ≤ maxLen := smallM (by omega)
  have ka := c_learn r hfx out (mkM m 6) hfr hix hmm
  rw [List.append_nil]
  refine spec_of_bodyE mixed Tryz.func77 rfl (by kernel_rfl) (by kernel_rfl) ?_; conv => whnf
  (first | (with_reducible refine split_dt (by first | assumption | omega) ?_) | (with_reducible refine split_df (by first | assumption | omega) ?_) | (with_reducible refine split_et (by first | assumption | omega) ?_) | (with_reducible refine split_ef (by first | assumption | omega) ?_) | (with_reducible refine split_bt (by first | assumption | omega) ?_) | (with_reducible refine split_bf (by first | assumption | omega) ?_) | (with_reducible refine split_nt (by assumption) ?_) | (with_reducible refine split_nf (by assumption) ?_) | (with_reducible refine split_t (by assumption) ?_) | (with_reducible refine split_f (by assumption) ?_))
  conv => whnf
  (first | (with_reducible refine split_dt (by first | assumption | omega) ?_) | (with_reducible refine split_df (by first | assumption | omega) ?_) | (with_reducible refine split_et (by first | assumption | omega) ?_) | (with_reducible refine split_ef (by first | assumption | omega) ?_) | (with_reducible refine split_bt (by first | assumption | omega) ?_) | (with_reducible refine split_bf (by first | assumption | omega) ?_) | (with_reducible refine split_nt (by assumption) ?_) | (with_reducible refine split_nf (by assumption) ?_) | (with_reducible refine split_t (by assumption) ?_) | (with_reducible refine split_f (by assumption) ?_))
  conv => whnf
  refine ⟨⟨by decide, hfr.1⟩, ?_⟩
  conv => whnf
  ((refine Exists.intro (some ([(1000000, 1000000)], [(1000000, 1000000), (1000001, 1000001), (1000002, 1000002), (1000003, 1000003)], [])) ?_); (conv => whnf); first | ((with_reducible refine callE_by (ka) ?_); conv => whnf))
  (refine exitE_of [(1000000, 1000000), (1000001, 1000001), (1000002, 1000002), (1000003, 1000003)] [] ?_; (conv => whnf); (refine And.intro (And.intro (by with_unfolding_all rfl) (by intro q h; cases h)) ?_; refine And.intro ?_ (And.intro ?_ ?_) <;> (conv => whnf) <;> (repeat' (first | exact True.intro | (with_reducible exact rfl) | exact (rfl : List.replicate 0 PV.bad = []) | ((with_reducible refine And.intro ?_ ?_) <;> (first | (with_reducible exact wkV_same _ rfl) | exact wkV_pt rfl rfl | exact wkV_ow rfl rfl rfl | (refine wkV_ow rfl rfl ?_) | (refine wkV_sc (congrArg (Value.int .i64) ?_)) | (refine wkV_sc (congrArg Value.bool ?_)) | exact wkV_ls rfl | ((refine wkV_cl ?_); conv => whnf) | ((refine wkV_tu ?_); conv => whnf) | ((refine wkV_ag ?_); conv => whnf) | (conv => whnf)))))))
  all_goals first | rfl | trace_state
set_option maxHeartbeats 8000000 in
theorem c_take_6F (r : Rft) (hf : Fit r) (out : List (List PV)) (ho : out.length ≤ 4000000) (m : Mg) (hfr : 0 ≤ m.frm ∧ m.frm < 7) (hmt : m.term ≤ 1099511627776) (hgt : r.hard.term < m.term) (hix : 0 ≤ m.index ∧ m.index ≤ 1099511627776) (hmm : ∀ i, i < 7 → 0 ≤ (fallR r m.term (-1)).mtch.at i ∧ (fallR r m.term (-1)).mtch.at i ≤ lastI (fallR r m.term (-1)).hard) :
    CtrE Tryz.prog 77 [.pt 1000000 0, .ag (mkM m 6).enc] [(1000000, repI r out)] (obI r out) (iv 0) [(1000000, repX (lrnAll (fallR r m.term (-1)) (mkM m 6)) (out ++ ([] : List (List PV))))] obX := by
  have hl0 := hf.log
  have hT0 := hf.term
  have kf := c_fallX r (smallM (by omega)) out m.term (-1)
  have hfx := fit_fall hf (t := m.term) (by omega) (-1)
  have hxt := fall_term hgt (-1)
  generalize fallR r m.term (-1) = x at *
  have hx0 : ¬ (mkM m 6).term < x.hard.term := by show ¬ m.term < x.hard.term; omega
  have hg1 : r.hard.term < (mkM m 6).term := hgt
  have hlx := hfx.log
  have hmx : x.hard.log.length ≤ maxLen := smallM (by omega)
  have ka := c_learn x hfx out (mkM m 6) hfr hix hmm
  rw [List.append_nil]
  refine spec_of_bodyE mixed Tryz.func77 rfl (by kernel_rfl) (by kernel_rfl) ?_; conv => whnf
  (first | (with_reducible refine split_dt (by first | assumption | omega) ?_) | (with_reducible refine split_df (by first | assumption | omega) ?_) | (with_reducible refine split_et (by first | assumption | omega) ?_) | (with_reducible refine split_ef (by first | assumption | omega) ?_) | (with_reducible refine split_bt (by first | assumption | omega) ?_) | (with_reducible refine split_bf (by first | assumption | omega) ?_) | (with_reducible refine split_nt (by assumption) ?_) | (with_reducible refine split_nf (by assumption) ?_) | (with_reducible refine split_t (by assumption) ?_) | (with_reducible refine split_f (by assumption) ?_))
  conv => whnf
  ((refine Exists.intro (some ([(1000000, 1000000)], [(1000000, 1000000), (1000001, 1000001), (1000002, 1000002), (1000003, 1000003)], [(2, 3000)])) ?_); (conv => whnf); first | ((with_reducible refine callE_by (kf) ?_); conv => whnf))
  (first | (with_reducible refine split_dt (by first | assumption | omega) ?_) | (with_reducible refine split_df (by first | assumption | omega) ?_) | (with_reducible refine split_et (by first | assumption | omega) ?_) | (with_reducible refine split_ef (by first | assumption | omega) ?_) | (with_reducible refine split_bt (by first | assumption | omega) ?_) | (with_reducible refine split_bf (by first | assumption | omega) ?_) | (with_reducible refine split_nt (by assumption) ?_) | (with_reducible refine split_nf (by assumption) ?_) | (with_reducible refine split_t (by assumption) ?_) | (with_reducible refine split_f (by assumption) ?_))
  conv => whnf
  refine ⟨⟨by decide, hfr.1⟩, ?_⟩
  conv => whnf
  ((refine Exists.intro (some ([(1000000, 1000000)], [(1000000, 1000000), (1000001, 1000001), (1000002, 3000), (1000003, 1000003)], [])) ?_); (conv => whnf); first | ((with_reducible refine callE_by (ka) ?_); conv => whnf))
  (refine exitE_of [(1000000, 1000000), (1000001, 1000001), (1000002, 1000002), (1000003, 1000003)] [] ?_; (conv => whnf); (refine And.intro (And.intro (by with_unfolding_all rfl) (by intro q h; cases h)) ?_; refine And.intro ?_ (And.intro ?_ ?_) <;> (conv => whnf) <;> (repeat' (first | exact True.intro | (with_reducible exact rfl) | exact (rfl : List.replicate 0 PV.bad = []) | ((with_reducible refine And.intro ?_ ?_) <;> (first | (with_reducible exact wkV_same _ rfl) | exact wkV_pt rfl rfl | exact wkV_ow rfl rfl rfl | (refine wkV_ow rfl rfl ?_) | (refine wkV_sc (congrArg (Value.int .i64) ?_)) | (refine wkV_sc (congrArg Value.bool ?_)) | exact wkV_ls rfl | ((refine wkV_cl ?_); conv => whnf) | ((refine wkV_tu ?_); conv => whnf) | ((refine wkV_ag ?_); conv => whnf) | (conv => whnf)))))))
  all_goals first | rfl | trace_state
end Go.Proofs

/- Contracts of functions: a message is taken, by its kind: one kind. (genH17.py writes this) -/
namespace Go.Proofs
open Go.Pv
set_option maxRecDepth 100000

set_option maxHeartbeats 8000000 in
theorem c_take_8 (r : Rft) (hf : Fit r) (out : List (List PV)) (ho : out.length ≤ 4000000) (m : Mg) (hfr : 0 ≤ m.frm ∧ m.frm < 7) (hmt : m.term ≤ 1099511627776) (heq : m.term = r.hard.term) :
    CtrE Tryz.prog 77 [.pt 1000000 0, .ag (mkM m 8).enc] [(1000000, repI r out)] (obI r out) (iv 0) [(1000000, repX (k8R r (mkM m 8)) (out ++ k8O r (mkM m 8)))] obX := by
  have hl0 := hf.log
  have hT0 := hf.term
  have hfx := hf
  have hx0 : ¬ (mkM m 8).term < r.hard.term := by show ¬ m.term < r.hard.term; omega
  have hg1 : ¬ r.hard.term < (mkM m 8).term := by show ¬ r.hard.term < m.term; omega
  have hlx := hfx.log
  have hmx : r.hard.log.length ≤ maxLen := smallM (by omega)
  have kv := c_Voter r hmx
  have kst := c_stand r hfx out ho
  refine spec_of_bodyE mixed Tryz.func77 rfl (by kernel_rfl) (by kernel_rfl) ?_; conv => whnf
  (first | (with_reducible refine split_dt (by first | assumption | omega) ?_) | (with_reducible refine split_df (by first | assumption | omega) ?_) | (with_reducible refine split_et (by first | assumption | omega) ?_) | (with_reducible refine split_ef (by first | assumption | omega) ?_) | (with_reducible refine split_bt (by first | assumption | omega) ?_) | (with_reducible refine split_bf (by first | assumption | omega) ?_) | (with_reducible refine split_nt (by assumption) ?_) | (with_reducible refine split_nf (by assumption) ?_) | (with_reducible refine split_t (by assumption) ?_) | (with_reducible refine split_f (by assumption) ?_))
  conv => whnf
  (first | (with_reducible refine split_dt (by first | assumption | omega) ?_) | (with_reducible refine split_df (by first | assumption | omega) ?_) | (with_reducible refine split_et (by first | assumption | omega) ?_) | (with_reducible refine split_ef (by first | assumption | omega) ?_) | (with_reducible refine split_bt (by first | assumption | omega) ?_) | (with_reducible refine split_bf (by first | assumption | omega) ?_) | (with_reducible refine split_nt (by assumption) ?_) | (with_reducible refine split_nf (by assumption) ?_) | (with_reducible refine split_t (by assumption) ?_) | (with_reducible refine split_f (by assumption) ?_))
  conv => whnf
  refine ⟨⟨by decide, hfr.1⟩, ?_⟩
  conv => whnf
  unfold k8R k8O
  ((try ((refine Exists.intro none ?_); (conv => whnf))); (first | (with_reducible refine And.intro (Nat.le_of_eq (Nat.zero_add _)) ?_) | (refine And.intro (by simp only [List.length_map, List.length_set, Nat.zero_add]; omega) ?_)); conv => whnf)
  ((try ((refine Exists.intro none ?_); (conv => whnf))); (first | (with_reducible refine And.intro (Nat.le_of_eq (Nat.zero_add _)) ?_) | (refine And.intro (by simp only [List.length_map, List.length_set, Nat.zero_add]; omega) ?_)); conv => whnf)
  ((try ((refine Exists.intro none ?_); (conv => whnf))); (first | (with_reducible refine And.intro (Nat.le_of_eq (Nat.zero_add _)) ?_) | (refine And.intro (by simp only [List.length_map, List.length_set, Nat.zero_add]; omega) ?_)); conv => whnf)
  cases hq : isVoter r with
  | true =>
    rw [show bitB (bor (inForce r).full (inForce r).wit) r.id = true from hq] at kv
    rw [if_pos rfl, if_pos rfl]
    ((try ((refine Exists.intro none ?_); (conv => whnf))); first | (refine call_eq (kv) (by simp only [List.drop_zero, List.take_length]) ?_; conv => whnf))
    ((first | (with_reducible refine split_dec (fun h => ?_) (fun h => ?_)) | (with_reducible refine split_beq (fun h => ?_) (fun h => ?_)) | (with_reducible refine split_bne (fun h => ?_) (fun h => ?_)) | (with_reducible refine split_not (fun h => ?_) (fun h => ?_)) | (with_reducible refine split_beqS (fun h => ?_) (fun h => ?_)) | (with_reducible refine split_intro (fun h => ?_) (fun h => ?_))) <;> conv => whnf)
    · have h : r.lead = m.frm := h
      rw [if_pos h, if_pos h]
      ((refine Exists.intro (some ([(1000000, 1000000)], [(1000000, 1000000), (1000001, 1000001), (1000002, 1000002), (1000003, 1000003)], [])) ?_); (conv => whnf); first | ((with_reducible refine callE_by (kst) ?_); conv => whnf))
      (refine exitE_of [(1000000, 1000000), (1000001, 1000001), (1000002, 1000002), (1000003, 1000003)] [] ?_; (conv => whnf); (refine And.intro (And.intro (by with_unfolding_all rfl) (by intro q h; cases h)) ?_; refine And.intro ?_ (And.intro ?_ ?_) <;> (conv => whnf) <;> (repeat' (first | exact True.intro | (with_reducible exact rfl) | exact (rfl : List.replicate 0 PV.bad = []) | ((with_reducible refine And.intro ?_ ?_) <;> (first | (with_reducible exact wkV_same _ rfl) | exact wkV_pt rfl rfl | exact wkV_ow rfl rfl rfl | (refine wkV_ow rfl rfl ?_) | (refine wkV_sc (congrArg (Value.int .i64) ?_)) | (refine wkV_sc (congrArg Value.bool ?_)) | exact wkV_ls rfl | ((refine wkV_cl ?_); conv => whnf) | ((refine wkV_tu ?_); conv => whnf) | ((refine wkV_ag ?_); conv => whnf) | (conv => whnf)))))))
      all_goals first | rfl | trace_state
    · have h : ¬ r.lead = m.frm := h
      rw [if_neg h, if_neg h, List.append_nil]
      (refine exitE_val 1000000 9 1000000 _ _ rfl rfl rfl rfl ?_; refine exitE_val 1000000 10 1000001 _ _ rfl rfl rfl rfl ?_; refine exitE_val 1000000 39 1000002 _ _ rfl rfl rfl rfl ?_; refine exitE_val 1000000 40 1000003 _ _ rfl rfl rfl rfl ?_; refine exitE_of [(1000000, 1000000), (1000001, 1000001), (1000002, 1000002), (1000003, 1000003)] [] ?_; (conv => whnf); (refine And.intro (And.intro (by with_unfolding_all rfl) (by intro q h; cases h)) ?_; refine And.intro ?_ (And.intro ?_ ?_) <;> (conv => whnf) <;> (repeat' (first | exact True.intro | (with_reducible exact rfl) | exact (rfl : List.replicate 0 PV.bad = []) | ((with_reducible refine And.intro ?_ ?_) <;> (first | (with_reducible exact wkV_same _ rfl) | exact wkV_pt rfl rfl | exact wkV_ow rfl rfl rfl | (refine wkV_ow rfl rfl ?_) | (refine wkV_sc (congrArg (Value.int .i64) ?_)) | (refine wkV_sc (congrArg Value.bool ?_)) | exact wkV_ls rfl | ((refine wkV_cl ?_); conv => whnf) | ((refine wkV_tu ?_); conv => whnf) | ((refine wkV_ag ?_); conv => whnf) | (conv => whnf)))))))
      all_goals first | rfl | exact .inl rfl | trace_state
  | false =>
    rw [show bitB (bor (inForce r).full (inForce r).wit) r.id = false from hq] at kv
    rw [if_neg (show ¬ false = true by decide), if_neg (show ¬ false = true by decide), List.append_nil]
    ((try ((refine Exists.intro none ?_); (conv => whnf))); first | (refine call_eq (kv) (by simp only [List.drop_zero, List.take_length]) ?_; conv => whnf))
    (refine exitE_val 1000000 9 1000000 _ _ rfl rfl rfl rfl ?_; refine exitE_val 1000000 10 1000001 _ _ rfl rfl rfl rfl ?_; refine exitE_val 1000000 39 1000002 _ _ rfl rfl rfl rfl ?_; refine exitE_val 1000000 40 1000003 _ _ rfl rfl rfl rfl ?_; refine exitE_of [(1000000, 1000000), (1000001, 1000001), (1000002, 1000002), (1000003, 1000003)] [] ?_; (conv => whnf); (refine And.intro (And.intro (by with_unfolding_all rfl) (by intro q h; cases h)) ?_; refine And.intro ?_ (And.intro ?_ ?_) <;> (conv => whnf) <;> (repeat' (first | exact True.intro | (with_reducible exact rfl) | exact (rfl : List.replicate 0 PV.bad = []) | ((with_reducible refine And.intro ?_ ?_) <;> (first | (with_reducible exact wkV_same _ rfl) | exact wkV_pt rfl rfl | exact wkV_ow rfl rfl rfl | (refine wkV_ow rfl rfl ?_) | (refine wkV_sc (congrArg (Value.int .i64) ?_)) | (refine wkV_sc (congrArg Value.bool ?_)) | exact wkV_ls rfl | ((refine wkV_cl ?_); conv => whnf) | ((refine wkV_tu ?_); conv => whnf) | ((refine wkV_ag ?_); conv => whnf) | (conv => whnf)))))))
    all_goals first | rfl | exact .inl rfl | trace_state
set_option maxHeartbeats 8000000 in
theorem c_take_8F (r : Rft) (hf : Fit r) (out : List (List PV)) (ho : out.length ≤ 4000000) (m : Mg) (hfr : 0 ≤ m.frm ∧ m.frm < 7) (hmt : m.term ≤ 1099511627776) (hgt : r.hard.term < m.term) :
    CtrE Tryz.prog 77 [.pt 1000000 0, .ag (mkM m 8).enc] [(1000000, repI r out)] (obI r out) (iv 0) [(1000000, repX (k8R (fallR r m.term (-1)) (mkM m 8)) (out ++ k8O (fallR r m.term (-1)) (mkM m 8)))] obX := by
  have hl0 := hf.log
  have hT0 := hf.term
  have kf := c_fallX r (smallM (by omega)) out m.term (-1)
  have hfx := fit_fall hf (t := m.term) (by omega) (-1)
  have hxt := fall_term hgt (-1)
  generalize fallR r m.term (-1) = x at *
  have hx0 : ¬ (mkM m 8).term < x.hard.term := by show ¬ m.term < x.hard.term; omega
  have hg1 : r.hard.term < (mkM m 8).term := hgt
  have hlx := hfx.log
  have hmx : x.hard.log.length ≤ maxLen := smallM (by omega)
  have kv := c_Voter x hmx
  have kst := c_stand x hfx out ho
  refine spec_of_bodyE mixed Tryz.func77 rfl (by kernel_rfl) (by kernel_rfl) ?_; conv => whnf
  (first | (with_reducible refine split_dt (by first | assumption | omega) ?_) | (with_reducible refine split_df (by first | assumption | omega) ?_) | (with_reducible refine split_et (by first | assumption | omega) ?_) | (with_reducible refine split_ef (by first | assumption | omega) ?_) | (with_reducible refine split_bt (by first | assumption | omega) ?_) | (with_reducible refine split_bf (by first | assumption | omega) ?_) | (with_reducible refine split_nt (by assumption) ?_) | (with_reducible refine split_nf (by assumption) ?_) | (with_reducible refine split_t (by assumption) ?_) | (with_reducible refine split_f (by assumption) ?_))
  conv => whnf
  ((refine Exists.intro (some ([(1000000, 1000000)], [(1000000, 1000000), (1000001, 1000001), (1000002, 1000002), (1000003, 1000003)], [(2, 3000)])) ?_); (conv => whnf); first | ((with_reducible refine callE_by (kf) ?_); conv => whnf))
  (first | (with_reducible refine split_dt (by first | assumption | omega) ?_) | (with_reducible refine split_df (by first | assumption | omega) ?_) | (with_reducible refine split_et (by first | assumption | omega) ?_) | (with_reducible refine split_ef (by first | assumption | omega) ?_) | (with_reducible refine split_bt (by first | assumption | omega) ?_) | (with_reducible refine split_bf (by first | assumption | omega) ?_) | (with_reducible refine split_nt (by assumption) ?_) | (with_reducible refine split_nf (by assumption) ?_) | (with_reducible refine split_t (by assumption) ?_) | (with_reducible refine split_f (by assumption) ?_))
  conv => whnf
  refine ⟨⟨by decide, hfr.1⟩, ?_⟩
  conv => whnf
  unfold k8R k8O
  ((try ((refine Exists.intro none ?_); (conv => whnf))); (first | (with_reducible refine And.intro (Nat.le_of_eq (Nat.zero_add _)) ?_) | (refine And.intro (by simp only [List.length_map, List.length_set, Nat.zero_add]; omega) ?_)); conv => whnf)
  ((try ((refine Exists.intro none ?_); (conv => whnf))); (first | (with_reducible refine And.intro (Nat.le_of_eq (Nat.zero_add _)) ?_) | (refine And.intro (by simp only [List.length_map, List.length_set, Nat.zero_add]; omega) ?_)); conv => whnf)
  ((try ((refine Exists.intro none ?_); (conv => whnf))); (first | (with_reducible refine And.intro (Nat.le_of_eq (Nat.zero_add _)) ?_) | (refine And.intro (by simp only [List.length_map, List.length_set, Nat.zero_add]; omega) ?_)); conv => whnf)
  cases hq : isVoter x with
  | true =>
    rw [show bitB (bor (inForce x).full (inForce x).wit) x.id = true from hq] at kv
    rw [if_pos rfl, if_pos rfl]
    ((try ((refine Exists.intro none ?_); (conv => whnf))); first | (refine call_eq (kv) (by simp only [List.drop_zero, List.take_length]) ?_; conv => whnf))
    ((first | (with_reducible refine split_dec (fun h => ?_) (fun h => ?_)) | (with_reducible refine split_beq (fun h => ?_) (fun h => ?_)) | (with_reducible refine split_bne (fun h => ?_) (fun h => ?_)) | (with_reducible refine split_not (fun h => ?_) (fun h => ?_)) | (with_reducible refine split_beqS (fun h => ?_) (fun h => ?_)) | (with_reducible refine split_intro (fun h => ?_) (fun h => ?_))) <;> conv => whnf)
    · have h : x.lead = m.frm := h
      rw [if_pos h, if_pos h]
      ((refine Exists.intro (some ([(1000000, 1000000)], [(1000000, 1000000), (1000001, 1000001), (1000002, 3000), (1000003, 1000003)], [])) ?_); (conv => whnf); first | ((with_reducible refine callE_by (kst) ?_); conv => whnf))
      (refine exitE_of [(1000000, 1000000), (1000001, 1000001), (1000002, 1000002), (1000003, 1000003)] [] ?_; (conv => whnf); (refine And.intro (And.intro (by with_unfolding_all rfl) (by intro q h; cases h)) ?_; refine And.intro ?_ (And.intro ?_ ?_) <;> (conv => whnf) <;> (repeat' (first | exact True.intro | (with_reducible exact rfl) | exact (rfl : List.replicate 0 PV.bad = []) | ((with_reducible refine And.intro ?_ ?_) <;> (first | (with_reducible exact wkV_same _ rfl) | exact wkV_pt rfl rfl | exact wkV_ow rfl rfl rfl | (refine wkV_ow rfl rfl ?_) | (refine wkV_sc (congrArg (Value.int .i64) ?_)) | (refine wkV_sc (congrArg Value.bool ?_)) | exact wkV_ls rfl | ((refine wkV_cl ?_); conv => whnf) | ((refine wkV_tu ?_); conv => whnf) | ((refine wkV_ag ?_); conv => whnf) | (conv => whnf)))))))
      all_goals first | rfl | trace_state
    · have h : ¬ x.lead = m.frm := h
      rw [if_neg h, if_neg h, List.append_nil]
      (refine exitE_val 1000000 9 1000000 _ _ rfl rfl rfl rfl ?_; refine exitE_val 1000000 10 1000001 _ _ rfl rfl rfl rfl ?_; refine exitE_val 1000000 39 3000 _ _ rfl rfl rfl rfl ?_; refine exitE_val 1000000 40 1000003 _ _ rfl rfl rfl rfl ?_; refine exitE_of [(1000000, 1000000), (1000001, 1000001), (1000002, 1000002), (1000003, 1000003)] [] ?_; (conv => whnf); (refine And.intro (And.intro (by with_unfolding_all rfl) (by intro q h; cases h)) ?_; refine And.intro ?_ (And.intro ?_ ?_) <;> (conv => whnf) <;> (repeat' (first | exact True.intro | (with_reducible exact rfl) | exact (rfl : List.replicate 0 PV.bad = []) | ((with_reducible refine And.intro ?_ ?_) <;> (first | (with_reducible exact wkV_same _ rfl) | exact wkV_pt rfl rfl | exact wkV_ow rfl rfl rfl | (refine wkV_ow rfl rfl ?_) | (refine wkV_sc (congrArg (Value.int .i64) ?_)) | (refine wkV_sc (congrArg Value.bool ?_)) | exact wkV_ls rfl | ((refine wkV_cl ?_); conv => whnf) | ((refine wkV_tu ?_); conv => whnf) | ((refine wkV_ag ?_); conv => whnf) | (conv => whnf)))))))
      all_goals first | rfl | exact .inl rfl | trace_state
  | false =>
    rw [show bitB (bor (inForce x).full (inForce x).wit) x.id = false from hq] at kv
    rw [if_neg (show ¬ false = true by decide), if_neg (show ¬ false = true by decide), List.append_nil]
    ((try ((refine Exists.intro none ?_); (conv => whnf))); first | (refine call_eq (kv) (by simp only [List.drop_zero, List.take_length]) ?_; conv => whnf))
    (refine exitE_val 1000000 9 1000000 _ _ rfl rfl rfl rfl ?_; refine exitE_val 1000000 10 1000001 _ _ rfl rfl rfl rfl ?_; refine exitE_val 1000000 39 3000 _ _ rfl rfl rfl rfl ?_; refine exitE_val 1000000 40 1000003 _ _ rfl rfl rfl rfl ?_; refine exitE_of [(1000000, 1000000), (1000001, 1000001), (1000002, 1000002), (1000003, 1000003)] [] ?_; (conv => whnf); (refine And.intro (And.intro (by with_unfolding_all rfl) (by intro q h; cases h)) ?_; refine And.intro ?_ (And.intro ?_ ?_) <;> (conv => whnf) <;> (repeat' (first | exact True.intro | (with_reducible exact rfl) | exact (rfl : List.replicate 0 PV.bad = []) | ((with_reducible refine And.intro ?_ ?_) <;> (first | (with_reducible exact wkV_same _ rfl) | exact wkV_pt rfl rfl | exact wkV_ow rfl rfl rfl | (refine wkV_ow rfl rfl ?_) | (refine wkV_sc (congrArg (Value.int .i64) ?_)) | (refine wkV_sc (congrArg Value.bool ?_)) | exact wkV_ls rfl | ((refine wkV_cl ?_); conv => whnf) | ((refine wkV_tu ?_); conv => whnf) | ((refine wkV_ag ?_); conv => whnf) | (conv => whnf)))))))
    all_goals first | rfl | exact .inl rfl | trace_state
end Go.Proofs
