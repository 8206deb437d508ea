import Derived.Test.YtbhfokahocgndaaGreatH10
import Derived.Test.YtbhfokahocgndaaGreatC56
import Derived.Test.YtbhfokahocgndaaGreatC47
/- Contracts of functions: answers; who asks is answered; messages of elder terms. -/
set_option linter.unusedSimpArgs false
set_option linter.unusedVariables false
namespace Go.Proofs
open Go.Pv
set_option maxRecDepth 100000

set_option maxHeartbeats 2000000 in
theorem c_answer (r : Rft) (out : List (List PV)) (ho : out.length ≤ 4294967) (m : Mg) (k ix rd : Int) (y : Bool) :
    CtrE Tryz.prog 119 [.pt 1000000 0, .ag m.enc, .ag (msgV k 0 0 0 ix 0 0 rd y .nl cz .nl)] [(1000000, repI r out)] (obI r out) (.tu []) [(1000000, repM r (out ++ [msgV k r.id m.frm r.hard.term ix 0 0 rd y .nl cz .nl]))] (obM r (out ++ [msgV k r.id m.frm r.hard.term ix 0 0 rd y .nl cz .nl])) := by
  have ks := c_sendN r out ho k 0 0 0 ix 0 0 rd y cz m.frm r.hard.term
  refine spec_of_bodyE mixed Tryz.func119 rfl (by kernel_rfl) (by kernel_rfl) ?_; conv => whnf
  ((refine Exists.intro (some ([(1000000, 1000000)], [(1000000, 1000000), (1000001, 1000001), (1000002, 1000002), (1000003, 1000003)], [(1, 900)])) ?_); (conv => whnf); first | ((with_reducible refine callE_by (ks) ?_); conv => whnf))
  (refine exitE_of [(1000000, 1000000), (1000001, 1000001), (1000002, 1000002), (1000003, 1000003), (1, 900)] [] ?_; (conv => whnf); (refine And.intro (And.intro (by with_unfolding_all rfl) (by intro q h; cases h)) ?_; refine And.intro ?_ (And.intro ?_ ?_) <;> (conv => whnf) <;> (repeat' (first | exact True.intro | (with_reducible exact rfl) | exact (rfl : List.replicate 0 PV.bad = []) | ((with_reducible refine And.intro ?_ ?_) <;> (first | (with_reducible exact wkV_same _ rfl) | exact wkV_pt rfl rfl | exact wkV_ow rfl rfl rfl | (refine wkV_ow rfl rfl ?_) | (refine wkV_sc (congrArg (Value.int .i64) ?_)) | (refine wkV_sc (congrArg Value.bool ?_)) | exact wkV_ls rfl | ((refine wkV_cl ?_); conv => whnf) | ((refine wkV_tu ?_); conv => whnf) | ((refine wkV_ag ?_); conv => whnf) | (conv => whnf)))))))
  all_goals first | rfl | trace_state
set_option maxHeartbeats 2000000 in
theorem c_answerF (r : Rft) (out : List (List PV)) (ho : out.length ≤ 4294967) (m : Mg) (k ix rd : Int) (y : Bool) :
    CtrE Tryz.prog 119 [.pt 1000000 0, .ag m.enc, .ag (msgV k 0 0 0 ix 0 0 rd y .nl cz .nl)] [(1000000, repFI r out)] [(1000000, rdO r), (1000001, some (false, 16, out))] (.tu []) [(1000000, repFM r (out ++ [msgV k r.id m.frm r.hard.term ix 0 0 rd y .nl cz .nl]))] [(1000000, rdO r), (1000001, none), (1, some (false, 16, out ++ [msgV k r.id m.frm r.hard.term ix 0 0 rd y .nl cz .nl]))] := by
  have ks := c_sendFN r out ho k 0 0 0 ix 0 0 rd y cz m.frm r.hard.term
  refine spec_of_bodyE mixed Tryz.func119 rfl (by kernel_rfl) (by kernel_rfl) ?_; conv => whnf
  ((refine Exists.intro (some ([(1000000, 1000000)], [(1000000, 1000000), (1000001, 1000001)], [(1, 900)])) ?_); (conv => whnf); first | ((with_reducible refine callE_by (ks) ?_); conv => whnf))
  (refine exitE_of [(1000000, 1000000), (1000001, 1000001), (1, 900)] [] ?_; (conv => whnf); (refine And.intro (And.intro (by with_unfolding_all rfl) (by intro q h; cases h)) ?_; refine And.intro ?_ (And.intro ?_ ?_) <;> (conv => whnf) <;> (repeat' (first | exact True.intro | (with_reducible exact rfl) | exact (rfl : List.replicate 0 PV.bad = []) | ((with_reducible refine And.intro ?_ ?_) <;> (first | (with_reducible exact wkV_same _ rfl) | exact wkV_pt rfl rfl | exact wkV_ow rfl rfl rfl | (refine wkV_ow rfl rfl ?_) | (refine wkV_sc (congrArg (Value.int .i64) ?_)) | (refine wkV_sc (congrArg Value.bool ?_)) | exact wkV_ls rfl | ((refine wkV_cl ?_); conv => whnf) | ((refine wkV_tu ?_); conv => whnf) | ((refine wkV_ag ?_); conv => whnf) | (conv => whnf)))))))
  all_goals first | rfl | trace_state
noncomputable def askedO (r : Rft) (m : Mg) : List (List PV) := if asked r m = true then [msgV 2 r.id m.frm m.term 0 0 0 0 true .nl cz .nl] else [msgV 2 r.id m.frm r.hard.term 0 0 0 0 false .nl cz .nl]
set_option maxHeartbeats 4000000 in
theorem c_asked (r : Rft) (hm : r.hard.log.length ≤ maxLen) (out : List (List PV)) (ho : out.length ≤ 4294967) (m : Mg) :
    CtrE Tryz.prog 114 [.pt 1000000 0, .ag m.enc] [(1000000, repI r out)] (obI r out) (.tu []) [(1000000, repX r (out ++ askedO r m))] obX := by
  have ka := c_Asked r hm m
  have k1 := c_sendN r out ho 2 0 0 0 0 0 0 0 true cz m.frm m.term
  have k2 := c_sendN r out ho 2 0 0 0 0 0 0 0 false cz m.frm r.hard.term
  unfold askedO
  cases hq : asked r m with
  | true =>
    rw [hq] at ka
    rw [if_pos rfl]
    refine spec_of_bodyE mixed Tryz.func114 rfl (by kernel_rfl) (by kernel_rfl) ?_; conv => whnf
    ((try ((refine Exists.intro none ?_); (conv => whnf))); (first | (with_reducible refine And.intro (Nat.le_of_eq (Nat.zero_add _)) ?_) | (refine And.intro (by simp only [List.length_map, List.length_set, Nat.zero_add]; omega) ?_)); conv => whnf)
    ((try ((refine Exists.intro none ?_); (conv => whnf))); (first | (with_reducible refine And.intro (Nat.le_of_eq (Nat.zero_add _)) ?_) | (refine And.intro (by simp only [List.length_map, List.length_set, Nat.zero_add]; omega) ?_)); conv => whnf)
    ((try ((refine Exists.intro none ?_); (conv => whnf))); (first | (with_reducible refine And.intro (Nat.le_of_eq (Nat.zero_add _)) ?_) | (refine And.intro (by simp only [List.length_map, List.length_set, Nat.zero_add]; omega) ?_)); conv => whnf)
    ((try ((refine Exists.intro none ?_); (conv => whnf))); first | (refine call_eq (ka) (by simp only [List.drop_zero, List.take_length]) ?_; conv => whnf))
    ((refine Exists.intro (some ([(1000000, 1000000)], [(1000000, 1000000), (1000001, 1000001), (1000002, 1000002), (1000003, 1000003)], [(1, 900)])) ?_); (conv => whnf); first | ((with_reducible refine callE_by (k1) ?_); conv => whnf))
    (refine exitE_val 1000000 9 1000000 _ _ rfl rfl rfl rfl ?_; refine exitE_val 1000000 10 1000001 _ _ rfl rfl rfl rfl ?_; refine exitE_val 1000000 39 1000002 _ _ rfl rfl rfl rfl ?_; refine exitE_val 1000000 40 900 _ _ rfl rfl rfl rfl ?_; refine exitE_of [(1000000, 1000000), (1000001, 1000001), (1000002, 1000002), (1000003, 1000003)] [] ?_; (conv => whnf); (refine And.intro (And.intro (by with_unfolding_all rfl) (by intro q h; cases h)) ?_; refine And.intro ?_ (And.intro ?_ ?_) <;> (conv => whnf) <;> (repeat' (first | exact True.intro | (with_reducible exact rfl) | exact (rfl : List.replicate 0 PV.bad = []) | ((with_reducible refine And.intro ?_ ?_) <;> (first | (with_reducible exact wkV_same _ rfl) | exact wkV_pt rfl rfl | exact wkV_ow rfl rfl rfl | (refine wkV_ow rfl rfl ?_) | (refine wkV_sc (congrArg (Value.int .i64) ?_)) | (refine wkV_sc (congrArg Value.bool ?_)) | exact wkV_ls rfl | ((refine wkV_cl ?_); conv => whnf) | ((refine wkV_tu ?_); conv => whnf) | ((refine wkV_ag ?_); conv => whnf) | (conv => whnf)))))))
    all_goals first | rfl | exact .inl rfl | trace_state
  | false =>
    rw [hq] at ka
    rw [if_neg (by decide)]
    refine spec_of_bodyE mixed Tryz.func114 rfl (by kernel_rfl) (by kernel_rfl) ?_; conv => whnf
    ((try ((refine Exists.intro none ?_); (conv => whnf))); (first | (with_reducible refine And.intro (Nat.le_of_eq (Nat.zero_add _)) ?_) | (refine And.intro (by simp only [List.length_map, List.length_set, Nat.zero_add]; omega) ?_)); conv => whnf)
    ((try ((refine Exists.intro none ?_); (conv => whnf))); (first | (with_reducible refine And.intro (Nat.le_of_eq (Nat.zero_add _)) ?_) | (refine And.intro (by simp only [List.length_map, List.length_set, Nat.zero_add]; omega) ?_)); conv => whnf)
    ((try ((refine Exists.intro none ?_); (conv => whnf))); (first | (with_reducible refine And.intro (Nat.le_of_eq (Nat.zero_add _)) ?_) | (refine And.intro (by simp only [List.length_map, List.length_set, Nat.zero_add]; omega) ?_)); conv => whnf)
    ((try ((refine Exists.intro none ?_); (conv => whnf))); first | (refine call_eq (ka) (by simp only [List.drop_zero, List.take_length]) ?_; conv => whnf))
    ((refine Exists.intro (some ([(1000000, 1000000)], [(1000000, 1000000), (1000001, 1000001), (1000002, 1000002), (1000003, 1000003)], [(1, 900)])) ?_); (conv => whnf); first | ((with_reducible refine callE_by (k2) ?_); conv => whnf))
    (refine exitE_val 1000000 9 1000000 _ _ rfl rfl rfl rfl ?_; refine exitE_val 1000000 10 1000001 _ _ rfl rfl rfl rfl ?_; refine exitE_val 1000000 39 1000002 _ _ rfl rfl rfl rfl ?_; refine exitE_val 1000000 40 900 _ _ rfl rfl rfl rfl ?_; refine exitE_of [(1000000, 1000000), (1000001, 1000001), (1000002, 1000002), (1000003, 1000003)] [] ?_; (conv => whnf); (refine And.intro (And.intro (by with_unfolding_all rfl) (by intro q h; cases h)) ?_; refine And.intro ?_ (And.intro ?_ ?_) <;> (conv => whnf) <;> (repeat' (first | exact True.intro | (with_reducible exact rfl) | exact (rfl : List.replicate 0 PV.bad = []) | ((with_reducible refine And.intro ?_ ?_) <;> (first | (with_reducible exact wkV_same _ rfl) | exact wkV_pt rfl rfl | exact wkV_ow rfl rfl rfl | (refine wkV_ow rfl rfl ?_) | (refine wkV_sc (congrArg (Value.int .i64) ?_)) | (refine wkV_sc (congrArg Value.bool ?_)) | exact wkV_ls rfl | ((refine wkV_cl ?_); conv => whnf) | ((refine wkV_tu ?_); conv => whnf) | ((refine wkV_ag ?_); conv => whnf) | (conv => whnf)))))))
    all_goals first | rfl | exact .inl rfl | trace_state
noncomputable def elderO (r : Rft) (m : Mg) : List (List PV) := if m.kind = 3 then [msgV 4 r.id m.frm r.hard.term 0 0 0 0 false .nl cz .nl] else if m.kind = 5 ∨ m.kind = 7 then [msgV 6 r.id m.frm r.hard.term 0 0 0 0 false .nl cz .nl] else []
set_option maxHeartbeats 4000000 in
theorem c_elder (r : Rft) (out : List (List PV)) (ho : out.length ≤ 4294967) (m : Mg) :
    CtrE Tryz.prog 115 [.pt 1000000 0, .ag m.enc] [(1000000, repI r out)] (obI r out) (.tu []) [(1000000, repX r (out ++ elderO r m))] obX := by
  have k4 := c_answer r out ho m 4 0 0 false
  have k6 := c_answer r out ho m 6 0 0 false
  unfold elderO
  refine spec_of_bodyE mixed Tryz.func115 rfl (by kernel_rfl) (by kernel_rfl) ?_; conv => whnf
  ((first | (with_reducible refine split_dec (fun h => ?_) (fun h => ?_)) | (with_reducible refine split_beq (fun h => ?_) (fun h => ?_)) | (with_reducible refine split_bne (fun h => ?_) (fun h => ?_)) | (with_reducible refine split_not (fun h => ?_) (fun h => ?_)) | (with_reducible refine split_beqS (fun h => ?_) (fun h => ?_)) | (with_reducible refine split_intro (fun h => ?_) (fun h => ?_))) <;> conv => whnf)
  · have h : m.kind = 3 := h
    rw [if_pos h]
    ((refine Exists.intro (some ([(1000000, 1000000)], [(1000000, 1000000), (1000001, 1000001), (1000002, 1000002), (1000003, 1000003)], [(1, 900)])) ?_); (conv => whnf); first | ((with_reducible refine callE_by (k4) ?_); conv => whnf))
    (refine exitE_val 1000000 9 1000000 _ _ rfl rfl rfl rfl ?_; refine exitE_val 1000000 10 1000001 _ _ rfl rfl rfl rfl ?_; refine exitE_val 1000000 39 1000002 _ _ rfl rfl rfl rfl ?_; refine exitE_val 1000000 40 900 _ _ rfl rfl rfl rfl ?_; refine exitE_of [(1000000, 1000000), (1000001, 1000001), (1000002, 1000002), (1000003, 1000003)] [] ?_; (conv => whnf); (refine And.intro (And.intro (by with_unfolding_all rfl) (by intro q h; cases h)) ?_; refine And.intro ?_ (And.intro ?_ ?_) <;> (conv => whnf) <;> (repeat' (first | exact True.intro | (with_reducible exact rfl) | exact (rfl : List.replicate 0 PV.bad = []) | ((with_reducible refine And.intro ?_ ?_) <;> (first | (with_reducible exact wkV_same _ rfl) | exact wkV_pt rfl rfl | exact wkV_ow rfl rfl rfl | (refine wkV_ow rfl rfl ?_) | (refine wkV_sc (congrArg (Value.int .i64) ?_)) | (refine wkV_sc (congrArg Value.bool ?_)) | exact wkV_ls rfl | ((refine wkV_cl ?_); conv => whnf) | ((refine wkV_tu ?_); conv => whnf) | ((refine wkV_ag ?_); conv => whnf) | (conv => whnf)))))))
    all_goals first | rfl | exact .inl rfl | trace_state
  · have h3 : ¬ m.kind = 3 := h
    rw [if_neg h3]
    ((first | (with_reducible refine split_dec (fun h => ?_) (fun h => ?_)) | (with_reducible refine split_beq (fun h => ?_) (fun h => ?_)) | (with_reducible refine split_bne (fun h => ?_) (fun h => ?_)) | (with_reducible refine split_not (fun h => ?_) (fun h => ?_)) | (with_reducible refine split_beqS (fun h => ?_) (fun h => ?_)) | (with_reducible refine split_intro (fun h => ?_) (fun h => ?_))) <;> conv => whnf)
    · have h : m.kind = 5 := h
      rw [if_pos (.inl h)]
      (first | (with_reducible refine split_dt (by first | assumption | omega) ?_) | (with_reducible refine split_df (by first | assumption | omega) ?_) | (with_reducible refine split_et (by first | assumption | omega) ?_) | (with_reducible refine split_ef (by first | assumption | omega) ?_) | (with_reducible refine split_bt (by first | assumption | omega) ?_) | (with_reducible refine split_bf (by first | assumption | omega) ?_) | (with_reducible refine split_nt (by assumption) ?_) | (with_reducible refine split_nf (by assumption) ?_) | (with_reducible refine split_t (by assumption) ?_) | (with_reducible refine split_f (by assumption) ?_))
      conv => whnf
      ((refine Exists.intro (some ([(1000000, 1000000)], [(1000000, 1000000), (1000001, 1000001), (1000002, 1000002), (1000003, 1000003)], [(1, 900)])) ?_); (conv => whnf); first | ((with_reducible refine callE_by (k6) ?_); conv => whnf))
      (refine exitE_val 1000000 9 1000000 _ _ rfl rfl rfl rfl ?_; refine exitE_val 1000000 10 1000001 _ _ rfl rfl rfl rfl ?_; refine exitE_val 1000000 39 1000002 _ _ rfl rfl rfl rfl ?_; refine exitE_val 1000000 40 900 _ _ rfl rfl rfl rfl ?_; refine exitE_of [(1000000, 1000000), (1000001, 1000001), (1000002, 1000002), (1000003, 1000003)] [] ?_; (conv => whnf); (refine And.intro (And.intro (by with_unfolding_all rfl) (by intro q h; cases h)) ?_; refine And.intro ?_ (And.intro ?_ ?_) <;> (conv => whnf) <;> (repeat' (first | exact True.intro | (with_reducible exact rfl) | exact (rfl : List.replicate 0 PV.bad = []) | ((with_reducible refine And.intro ?_ ?_) <;> (first | (with_reducible exact wkV_same _ rfl) | exact wkV_pt rfl rfl | exact wkV_ow rfl rfl rfl | (refine wkV_ow rfl rfl ?_) | (refine wkV_sc (congrArg (Value.int .i64) ?_)) | (refine wkV_sc (congrArg Value.bool ?_)) | exact wkV_ls rfl | ((refine wkV_cl ?_); conv => whnf) | ((refine wkV_tu ?_); conv => whnf) | ((refine wkV_ag ?_); conv => whnf) | (conv => whnf)))))))
      all_goals first | rfl | exact .inl rfl | trace_state
    · have h5 : ¬ m.kind = 5 := h
      ((first | (with_reducible refine split_dec (fun h => ?_) (fun h => ?_)) | (with_reducible refine split_beq (fun h => ?_) (fun h => ?_)) | (with_reducible refine split_bne (fun h => ?_) (fun h => ?_)) | (with_reducible refine split_not (fun h => ?_) (fun h => ?_)) | (with_reducible refine split_beqS (fun h => ?_) (fun h => ?_)) | (with_reducible refine split_intro (fun h => ?_) (fun h => ?_))) <;> conv => whnf)
      · have h : m.kind = 7 := h
        rw [if_pos (.inr h)]
        ((refine Exists.intro (some ([(1000000, 1000000)], [(1000000, 1000000), (1000001, 1000001), (1000002, 1000002), (1000003, 1000003)], [(1, 900)])) ?_); (conv => whnf); first | ((with_reducible refine callE_by (k6) ?_); conv => whnf))
        (refine exitE_val 1000000 9 1000000 _ _ rfl rfl rfl rfl ?_; refine exitE_val 1000000 10 1000001 _ _ rfl rfl rfl rfl ?_; refine exitE_val 1000000 39 1000002 _ _ rfl rfl rfl rfl ?_; refine exitE_val 1000000 40 900 _ _ rfl rfl rfl rfl ?_; refine exitE_of [(1000000, 1000000), (1000001, 1000001), (1000002, 1000002), (1000003, 1000003)] [] ?_; (conv => whnf); (refine And.intro (And.intro (by with_unfolding_all rfl) (by intro q h; cases h)) ?_; refine And.intro ?_ (And.intro ?_ ?_) <;> (conv => whnf) <;> (repeat' (first | exact True.intro | (with_reducible exact rfl) | exact (rfl : List.replicate 0 PV.bad = []) | ((with_reducible refine And.intro ?_ ?_) <;> (first | (with_reducible exact wkV_same _ rfl) | exact wkV_pt rfl rfl | exact wkV_ow rfl rfl rfl | (refine wkV_ow rfl rfl ?_) | (refine wkV_sc (congrArg (Value.int .i64) ?_)) | (refine wkV_sc (congrArg Value.bool ?_)) | exact wkV_ls rfl | ((refine wkV_cl ?_); conv => whnf) | ((refine wkV_tu ?_); conv => whnf) | ((refine wkV_ag ?_); conv => whnf) | (conv => whnf)))))))
        all_goals first | rfl | exact .inl rfl | trace_state
      · have h7 : ¬ m.kind = 7 := h
        rw [if_neg (by rintro (h | h); exact h5 h; exact h7 h), List.append_nil]
        (refine exitE_val 1000000 9 1000000 _ _ rfl rfl rfl rfl ?_; refine exitE_val 1000000 10 1000001 _ _ rfl rfl rfl rfl ?_; refine exitE_val 1000000 39 1000002 _ _ rfl rfl rfl rfl ?_; refine exitE_val 1000000 40 1000003 _ _ rfl rfl rfl rfl ?_; refine exitE_of [(1000000, 1000000), (1000001, 1000001), (1000002, 1000002), (1000003, 1000003)] [] ?_; (conv => whnf); (refine And.intro (And.intro (by with_unfolding_all rfl) (by intro q h; cases h)) ?_; refine And.intro ?_ (And.intro ?_ ?_) <;> (conv => whnf) <;> (repeat' (first | exact True.intro | (with_reducible exact rfl) | exact (rfl : List.replicate 0 PV.bad = []) | ((with_reducible refine And.intro ?_ ?_) <;> (first | (with_reducible exact wkV_same _ rfl) | exact wkV_pt rfl rfl | exact wkV_ow rfl rfl rfl | (refine wkV_ow rfl rfl ?_) | (refine wkV_sc (congrArg (Value.int .i64) ?_)) | (refine wkV_sc (congrArg Value.bool ?_)) | exact wkV_ls rfl | ((refine wkV_cl ?_); conv => whnf) | ((refine wkV_tu ?_); conv => whnf) | ((refine wkV_ag ?_); conv => whnf) | (conv => whnf)))))))
        all_goals first | rfl | exact .inl rfl | trace_state
end Go.Proofs

/- Contracts of functions: who leads is followed; entries, a snapshot are taken. -/
namespace Go.Proofs
open Go.Pv
set_option maxRecDepth 100000

set_option maxHeartbeats 2000000 in
theorem c_fallF (r : Rft) (hm : r.hard.log.length ≤ maxLen) (out : List (List PV)) (term lead : Int) :
    CtrE Tryz.prog 113 [.pt 1000000 0, iv term, iv lead] [(1000000, repFI r out)] [(1000000, rdO r), (1000001, some (false, 16, out))] (.tu [])
      [(1000000, repV (fallR r term lead) (.sl 1 (r.hard.snap.map encB)) (.sl 16 (r.hard.log.map Ent.enc)) (.ow 2 0 0) (.ow 1000001 0 out.length))] [(1000000, rdO r), (1000001, some (false, 16, out)), (2, some (false, 13, []))] := by
  have kc := c_vConf { r with role := 0, lead := lead, votes := 0, reads := [], next := zA, mtch := zA, silent := zA } hm
  have kd := c_Delay (inForce r) r.id
  unfold fallR
  refine spec_of_bodyE mixed Tryz.func113 rfl (by kernel_rfl) (by kernel_rfl) ?_; conv => whnf
  ((try ((refine Exists.intro none ?_); (conv => whnf))); refine call_deep (kc) (by (repeat' (first | exact subVL_nil | exact subVR_nil | refine subVL_cons ?_ ?_ | refine subVR_cons ?_ ?_ | exact SubV.refl _ | exact subV_nl | (with_reducible exact subV_tk rfl) | refine subV_ag ?_ | refine subV_sl ?_ | refine subV_ep ?_))) ?_; conv => whnf)
  ((try ((refine Exists.intro none ?_); (conv => whnf))); first | ((with_reducible refine call_by (kd) ?_); conv => whnf))
  ((first | (with_reducible refine split_dec (fun h => ?_) (fun h => ?_)) | (with_reducible refine split_beq (fun h => ?_) (fun h => ?_)) | (with_reducible refine split_bne (fun h => ?_) (fun h => ?_)) | (with_reducible refine split_not (fun h => ?_) (fun h => ?_)) | (with_reducible refine split_beqS (fun h => ?_) (fun h => ?_)) | (with_reducible refine split_intro (fun h => ?_) (fun h => ?_))) <;> conv => whnf)
  · rw [if_pos (by omega)]
    refine exitE_born 1000000 39 3000 13 _ rfl rfl rfl ?_
    conv => whnf
    (refine exitE_of [(1000000, 1000000), (1000001, 1000001), (2, 3000)] [] ?_; (conv => whnf); (refine And.intro (And.intro (by with_unfolding_all rfl) (by intro q h; cases h)) ?_; refine And.intro ?_ (And.intro ?_ ?_) <;> (conv => whnf) <;> (repeat' (first | exact True.intro | (with_reducible exact rfl) | exact (rfl : List.replicate 0 PV.bad = []) | ((with_reducible refine And.intro ?_ ?_) <;> (first | (with_reducible exact wkV_same _ rfl) | exact wkV_pt rfl rfl | exact wkV_ow rfl rfl rfl | (refine wkV_ow rfl rfl ?_) | (refine wkV_sc (congrArg (Value.int .i64) ?_)) | (refine wkV_sc (congrArg Value.bool ?_)) | exact wkV_ls rfl | ((refine wkV_cl ?_); conv => whnf) | ((refine wkV_tu ?_); conv => whnf) | ((refine wkV_ag ?_); conv => whnf) | (conv => whnf)))))))
    all_goals first | rfl | trace_state
  · rw [if_neg (by omega)]
    refine exitE_born 1000000 39 3000 13 _ rfl rfl rfl ?_
    conv => whnf
    (refine exitE_of [(1000000, 1000000), (1000001, 1000001), (2, 3000)] [] ?_; (conv => whnf); (refine And.intro (And.intro (by with_unfolding_all rfl) (by intro q h; cases h)) ?_; refine And.intro ?_ (And.intro ?_ ?_) <;> (conv => whnf) <;> (repeat' (first | exact True.intro | (with_reducible exact rfl) | exact (rfl : List.replicate 0 PV.bad = []) | ((with_reducible refine And.intro ?_ ?_) <;> (first | (with_reducible exact wkV_same _ rfl) | exact wkV_pt rfl rfl | exact wkV_ow rfl rfl rfl | (refine wkV_ow rfl rfl ?_) | (refine wkV_sc (congrArg (Value.int .i64) ?_)) | (refine wkV_sc (congrArg Value.bool ?_)) | exact wkV_ls rfl | ((refine wkV_cl ?_); conv => whnf) | ((refine wkV_tu ?_); conv => whnf) | ((refine wkV_ag ?_); conv => whnf) | (conv => whnf)))))))
    all_goals first | rfl | trace_state
/-- It follows. -/
noncomputable abbrev folR (r : Rft) (m : Mg) : Rft := { fallR r r.hard.term m.frm with quiet := 0 }
noncomputable abbrev folM (r : Rft) (m : Mg) (ix : Int) (y : Bool) : List PV := msgV 6 (folR r m).id m.frm (folR r m).hard.term ix 0 0 m.round y .nl cz .nl
theorem fall_same (r : Rft) (l : Int) : (fallR r r.hard.term l).hard = r.hard := by unfold fallR; rw [if_neg (by omega)]
/-- It falls: all of it under the new one's name. -/
theorem c_fallX (r : Rft) (hm : r.hard.log.length ≤ maxLen) (out : List (List PV)) (t l : Int) :
    CtrE Tryz.prog 113 [.pt 1000000 0, iv t, iv l] [(1000000, repI r out)] (obI r out) (.tu [])
      [(1000000, repV (fallR r t l) (snW (fallR r t l) 1000000) (lgW (fallR r t l) 1000001) (rdW (fallR r t l) 2) (.ow 1000003 0 out.length))] [(1000000, snO (fallR r t l)), (1000001, lgO (fallR r t l)), (1000002, rdO r), (1000003, some (false, 16, out)), (2, rdO (fallR r t l))] := by
  have k := c_fall r hm out t l
  unfold snW lgW snO lgO
  rw [fall_snap, fall_log]
  exact k
theorem c_fallFX (r : Rft) (hm : r.hard.log.length ≤ maxLen) (out : List (List PV)) (t l : Int) :
    CtrE Tryz.prog 113 [.pt 1000000 0, iv t, iv l] [(1000000, repFI r out)] [(1000000, rdO r), (1000001, some (false, 16, out))] (.tu [])
      [(1000000, repV (fallR r t l) (.sl 1 ((fallR r t l).hard.snap.map encB)) (.sl 16 ((fallR r t l).hard.log.map Ent.enc)) (rdW (fallR r t l) 2) (.ow 1000001 0 out.length))] [(1000000, rdO r), (1000001, some (false, 16, out)), (2, rdO (fallR r t l))] := by
  have k := c_fallF r hm out t l
  rw [fall_snap, fall_log]
  exact k
set_option maxHeartbeats 2000000 in
theorem c_follow (r : Rft) (hm : r.hard.log.length ≤ maxLen) (out : List (List PV)) (ho : out.length ≤ 4294967) (m : Mg) (ix : Int) (y : Bool) :
    CtrE Tryz.prog 147 [.pt 1000000 0, .ag m.enc, .ag (msgV 6 0 0 0 ix 0 0 0 y .nl cz .nl)] [(1000000, repFI r out)] [(1000000, rdO r), (1000001, some (false, 16, out))] (.tu [])
      [(1000000, repX (folR r m) (out ++ [folM r m ix y]))] [(1000000, none), (1000001, none)] := by
  have kf := c_fallFX r hm out r.hard.term m.frm
  have ka := c_answerF (folR r m) out ho m 6 ix m.round y
  unfold folM
  unfold folR at *
  generalize fallR r r.hard.term m.frm = x at *
  refine spec_of_bodyE mixed Tryz.func147 rfl (by kernel_rfl) (by kernel_rfl) ?_; conv => whnf
  ((refine Exists.intro (some ([(1000000, 1000000)], [(1000000, 1000000), (1000001, 1000001)], [(2, 3000)])) ?_); (conv => whnf); first | ((with_reducible refine callE_by (kf) ?_); conv => whnf))
  ((refine Exists.intro (some ([(1000000, 1000000)], [(1000000, 3000), (1000001, 1000001)], [(1, 4000)])) ?_); (conv => whnf); first | ((with_reducible refine callE_by (ka) ?_); conv => whnf))
  (refine exitE_val 1000000 39 3000 _ _ rfl rfl rfl rfl ?_; refine exitE_val 1000000 40 4000 _ _ rfl rfl rfl rfl ?_; refine exitE_of [(1000000, 1000000), (1000001, 1000001)] [] ?_; (conv => whnf); (refine And.intro (And.intro (by with_unfolding_all rfl) (by intro q h; cases h)) ?_; refine And.intro ?_ (And.intro ?_ ?_) <;> (conv => whnf) <;> (repeat' (first | exact True.intro | (with_reducible exact rfl) | exact (rfl : List.replicate 0 PV.bad = []) | ((with_reducible refine And.intro ?_ ?_) <;> (first | (with_reducible exact wkV_same _ rfl) | exact wkV_pt rfl rfl | exact wkV_ow rfl rfl rfl | (refine wkV_ow rfl rfl ?_) | (refine wkV_sc (congrArg (Value.int .i64) ?_)) | (refine wkV_sc (congrArg Value.bool ?_)) | exact wkV_ls rfl | ((refine wkV_cl ?_); conv => whnf) | ((refine wkV_tu ?_); conv => whnf) | ((refine wkV_ag ?_); conv => whnf) | (conv => whnf)))))))
  all_goals first | rfl | exact .inl rfl | trace_state
set_option maxHeartbeats 2000000 in
theorem c_followO (r : Rft) (hm : r.hard.log.length ≤ maxLen) (out : List (List PV)) (ho : out.length ≤ 4294967) (m : Mg) (ix : Int) (y : Bool) :
    CtrE Tryz.prog 147 [.pt 1000000 0, .ag m.enc, .ag (msgV 6 0 0 0 ix 0 0 0 y .nl cz .nl)] [(1000000, repI r out)] (obI r out) (.tu [])
      [(1000000, repX (folR r m) (out ++ [folM r m ix y]))] obX := by
  have kf := c_fallX r hm out r.hard.term m.frm
  have ka := c_answer (folR r m) out ho m 6 ix m.round y
  unfold folM
  unfold folR at *
  generalize fallR r r.hard.term m.frm = x at *
  refine spec_of_bodyE mixed Tryz.func147 rfl (by kernel_rfl) (by kernel_rfl) ?_; conv => whnf
  ((refine Exists.intro (some ([(1000000, 1000000)], [(1000000, 1000000), (1000001, 1000001), (1000002, 1000002), (1000003, 1000003)], [(2, 3000)])) ?_); (conv => whnf); first | ((with_reducible refine callE_by (kf) ?_); conv => whnf))
  ((refine Exists.intro (some ([(1000000, 1000000)], [(1000000, 1000000), (1000001, 1000001), (1000002, 3000), (1000003, 1000003)], [(1, 4000)])) ?_); (conv => whnf); first | ((with_reducible refine callE_by (ka) ?_); conv => whnf))
  (refine exitE_val 1000000 9 1000000 _ _ rfl rfl rfl rfl ?_; refine exitE_val 1000000 10 1000001 _ _ rfl rfl rfl rfl ?_; refine exitE_val 1000000 39 3000 _ _ rfl rfl rfl rfl ?_; refine exitE_val 1000000 40 4000 _ _ rfl rfl rfl rfl ?_; refine exitE_of [(1000000, 1000000), (1000001, 1000001), (1000002, 1000002), (1000003, 1000003)] [] ?_; (conv => whnf); (refine And.intro (And.intro (by with_unfolding_all rfl) (by intro q h; cases h)) ?_; refine And.intro ?_ (And.intro ?_ ?_) <;> (conv => whnf) <;> (repeat' (first | exact True.intro | (with_reducible exact rfl) | exact (rfl : List.replicate 0 PV.bad = []) | ((with_reducible refine And.intro ?_ ?_) <;> (first | (with_reducible exact wkV_same _ rfl) | exact wkV_pt rfl rfl | exact wkV_ow rfl rfl rfl | (refine wkV_ow rfl rfl ?_) | (refine wkV_sc (congrArg (Value.int .i64) ?_)) | (refine wkV_sc (congrArg Value.bool ?_)) | exact wkV_ls rfl | ((refine wkV_cl ?_); conv => whnf) | ((refine wkV_tu ?_); conv => whnf) | ((refine wkV_ag ?_); conv => whnf) | (conv => whnf)))))))
  all_goals first | rfl | exact .inl rfl | trace_state
abbrev setH (r : Rft) (h : Hrd) (c : Int) : Rft := { r with hard := h, commit := c }
noncomputable def appE (r : Rft) (m : Mg) : Int := if r.role = 3 then 0 else growE r.hard r.commit m
noncomputable def appR (r : Rft) (m : Mg) : Rft := if r.role = 3 then r else if growE r.hard r.commit m = 0 then folR (setH r (growO r.hard r.commit m).h (growO r.hard r.commit m).c) m else r
noncomputable def appO (r : Rft) (m : Mg) : List (List PV) := if r.role = 3 then [] else if growE r.hard r.commit m = 0 then [folM (setH r (growO r.hard r.commit m).h (growO r.hard r.commit m).c) m (growO r.hard r.commit m).i (growO r.hard r.commit m).yes] else []
set_option maxHeartbeats 4000000 in
theorem c_append (r : Rft) (hf : Fit r) (out : List (List PV)) (ho : out.length ≤ 4294967) (m : Mg) (hm : m.entries.length ≤ 4294967)
    (hl : growE r.hard r.commit m = 0 → (growO r.hard r.commit m).h.log.length ≤ maxLen) :
    CtrE Tryz.prog 121 [.pt 1000000 0, .ag m.enc] [(1000000, repI r out)] (obI r out) (iv (appE r m)) [(1000000, repX (appR r m) (out ++ appO r m))] obX := by
  have hb := hf.base
  have hl0 := hf.log
  have kg := c_growV r.hard hf.snap (by omega) (by unfold isI; omega) r.commit m hm
  unfold appE appR appO
  refine spec_of_bodyE mixed Tryz.func121 rfl (by kernel_rfl) (by kernel_rfl) ?_; conv => whnf
  ((first | (with_reducible refine split_dec (fun h => ?_) (fun h => ?_)) | (with_reducible refine split_beq (fun h => ?_) (fun h => ?_)) | (with_reducible refine split_bne (fun h => ?_) (fun h => ?_)) | (with_reducible refine split_not (fun h => ?_) (fun h => ?_)) | (with_reducible refine split_beqS (fun h => ?_) (fun h => ?_)) | (with_reducible refine split_intro (fun h => ?_) (fun h => ?_))) <;> conv => whnf)
  · have h : r.role = 3 := h
    rw [if_pos h, if_pos h, if_pos h, List.append_nil]
    (refine exitE_val 1000000 9 1000000 _ _ rfl rfl rfl rfl ?_; refine exitE_val 1000000 10 1000001 _ _ rfl rfl rfl rfl ?_; refine exitE_val 1000000 39 1000002 _ _ rfl rfl rfl rfl ?_; refine exitE_val 1000000 40 1000003 _ _ rfl rfl rfl rfl ?_; refine exitE_of [(1000000, 1000000), (1000001, 1000001), (1000002, 1000002), (1000003, 1000003)] [] ?_; (conv => whnf); (refine And.intro (And.intro (by with_unfolding_all rfl) (by intro q h; cases h)) ?_; refine And.intro ?_ (And.intro ?_ ?_) <;> (conv => whnf) <;> (repeat' (first | exact True.intro | (with_reducible exact rfl) | exact (rfl : List.replicate 0 PV.bad = []) | ((with_reducible refine And.intro ?_ ?_) <;> (first | (with_reducible exact wkV_same _ rfl) | exact wkV_pt rfl rfl | exact wkV_ow rfl rfl rfl | (refine wkV_ow rfl rfl ?_) | (refine wkV_sc (congrArg (Value.int .i64) ?_)) | (refine wkV_sc (congrArg Value.bool ?_)) | exact wkV_ls rfl | ((refine wkV_cl ?_); conv => whnf) | ((refine wkV_tu ?_); conv => whnf) | ((refine wkV_ag ?_); conv => whnf) | (conv => whnf)))))))
    all_goals first | rfl | exact .inl rfl | trace_state
  · have h : ¬ r.role = 3 := h
    rw [if_neg h, if_neg h, if_neg h]
    ((try ((refine Exists.intro none ?_); (conv => whnf))); (first | (with_reducible refine And.intro (Nat.le_of_eq (Nat.zero_add _)) ?_) | (refine And.intro (by simp only [List.length_map, List.length_set, Nat.zero_add]; omega) ?_)); conv => whnf)
    ((try ((refine Exists.intro none ?_); (conv => whnf))); (first | (with_reducible refine And.intro (Nat.le_of_eq (Nat.zero_add _)) ?_) | (refine And.intro (by simp only [List.length_map, List.length_set, Nat.zero_add]; omega) ?_)); conv => whnf)
    by_cases he : growE r.hard r.commit m = 0
    · have kf := c_follow (setH r (growO r.hard r.commit m).h (growO r.hard r.commit m).c) (hl he) out ho m (growO r.hard r.commit m).i (growO r.hard r.commit m).yes
      rw [if_pos he, if_pos he, he]
      rw [(resG_ok he).2.2] at kg
      ((try ((refine Exists.intro none ?_); (conv => whnf))); first | (refine call_eq (kg) (by simp only [List.drop_zero, List.take_length]) ?_; conv => whnf))
      (refine Exists.intro _ (And.intro rfl (And.intro (by intro q _; simp only [List.length_nil]; omega) (And.intro (by intro i hi; exact absurd hi (Nat.not_lt_zero i)) ?_))); conv => whnf)
      ((refine Exists.intro (some ([(1000000, 1000000)], [(1000000, 1000002), (1000001, 1000003)], [])) ?_); (conv => whnf); first | ((with_reducible refine callE_by (kf) ?_); conv => whnf))
      (refine exitE_of [(1000000, 1000000), (1000001, 1000001), (1000002, 1000002), (1000003, 1000003)] [] ?_; (conv => whnf); (refine And.intro (And.intro (by with_unfolding_all rfl) (by intro q h; cases h)) ?_; refine And.intro ?_ (And.intro ?_ ?_) <;> (conv => whnf) <;> (repeat' (first | exact True.intro | (with_reducible exact rfl) | exact (rfl : List.replicate 0 PV.bad = []) | ((with_reducible refine And.intro ?_ ?_) <;> (first | (with_reducible exact wkV_same _ rfl) | exact wkV_pt rfl rfl | exact wkV_ow rfl rfl rfl | (refine wkV_ow rfl rfl ?_) | (refine wkV_sc (congrArg (Value.int .i64) ?_)) | (refine wkV_sc (congrArg Value.bool ?_)) | exact wkV_ls rfl | ((refine wkV_cl ?_); conv => whnf) | ((refine wkV_tu ?_); conv => whnf) | ((refine wkV_ag ?_); conv => whnf) | (conv => whnf)))))))
      all_goals first | rfl | trace_state
    · rw [if_neg he, if_neg he, List.append_nil]
      rw [(resG_no he).2.2] at kg
      ((try ((refine Exists.intro none ?_); (conv => whnf))); first | (refine call_eq (kg) (by simp only [List.drop_zero, List.take_length]) ?_; conv => whnf))
      ((first | (with_reducible refine split_dec (fun h => ?_) (fun h => ?_)) | (with_reducible refine split_beq (fun h => ?_) (fun h => ?_)) | (with_reducible refine split_bne (fun h => ?_) (fun h => ?_)) | (with_reducible refine split_not (fun h => ?_) (fun h => ?_)) | (with_reducible refine split_beqS (fun h => ?_) (fun h => ?_)) | (with_reducible refine split_intro (fun h => ?_) (fun h => ?_))) <;> conv => whnf)
      · (refine exitE_val 1000000 9 1000000 _ _ rfl rfl rfl rfl ?_; refine exitE_val 1000000 10 1000001 _ _ rfl rfl rfl rfl ?_; refine exitE_val 1000000 39 1000002 _ _ rfl rfl rfl rfl ?_; refine exitE_val 1000000 40 1000003 _ _ rfl rfl rfl rfl ?_; refine exitE_of [(1000000, 1000000), (1000001, 1000001), (1000002, 1000002), (1000003, 1000003)] [] ?_; (conv => whnf); (refine And.intro (And.intro (by with_unfolding_all rfl) (by intro q h; cases h)) ?_; refine And.intro ?_ (And.intro ?_ ?_) <;> (conv => whnf) <;> (repeat' (first | exact True.intro | (with_reducible exact rfl) | exact (rfl : List.replicate 0 PV.bad = []) | ((with_reducible refine And.intro ?_ ?_) <;> (first | (with_reducible exact wkV_same _ rfl) | exact wkV_pt rfl rfl | exact wkV_ow rfl rfl rfl | (refine wkV_ow rfl rfl ?_) | (refine wkV_sc (congrArg (Value.int .i64) ?_)) | (refine wkV_sc (congrArg Value.bool ?_)) | exact wkV_ls rfl | ((refine wkV_cl ?_); conv => whnf) | ((refine wkV_tu ?_); conv => whnf) | ((refine wkV_ag ?_); conv => whnf) | (conv => whnf)))))))
        all_goals first | rfl | exact .inl rfl | trace_state
      · exact absurd (by first | exact h | (simpa using h)) he
noncomputable abbrev insEE (r : Rft) (m : Mg) : Int := instE r.hard m.index m.logTerm m.conf m.snap
noncomputable abbrev insHH (r : Rft) (m : Mg) : Hrd := instH r.hard m.index m.logTerm m.conf m.snap
noncomputable def insE (r : Rft) (m : Mg) : Int := if r.role = 3 then 0 else if r.commit < m.index then insEE r m else 0
noncomputable def insR (r : Rft) (m : Mg) : Rft := if r.role = 3 then r else if r.commit < m.index then (if insEE r m = 0 then folR (setH r (insHH r m) m.index) m else r) else folR r m
noncomputable def insO (r : Rft) (m : Mg) : List (List PV) := if r.role = 3 then [] else if r.commit < m.index then (if insEE r m = 0 then [folM (setH r (insHH r m) m.index) m m.index true] else []) else [folM r m r.commit true]
set_option maxHeartbeats 4000000 in
theorem c_install (r : Rft) (hf : Fit r) (out : List (List PV)) (ho : out.length ≤ 4294967) (m : Mg) (hm : m.snap.length ≤ 4294967296) (hi : isI m.index)
    (hl : (insHH r m).log.length ≤ maxLen) :
    CtrE Tryz.prog 122 [.pt 1000000 0, .ag m.enc] [(1000000, repI r out)] (obI r out) (iv (insE r m)) [(1000000, repX (insR r m) (out ++ insO r m))] obX := by
  have hb := hf.base
  have hl0 := hf.log
  have kg := c_InstallW r.hard (by omega) (by unfold isI; omega) m.index hi m.logTerm m.conf m.snap hm
  unfold insE insR insO
  refine spec_of_bodyE mixed Tryz.func122 rfl (by kernel_rfl) (by kernel_rfl) ?_; conv => whnf
  ((first | (with_reducible refine split_dec (fun h => ?_) (fun h => ?_)) | (with_reducible refine split_beq (fun h => ?_) (fun h => ?_)) | (with_reducible refine split_bne (fun h => ?_) (fun h => ?_)) | (with_reducible refine split_not (fun h => ?_) (fun h => ?_)) | (with_reducible refine split_beqS (fun h => ?_) (fun h => ?_)) | (with_reducible refine split_intro (fun h => ?_) (fun h => ?_))) <;> conv => whnf)
  · have h : r.role = 3 := h
    rw [if_pos h, if_pos h, if_pos h, List.append_nil]
    (refine exitE_val 1000000 9 1000000 _ _ rfl rfl rfl rfl ?_; refine exitE_val 1000000 10 1000001 _ _ rfl rfl rfl rfl ?_; refine exitE_val 1000000 39 1000002 _ _ rfl rfl rfl rfl ?_; refine exitE_val 1000000 40 1000003 _ _ rfl rfl rfl rfl ?_; refine exitE_of [(1000000, 1000000), (1000001, 1000001), (1000002, 1000002), (1000003, 1000003)] [] ?_; (conv => whnf); (refine And.intro (And.intro (by with_unfolding_all rfl) (by intro q h; cases h)) ?_; refine And.intro ?_ (And.intro ?_ ?_) <;> (conv => whnf) <;> (repeat' (first | exact True.intro | (with_reducible exact rfl) | exact (rfl : List.replicate 0 PV.bad = []) | ((with_reducible refine And.intro ?_ ?_) <;> (first | (with_reducible exact wkV_same _ rfl) | exact wkV_pt rfl rfl | exact wkV_ow rfl rfl rfl | (refine wkV_ow rfl rfl ?_) | (refine wkV_sc (congrArg (Value.int .i64) ?_)) | (refine wkV_sc (congrArg Value.bool ?_)) | exact wkV_ls rfl | ((refine wkV_cl ?_); conv => whnf) | ((refine wkV_tu ?_); conv => whnf) | ((refine wkV_ag ?_); conv => whnf) | (conv => whnf)))))))
    all_goals first | rfl | exact .inl rfl | trace_state
  · have h : ¬ r.role = 3 := h
    rw [if_neg h, if_neg h, if_neg h]
    ((first | (with_reducible refine split_dec (fun h => ?_) (fun h => ?_)) | (with_reducible refine split_beq (fun h => ?_) (fun h => ?_)) | (with_reducible refine split_bne (fun h => ?_) (fun h => ?_)) | (with_reducible refine split_not (fun h => ?_) (fun h => ?_)) | (with_reducible refine split_beqS (fun h => ?_) (fun h => ?_)) | (with_reducible refine split_intro (fun h => ?_) (fun h => ?_))) <;> conv => whnf)
    · have h : r.commit < m.index := by omega
      rw [if_pos h, if_pos h, if_pos h]
      ((try ((refine Exists.intro none ?_); (conv => whnf))); (first | (with_reducible refine And.intro (Nat.le_of_eq (Nat.zero_add _)) ?_) | (refine And.intro (by simp only [List.length_map, List.length_set, Nat.zero_add]; omega) ?_)); conv => whnf)
      ((try ((refine Exists.intro none ?_); (conv => whnf))); (first | (with_reducible refine And.intro (Nat.le_of_eq (Nat.zero_add _)) ?_) | (refine And.intro (by simp only [List.length_map, List.length_set, Nat.zero_add]; omega) ?_)); conv => whnf)
      by_cases he : insEE r m = 0
      · have kf := c_follow (setH r (insHH r m) m.index) hl out ho m m.index true
        rw [if_pos he, if_pos he, he]
        rw [(res_ok he).2.2] at kg
        ((try ((refine Exists.intro none ?_); (conv => whnf))); first | (refine call_eq (kg) (by simp only [List.drop_zero, List.take_length]) ?_; conv => whnf))
        (refine Exists.intro _ (And.intro rfl (And.intro (by intro q _; simp only [List.length_nil]; omega) (And.intro (by intro i hi; exact absurd hi (Nat.not_lt_zero i)) ?_))); conv => whnf)
        ((refine Exists.intro (some ([(1000000, 1000000)], [(1000000, 1000002), (1000001, 1000003)], [])) ?_); (conv => whnf); first | ((with_reducible refine callE_by (kf) ?_); conv => whnf))
        (refine exitE_of [(1000000, 1000000), (1000001, 1000001), (1000002, 1000002), (1000003, 1000003)] [] ?_; (conv => whnf); (refine And.intro (And.intro (by with_unfolding_all rfl) (by intro q h; cases h)) ?_; refine And.intro ?_ (And.intro ?_ ?_) <;> (conv => whnf) <;> (repeat' (first | exact True.intro | (with_reducible exact rfl) | exact (rfl : List.replicate 0 PV.bad = []) | ((with_reducible refine And.intro ?_ ?_) <;> (first | (with_reducible exact wkV_same _ rfl) | exact wkV_pt rfl rfl | exact wkV_ow rfl rfl rfl | (refine wkV_ow rfl rfl ?_) | (refine wkV_sc (congrArg (Value.int .i64) ?_)) | (refine wkV_sc (congrArg Value.bool ?_)) | exact wkV_ls rfl | ((refine wkV_cl ?_); conv => whnf) | ((refine wkV_tu ?_); conv => whnf) | ((refine wkV_ag ?_); conv => whnf) | (conv => whnf)))))))
        all_goals first | rfl | trace_state
      · rw [if_neg he, if_neg he, List.append_nil]
        rw [(res_no he).2.2] at kg
        ((try ((refine Exists.intro none ?_); (conv => whnf))); first | (refine call_eq (kg) (by simp only [List.drop_zero, List.take_length]) ?_; conv => whnf))
        ((first | (with_reducible refine split_dec (fun h => ?_) (fun h => ?_)) | (with_reducible refine split_beq (fun h => ?_) (fun h => ?_)) | (with_reducible refine split_bne (fun h => ?_) (fun h => ?_)) | (with_reducible refine split_not (fun h => ?_) (fun h => ?_)) | (with_reducible refine split_beqS (fun h => ?_) (fun h => ?_)) | (with_reducible refine split_intro (fun h => ?_) (fun h => ?_))) <;> conv => whnf)
        · (refine exitE_val 1000000 9 1000000 _ _ rfl rfl rfl rfl ?_; refine exitE_val 1000000 10 1000001 _ _ rfl rfl rfl rfl ?_; refine exitE_val 1000000 39 1000002 _ _ rfl rfl rfl rfl ?_; refine exitE_val 1000000 40 1000003 _ _ rfl rfl rfl rfl ?_; refine exitE_of [(1000000, 1000000), (1000001, 1000001), (1000002, 1000002), (1000003, 1000003)] [] ?_; (conv => whnf); (refine And.intro (And.intro (by with_unfolding_all rfl) (by intro q h; cases h)) ?_; refine And.intro ?_ (And.intro ?_ ?_) <;> (conv => whnf) <;> (repeat' (first | exact True.intro | (with_reducible exact rfl) | exact (rfl : List.replicate 0 PV.bad = []) | ((with_reducible refine And.intro ?_ ?_) <;> (first | (with_reducible exact wkV_same _ rfl) | exact wkV_pt rfl rfl | exact wkV_ow rfl rfl rfl | (refine wkV_ow rfl rfl ?_) | (refine wkV_sc (congrArg (Value.int .i64) ?_)) | (refine wkV_sc (congrArg Value.bool ?_)) | exact wkV_ls rfl | ((refine wkV_cl ?_); conv => whnf) | ((refine wkV_tu ?_); conv => whnf) | ((refine wkV_ag ?_); conv => whnf) | (conv => whnf)))))))
          all_goals first | rfl | exact .inl rfl | trace_state
        · exact absurd (by first | exact h | (simpa using h)) he
    · have h : ¬ r.commit < m.index := by omega
      rw [if_neg h, if_neg h, if_neg h]
      have kf := c_followO r (smallM (by omega)) out ho m r.commit true
      ((refine Exists.intro (some ([(1000000, 1000000)], [(1000000, 1000000), (1000001, 1000001), (1000002, 1000002), (1000003, 1000003)], [])) ?_); (conv => whnf); first | ((with_reducible refine callE_by (kf) ?_); conv => whnf))
      (refine exitE_of [(1000000, 1000000), (1000001, 1000001), (1000002, 1000002), (1000003, 1000003)] [] ?_; (conv => whnf); (refine And.intro (And.intro (by with_unfolding_all rfl) (by intro q h; cases h)) ?_; refine And.intro ?_ (And.intro ?_ ?_) <;> (conv => whnf) <;> (repeat' (first | exact True.intro | (with_reducible exact rfl) | exact (rfl : List.replicate 0 PV.bad = []) | ((with_reducible refine And.intro ?_ ?_) <;> (first | (with_reducible exact wkV_same _ rfl) | exact wkV_pt rfl rfl | exact wkV_ow rfl rfl rfl | (refine wkV_ow rfl rfl ?_) | (refine wkV_sc (congrArg (Value.int .i64) ?_)) | (refine wkV_sc (congrArg Value.bool ?_)) | exact wkV_ls rfl | ((refine wkV_cl ?_); conv => whnf) | ((refine wkV_tu ?_); conv => whnf) | ((refine wkV_ag ?_); conv => whnf) | (conv => whnf)))))))
      all_goals first | rfl | trace_state
end Go.Proofs
