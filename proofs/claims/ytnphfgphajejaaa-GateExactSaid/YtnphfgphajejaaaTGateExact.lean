import Derived.Test.YtnphfgphajejaaaC32
import Derived.Test.YtnphfgphajejaaaTGatePasses
import Derived.Test.YtnphfgphajejaaaTTurnReads
namespace Go.Proofs
open Go.Pv
set_option maxRecDepth 100000

def spoilPd (x : Pd) : Pd := { x with index := -77 }
theorem leftF_len (l : List Pd) (index : Int) : (l.filter fun p => decide (index < p.index)).length ≤ l.length := List.length_filter_le _ _
theorem putL_len (l : List Pd) (c : VCall) (index : Int) : (putL l c index).length ≤ l.length + 1 := by
  have : (keptL l c).length ≤ l.length := List.length_filter_le _ _
  simp only [putL, List.length_append, List.length_cons, List.length_nil]; omega
theorem s_Pends (l : List Pd) (hm : l.length ≤ maxLen) : Ctr Try.prog 105 [.sl 11 (l.map Pd.enc), .sl 11 (l.map Pd.enc)] (bv true) [] := by
  have := c_kPends l l hm
  rwa [decide_eq_true rfl] at this
theorem s_Pends0 : Ctr Try.prog 105 [.nl, .nl] (bv true) [] := by
  have := s_Pends [] (by simp)
  exact this.deep (subVL_cons subV_nl (subVL_cons subV_nl subVL_nil))

set_option maxHeartbeats 8000000 in
theorem l_GateExact1 (l : List Pd) (hl : l.length ≤ 100) (hh : heavyP l = false) (c : VCall) (index : Int) (x : Ent) (e : Int) (b : Bool) (he : e = 0 ∧ b = true ∨ e = 6 ∧ b = false)
    (hg : Ctr Try.prog 110 [.sl 11 (l.map Pd.enc)] (iv e) []) (hr : Ctr Try.prog 103 [.sl 11 (l.map Pd.enc)] (bv b) []) : Ctr Try.prog 20 [.sl 11 (l.map Pd.enc), .ag c.enc, iv index, .ag x.enc] (bv true) [] := by
  have hml : l.length ≤ maxLen := smallM (by omega)
  have b1 : l.length ≤ 4294967296 := by omega
  have b2 : l.length ≤ 4294967 := by omega
  have hFl := leftF_len l index
  have hPl := putL_len l c index
  have hw := c_heavy21 l
  rw [hh] at hw
  rcases he with ⟨rfl, rfl⟩ | ⟨rfl, rfl⟩
  all_goals (
    refine spec_of_body mixed Try.func20 rfl (by kernel_rfl) (by kernel_rfl) ?_; conv => whnf
    ((try ((refine Exists.intro none ?_); (conv => whnf))); first | ((with_reducible refine call_by (hw) ?_); conv => whnf))
    ((try ((refine Exists.intro none ?_); (conv => whnf))); first | ((with_reducible refine call_by (c_HeavyCmd c.cmd) ?_); conv => whnf))
    ((first | (with_reducible refine split_dec (fun h => ?_) (fun h => ?_)) | (with_reducible refine split_beq (fun h => ?_) (fun h => ?_)) | (with_reducible refine split_bne (fun h => ?_) (fun h => ?_)) | (with_reducible refine split_not (fun h => ?_) (fun h => ?_)) | (with_reducible refine split_beqS (fun h => ?_) (fun h => ?_)) | (with_reducible refine split_intro (fun h => ?_) (fun h => ?_))) <;> conv => whnf)
    all_goals first
      | exact exit_plain rfl rfl
      | skip
    ((try ((refine Exists.intro none ?_); (conv => whnf))); first | ((with_reducible refine call_by (c_HeavyCmd x.call.cmd) ?_); conv => whnf))
    ((first | (with_reducible refine split_dec (fun h => ?_) (fun h => ?_)) | (with_reducible refine split_beq (fun h => ?_) (fun h => ?_)) | (with_reducible refine split_bne (fun h => ?_) (fun h => ?_)) | (with_reducible refine split_not (fun h => ?_) (fun h => ?_)) | (with_reducible refine split_beqS (fun h => ?_) (fun h => ?_)) | (with_reducible refine split_intro (fun h => ?_) (fun h => ?_))) <;> conv => whnf)
    all_goals first
      | exact exit_plain rfl rfl
      | skip
    ((try ((refine Exists.intro none ?_); (conv => whnf))); first | ((with_reducible refine call_by (c_TwinPends l b1) ?_); conv => whnf))
    (refine Exists.intro _ (And.intro rfl (And.intro (by intro q hq; first | (cases hq; done) | (simp only [List.mem_cons, List.not_mem_nil, or_false] at hq; rcases hq with rfl | rfl <;> (simp only [List.length_cons, List.length_nil]; omega)) | (simp only [List.mem_cons, List.not_mem_nil, or_false] at hq; subst hq; simp only [List.length_cons, List.length_nil]; omega)) (And.intro (by intro i hi; simp only [List.length_cons, List.length_nil, Nat.lt_one_iff, Nat.zero_add] at hi; subst hi; rfl) ?_))); conv => whnf)
    ((try ((refine Exists.intro none ?_); (conv => whnf))); (first | (with_reducible refine And.intro (Nat.le_of_eq (Nat.zero_add _)) ?_) | (refine And.intro (by simp only [List.length_map, List.length_set, Nat.zero_add]; omega) ?_)); conv => whnf)
    ((try ((refine Exists.intro none ?_); (conv => whnf))); first | (refine call_eq (hg) (by simp only [List.drop_zero, List.take_length]) ?_; conv => whnf))
    ((try ((refine Exists.intro none ?_); (conv => whnf))); first | ((with_reducible refine call_by (hr) ?_); conv => whnf))
    ((with_reducible refine And.intro (show Try.prog.underlying _ = some .bool by kernel_rfl) ?_); conv => whnf)
    first
      | (((try ((refine Exists.intro none ?_); (conv => whnf))); (first | (with_reducible refine And.intro (Nat.le_of_eq (Nat.zero_add _)) ?_) | (refine And.intro (by simp only [List.length_map, List.length_set, Nat.zero_add]; omega) ?_)); conv => whnf)
         ((try ((refine Exists.intro none ?_); (conv => whnf))); first | (refine call_eq (hg) (by simp only [List.drop_zero, List.take_length]) ?_; conv => whnf))
         ((try ((refine Exists.intro none ?_); (conv => whnf))); (first | (with_reducible refine And.intro (Nat.le_of_eq (Nat.zero_add _)) ?_) | (refine And.intro (by simp only [List.length_map, List.length_set, Nat.zero_add]; omega) ?_)); conv => whnf)
         ((try ((refine Exists.intro none ?_); (conv => whnf))); first | (refine call_eq (c_HasP l hml c) (by simp only [List.drop_zero, List.take_length]) ?_; conv => whnf)))
      | (((try ((refine Exists.intro none ?_); (conv => whnf))); (first | (with_reducible refine And.intro (Nat.le_of_eq (Nat.zero_add _)) ?_) | (refine And.intro (by simp only [List.length_map, List.length_set, Nat.zero_add]; omega) ?_)); conv => whnf)
         ((try ((refine Exists.intro none ?_); (conv => whnf))); first | (refine call_eq (hg) (by simp only [List.drop_zero, List.take_length]) ?_; conv => whnf))
         ((try ((refine Exists.intro none ?_); (conv => whnf))); (first | (with_reducible refine And.intro (Nat.le_of_eq (Nat.zero_add _)) ?_) | (refine And.intro (by simp only [List.length_map, List.length_set, Nat.zero_add]; omega) ?_)); conv => whnf)
         ((try ((refine Exists.intro none ?_); (conv => whnf))); first | (refine call_eq (hg) (by simp only [List.drop_zero, List.take_length]) ?_; conv => whnf))
         ((try ((refine Exists.intro none ?_); (conv => whnf))); (first | (with_reducible refine And.intro (Nat.le_of_eq (Nat.zero_add _)) ?_) | (refine And.intro (by simp only [List.length_map, List.length_set, Nat.zero_add]; omega) ?_)); conv => whnf)
         ((try ((refine Exists.intro none ?_); (conv => whnf))); first | (refine call_eq (c_HasP l hml c) (by simp only [List.drop_zero, List.take_length]) ?_; conv => whnf)))
    ((try ((refine Exists.intro none ?_); (conv => whnf))); first | ((with_reducible refine call_by (c_rHas l hml c) ?_); conv => whnf))
    ((with_reducible refine And.intro (show Try.prog.underlying _ = some .bool by kernel_rfl) ?_); conv => whnf)
    ((first | (with_reducible refine split_et rfl ?_) | (with_reducible refine split_bf rfl ?_) | (with_reducible refine split_t (beq_self_eq_true _) ?_) | (with_reducible refine split_f (bne_self_eq_false _) ?_)); conv => whnf)
    have k1 := c_gPut l b2 c index
    have k2 := c_rPut l b2 c index
    by_cases hE : putE l c index = 0
    · rw [(put_ok hE).1, (put_ok hE).2] at k1 k2
      ((try ((refine Exists.intro none ?_); (conv => whnf))); (first | (with_reducible refine And.intro (Nat.le_of_eq (Nat.zero_add _)) ?_) | (refine And.intro (by simp only [List.length_map, List.length_set, Nat.zero_add]; omega) ?_)); conv => whnf)
      ((try ((refine Exists.intro none ?_); (conv => whnf))); first | (refine call_eq (k1) (by simp only [List.drop_zero, List.take_length]) ?_; conv => whnf))
      (refine Exists.intro _ (And.intro rfl (And.intro (by intro q hq; first | (cases hq; done) | (simp only [List.mem_cons, List.not_mem_nil, or_false] at hq; rcases hq with rfl | rfl <;> (simp only [List.length_cons, List.length_nil]; omega)) | (simp only [List.mem_cons, List.not_mem_nil, or_false] at hq; subst hq; simp only [List.length_cons, List.length_nil]; omega)) (And.intro (by intro i hi; simp only [List.length_cons, List.length_nil, Nat.lt_one_iff, Nat.zero_add] at hi; subst hi; rfl) ?_))); conv => whnf)
      ((try ((refine Exists.intro none ?_); (conv => whnf))); first | ((with_reducible refine call_by (k2) ?_); conv => whnf))
      (refine Exists.intro _ (And.intro rfl (And.intro (by intro q hq; first | (cases hq; done) | (simp only [List.mem_cons, List.not_mem_nil, or_false] at hq; rcases hq with rfl | rfl <;> (simp only [List.length_cons, List.length_nil]; omega)) | (simp only [List.mem_cons, List.not_mem_nil, or_false] at hq; subst hq; simp only [List.length_cons, List.length_nil]; omega)) (And.intro (by intro i hi; simp only [List.length_cons, List.length_nil, Nat.lt_one_iff, Nat.zero_add] at hi; subst hi; rfl) ?_))); conv => whnf)
      ((try ((refine Exists.intro none ?_); (conv => whnf))); (first | (with_reducible refine And.intro (Nat.le_of_eq (Nat.zero_add _)) ?_) | (refine And.intro (by simp only [List.length_map, List.length_set, Nat.zero_add]; omega) ?_)); conv => whnf)
      ((try ((refine Exists.intro none ?_); (conv => whnf))); (first | (with_reducible refine And.intro (Nat.le_of_eq (Nat.zero_add _)) ?_) | (refine And.intro (by simp only [List.length_map, List.length_set, Nat.zero_add]; omega) ?_)); conv => whnf)
      ((try ((refine Exists.intro none ?_); (conv => whnf))); first | (refine call_eq (s_Pends (putL l c index) (smallM (by omega))) (by simp only [List.drop_zero, List.take_length]) ?_; conv => whnf))
      refine tri_forO mixed (by kernel_rfl) (fun i : Nat => i ≤ (putL l c index).length) (fun i => [(14, iv i)]) (fun _ => [(5, c.enc), (7, x.enc)]) (fun i => [(576, some (true, 11, l.map Pd.enc)), (1056, some (false, 11, (upTo spoilPd (putL l c index) i).map Pd.enc)), (1168, some (false, 11, (putL l c index).map Pd.enc))]) [(576, 576), (1056, 1056), (1168, 1168)] (fun i => (putL l c index).length - i) 0 (Nat.zero_le _) ?_ ?_
      · conv => whnf
        (refine And.intro (And.intro (by with_unfolding_all rfl) (by intro q h; cases h)) ?_; refine And.intro ?_ (And.intro ?_ ?_) <;> (conv => whnf) <;> (repeat' (first | exact True.intro | (with_reducible exact rfl) | exact (rfl : List.replicate 0 PV.bad = []) | ((with_reducible refine And.intro ?_ ?_) <;> (first | (with_reducible exact wkV_same _ rfl) | exact wkV_pt rfl rfl | exact wkV_ow rfl rfl rfl | (refine wkV_ow rfl rfl ?_) | (refine wkV_sc (congrArg (Value.int .i64) ?_)) | (refine wkV_sc (congrArg Value.bool ?_)) | exact wkV_ls rfl | ((refine wkV_cl ?_); conv => whnf) | ((refine wkV_tu ?_); conv => whnf) | ((refine wkV_ag ?_); conv => whnf) | (conv => whnf))))))
        all_goals rfl
      intro i hi
      conv => whnf
      ((first | (with_reducible refine split_dec (fun h => ?_) (fun h => ?_)) | (with_reducible refine split_beq (fun h => ?_) (fun h => ?_)) | (with_reducible refine split_bne (fun h => ?_) (fun h => ?_)) | (with_reducible refine split_not (fun h => ?_) (fun h => ?_)) | (with_reducible refine split_beqS (fun h => ?_) (fun h => ?_)) | (with_reducible refine split_intro (fun h => ?_) (fun h => ?_))) <;> conv => whnf)
      · simp only [List.length_map] at h
        have hlt : i < (putL l c index).length := by omega
        have hrow : ((upTo spoilPd (putL l c index) i).map Pd.enc)[0 + ((i : Nat) : Int).toNat]? = some (((putL l c index)[i]'hlt).enc) := by
          rw [Nat.zero_add]; exact upTo_at spoilPd Pd.enc (putL l c index) hlt
        refine ⟨⟨by omega, by (try simp only [List.length_map]); omega⟩, ?_⟩
        conv => whnf
        refine ⟨_, hrow, ?_⟩
        conv => whnf
        refine ⟨i + 1, [(576, 576), (1056, 1056), (1168, 1168)], ⟨by omega, by omega⟩, ?_⟩
        conv => whnf
        (refine And.intro (And.intro (by with_unfolding_all rfl) (by intro q h; cases h)) ?_; refine And.intro ?_ (And.intro ?_ ?_) <;> (conv => whnf) <;> (repeat' (first | exact True.intro | (with_reducible exact rfl) | exact (rfl : List.replicate 0 PV.bad = []) | ((with_reducible refine And.intro ?_ ?_) <;> (first | (with_reducible exact wkV_same _ rfl) | exact wkV_pt rfl rfl | exact wkV_ow rfl rfl rfl | (refine wkV_ow rfl rfl ?_) | (refine wkV_sc (congrArg (Value.int .i64) ?_)) | (refine wkV_sc (congrArg Value.bool ?_)) | exact wkV_ls rfl | ((refine wkV_cl ?_); conv => whnf) | ((refine wkV_tu ?_); conv => whnf) | ((refine wkV_ag ?_); conv => whnf) | (conv => whnf))))))
        all_goals first
          | (rw [upTo_succ spoilPd (putL l c index) hlt, List.map_set, Nat.zero_add, Int.toNat_natCast]; rfl)
          | exact w1 (by omega)
          | skip
      · generalize i = n at *
        ((try ((refine Exists.intro none ?_); (conv => whnf))); (first | (with_reducible refine And.intro (Nat.le_of_eq (Nat.zero_add _)) ?_) | (refine And.intro (by simp only [List.length_map, List.length_set, Nat.zero_add]; omega) ?_)); conv => whnf)
        ((try ((refine Exists.intro none ?_); (conv => whnf))); first | (refine call_eq (c_Take l b2 index x) (by simp only [List.drop_zero, List.take_length]) ?_; conv => whnf))
        (refine Exists.intro _ (And.intro rfl (And.intro (by intro q hq; first | (cases hq; done) | (simp only [List.mem_cons, List.not_mem_nil, or_false] at hq; rcases hq with rfl | rfl <;> (simp only [List.length_cons, List.length_nil]; omega)) | (simp only [List.mem_cons, List.not_mem_nil, or_false] at hq; subst hq; simp only [List.length_cons, List.length_nil]; omega)) (And.intro (by intro i hi; simp only [List.length_cons, List.length_nil, Nat.lt_one_iff, Nat.zero_add] at hi; subst hi; rfl) ?_))); conv => whnf)
        ((try ((refine Exists.intro none ?_); (conv => whnf))); first | ((with_reducible refine call_by (c_rTake l b2 index x) ?_); conv => whnf))
        (refine Exists.intro _ (And.intro rfl (And.intro (by intro q hq; first | (cases hq; done) | (simp only [List.mem_cons, List.not_mem_nil, or_false] at hq; rcases hq with rfl | rfl <;> (simp only [List.length_cons, List.length_nil]; omega)) | (simp only [List.mem_cons, List.not_mem_nil, or_false] at hq; subst hq; simp only [List.length_cons, List.length_nil]; omega)) (And.intro (by intro i hi; simp only [List.length_cons, List.length_nil, Nat.lt_one_iff, Nat.zero_add] at hi; subst hi; rfl) ?_))); conv => whnf)
        ((try ((refine Exists.intro none ?_); (conv => whnf))); (first | (with_reducible refine And.intro (Nat.le_of_eq (Nat.zero_add _)) ?_) | (refine And.intro (by simp only [List.length_map, List.length_set, Nat.zero_add]; omega) ?_)); conv => whnf)
        ((try ((refine Exists.intro none ?_); (conv => whnf))); (first | (with_reducible refine And.intro (Nat.le_of_eq (Nat.zero_add _)) ?_) | (refine And.intro (by simp only [List.length_map, List.length_set, Nat.zero_add]; omega) ?_)); conv => whnf)
        ((try ((refine Exists.intro none ?_); (conv => whnf))); first | (refine call_eq (s_Pends (l.filter fun p => decide (index < p.index)) (smallM (by omega))) (by simp only [List.drop_zero, List.take_length]) ?_; conv => whnf))
        ((try ((refine Exists.intro none ?_); (conv => whnf))); first | ((with_reducible refine call_by (s_Call (callOf (l.find? (tkF index x)))) ?_); conv => whnf))
        ((with_reducible refine And.intro (show Try.prog.underlying _ = some .bool by kernel_rfl) ?_); conv => whnf)
        ((first | (with_reducible refine split_et rfl ?_) | (with_reducible refine split_bf rfl ?_) | (with_reducible refine split_t (beq_self_eq_true _) ?_) | (with_reducible refine split_f (bne_self_eq_false _) ?_)); conv => whnf)
        refine tri_forO mixed (by kernel_rfl) (fun i : Nat => i ≤ (l.filter fun p => decide (index < p.index)).length) (fun i => [(21, iv i)]) (fun _ => [(5, c.enc), (7, x.enc), (16, (callOf (l.find? (tkF index x))).enc), (19, (callOf (l.find? (tkF index x))).enc)]) (fun i => [(576, some (true, 11, l.map Pd.enc)), (1056, some (false, 11, (upTo spoilPd (putL l c index) n).map Pd.enc)), (1168, some (false, 11, (putL l c index).map Pd.enc)), (1584, some (false, 11, (upTo spoilPd (l.filter fun p => decide (index < p.index)) i).map Pd.enc)), (1712, some (false, 11, (l.filter fun p => decide (index < p.index)).map Pd.enc))]) [(576, 576), (1056, 1056), (1168, 1168), (1584, 1584), (1712, 1712)] (fun i => (l.filter fun p => decide (index < p.index)).length - i) 0 (Nat.zero_le _) ?_ ?_
        · conv => whnf
          (refine And.intro (And.intro (by with_unfolding_all rfl) (by intro q h; cases h)) ?_; refine And.intro ?_ (And.intro ?_ ?_) <;> (conv => whnf) <;> (repeat' (first | exact True.intro | (with_reducible exact rfl) | exact (rfl : List.replicate 0 PV.bad = []) | ((with_reducible refine And.intro ?_ ?_) <;> (first | (with_reducible exact wkV_same _ rfl) | exact wkV_pt rfl rfl | exact wkV_ow rfl rfl rfl | (refine wkV_ow rfl rfl ?_) | (refine wkV_sc (congrArg (Value.int .i64) ?_)) | (refine wkV_sc (congrArg Value.bool ?_)) | exact wkV_ls rfl | ((refine wkV_cl ?_); conv => whnf) | ((refine wkV_tu ?_); conv => whnf) | ((refine wkV_ag ?_); conv => whnf) | (conv => whnf))))))
          all_goals rfl
        intro i hi
        conv => whnf
        ((first | (with_reducible refine split_dec (fun h => ?_) (fun h => ?_)) | (with_reducible refine split_beq (fun h => ?_) (fun h => ?_)) | (with_reducible refine split_bne (fun h => ?_) (fun h => ?_)) | (with_reducible refine split_not (fun h => ?_) (fun h => ?_)) | (with_reducible refine split_beqS (fun h => ?_) (fun h => ?_)) | (with_reducible refine split_intro (fun h => ?_) (fun h => ?_))) <;> conv => whnf)
        · simp only [List.length_map] at h
          have hlt : i < (l.filter fun p => decide (index < p.index)).length := by omega
          have hrow : ((upTo spoilPd (l.filter fun p => decide (index < p.index)) i).map Pd.enc)[0 + ((i : Nat) : Int).toNat]? = some (((l.filter fun p => decide (index < p.index))[i]'hlt).enc) := by
            rw [Nat.zero_add]; exact upTo_at spoilPd Pd.enc (l.filter fun p => decide (index < p.index)) hlt
          refine ⟨⟨by omega, by (try simp only [List.length_map]); omega⟩, ?_⟩
          conv => whnf
          refine ⟨_, hrow, ?_⟩
          conv => whnf
          refine ⟨i + 1, [(576, 576), (1056, 1056), (1168, 1168), (1584, 1584), (1712, 1712)], ⟨by omega, by omega⟩, ?_⟩
          conv => whnf
          (refine And.intro (And.intro (by with_unfolding_all rfl) (by intro q h; cases h)) ?_; refine And.intro ?_ (And.intro ?_ ?_) <;> (conv => whnf) <;> (repeat' (first | exact True.intro | (with_reducible exact rfl) | exact (rfl : List.replicate 0 PV.bad = []) | ((with_reducible refine And.intro ?_ ?_) <;> (first | (with_reducible exact wkV_same _ rfl) | exact wkV_pt rfl rfl | exact wkV_ow rfl rfl rfl | (refine wkV_ow rfl rfl ?_) | (refine wkV_sc (congrArg (Value.int .i64) ?_)) | (refine wkV_sc (congrArg Value.bool ?_)) | exact wkV_ls rfl | ((refine wkV_cl ?_); conv => whnf) | ((refine wkV_tu ?_); conv => whnf) | ((refine wkV_ag ?_); conv => whnf) | (conv => whnf))))))
          all_goals first
            | (rw [upTo_succ spoilPd (l.filter fun p => decide (index < p.index)) hlt, List.map_set, Nat.zero_add, Int.toNat_natCast]; rfl)
            | exact w1 (by omega)
            | skip
        · ((try ((refine Exists.intro none ?_); (conv => whnf))); (first | (with_reducible refine And.intro (Nat.le_of_eq (Nat.zero_add _)) ?_) | (refine And.intro (by simp only [List.length_map, List.length_set, Nat.zero_add]; omega) ?_)); conv => whnf)
          ((try ((refine Exists.intro none ?_); (conv => whnf))); first | (refine call_eq (s_Pends l hml) (by simp only [List.drop_zero, List.take_length]) ?_; conv => whnf))
          ((try ((refine Exists.intro none ?_); (conv => whnf))); first | ((with_reducible refine call_by (c_wakes21) ?_); conv => whnf))
          exact exit_plain rfl rfl
    · rw [(put_err rfl hE).1, (put_err rfl hE).2] at k1 k2
      ((try ((refine Exists.intro none ?_); (conv => whnf))); (first | (with_reducible refine And.intro (Nat.le_of_eq (Nat.zero_add _)) ?_) | (refine And.intro (by simp only [List.length_map, List.length_set, Nat.zero_add]; omega) ?_)); conv => whnf)
      ((try ((refine Exists.intro none ?_); (conv => whnf))); first | (refine call_eq (k1) (by simp only [List.drop_zero, List.take_length]) ?_; conv => whnf))
      ((try ((refine Exists.intro none ?_); (conv => whnf))); first | ((with_reducible refine call_by (k2) ?_); conv => whnf))
      ((try ((refine Exists.intro none ?_); (conv => whnf))); first | ((with_reducible refine call_by (s_Pends0) ?_); conv => whnf))
      ((first | (with_reducible refine split_et rfl ?_) | (with_reducible refine split_bf rfl ?_) | (with_reducible refine split_t (beq_self_eq_true _) ?_) | (with_reducible refine split_f (bne_self_eq_false _) ?_)); conv => whnf)
      refine tri_forO mixed (by kernel_rfl) (fun i : Nat => i = 0) (fun i => [(14, iv i)]) (fun _ => [(5, c.enc), (7, x.enc)]) (fun _ => [(576, some (false, 11, l.map Pd.enc))]) [(576, 576)] (fun _ => 0) 0 rfl ?_ ?_
      · conv => whnf
        (refine And.intro (And.intro (by with_unfolding_all rfl) (by intro q h; cases h)) ?_; refine And.intro ?_ (And.intro ?_ ?_) <;> (conv => whnf) <;> (repeat' (first | exact True.intro | (with_reducible exact rfl) | exact (rfl : List.replicate 0 PV.bad = []) | ((with_reducible refine And.intro ?_ ?_) <;> (first | (with_reducible exact wkV_same _ rfl) | exact wkV_pt rfl rfl | exact wkV_ow rfl rfl rfl | (refine wkV_ow rfl rfl ?_) | (refine wkV_sc (congrArg (Value.int .i64) ?_)) | (refine wkV_sc (congrArg Value.bool ?_)) | exact wkV_ls rfl | ((refine wkV_cl ?_); conv => whnf) | ((refine wkV_tu ?_); conv => whnf) | ((refine wkV_ag ?_); conv => whnf) | (conv => whnf))))))
        all_goals rfl
      intro i hi
      conv => whnf
      ((try ((refine Exists.intro none ?_); (conv => whnf))); (first | (with_reducible refine And.intro (Nat.le_of_eq (Nat.zero_add _)) ?_) | (refine And.intro (by simp only [List.length_map, List.length_set, Nat.zero_add]; omega) ?_)); conv => whnf)
      ((try ((refine Exists.intro none ?_); (conv => whnf))); first | (refine call_eq (c_Take l b2 index x) (by simp only [List.drop_zero, List.take_length]) ?_; conv => whnf))
      (refine Exists.intro _ (And.intro rfl (And.intro (by intro q hq; first | (cases hq; done) | (simp only [List.mem_cons, List.not_mem_nil, or_false] at hq; rcases hq with rfl | rfl <;> (simp only [List.length_cons, List.length_nil]; omega)) | (simp only [List.mem_cons, List.not_mem_nil, or_false] at hq; subst hq; simp only [List.length_cons, List.length_nil]; omega)) (And.intro (by intro i hi; simp only [List.length_cons, List.length_nil, Nat.lt_one_iff, Nat.zero_add] at hi; subst hi; rfl) ?_))); conv => whnf)
      ((try ((refine Exists.intro none ?_); (conv => whnf))); first | ((with_reducible refine call_by (c_rTake l b2 index x) ?_); conv => whnf))
      (refine Exists.intro _ (And.intro rfl (And.intro (by intro q hq; first | (cases hq; done) | (simp only [List.mem_cons, List.not_mem_nil, or_false] at hq; rcases hq with rfl | rfl <;> (simp only [List.length_cons, List.length_nil]; omega)) | (simp only [List.mem_cons, List.not_mem_nil, or_false] at hq; subst hq; simp only [List.length_cons, List.length_nil]; omega)) (And.intro (by intro i hi; simp only [List.length_cons, List.length_nil, Nat.lt_one_iff, Nat.zero_add] at hi; subst hi; rfl) ?_))); conv => whnf)
      ((try ((refine Exists.intro none ?_); (conv => whnf))); (first | (with_reducible refine And.intro (Nat.le_of_eq (Nat.zero_add _)) ?_) | (refine And.intro (by simp only [List.length_map, List.length_set, Nat.zero_add]; omega) ?_)); conv => whnf)
      ((try ((refine Exists.intro none ?_); (conv => whnf))); (first | (with_reducible refine And.intro (Nat.le_of_eq (Nat.zero_add _)) ?_) | (refine And.intro (by simp only [List.length_map, List.length_set, Nat.zero_add]; omega) ?_)); conv => whnf)
      ((try ((refine Exists.intro none ?_); (conv => whnf))); first | (refine call_eq (s_Pends (l.filter fun p => decide (index < p.index)) (smallM (by omega))) (by simp only [List.drop_zero, List.take_length]) ?_; conv => whnf))
      ((try ((refine Exists.intro none ?_); (conv => whnf))); first | ((with_reducible refine call_by (s_Call (callOf (l.find? (tkF index x)))) ?_); conv => whnf))
      ((with_reducible refine And.intro (show Try.prog.underlying _ = some .bool by kernel_rfl) ?_); conv => whnf)
      ((first | (with_reducible refine split_et rfl ?_) | (with_reducible refine split_bf rfl ?_) | (with_reducible refine split_t (beq_self_eq_true _) ?_) | (with_reducible refine split_f (bne_self_eq_false _) ?_)); conv => whnf)
      refine tri_forO mixed (by kernel_rfl) (fun i : Nat => i ≤ (l.filter fun p => decide (index < p.index)).length) (fun i => [(21, iv i)]) (fun _ => [(5, c.enc), (7, x.enc), (16, (callOf (l.find? (tkF index x))).enc), (19, (callOf (l.find? (tkF index x))).enc)]) (fun i => [(576, some (true, 11, l.map Pd.enc)), (1584, some (false, 11, (upTo spoilPd (l.filter fun p => decide (index < p.index)) i).map Pd.enc)), (1712, some (false, 11, (l.filter fun p => decide (index < p.index)).map Pd.enc))]) [(576, 576), (1584, 1584), (1712, 1712)] (fun i => (l.filter fun p => decide (index < p.index)).length - i) 0 (Nat.zero_le _) ?_ ?_
      · conv => whnf
        (refine And.intro (And.intro (by with_unfolding_all rfl) (by intro q h; cases h)) ?_; refine And.intro ?_ (And.intro ?_ ?_) <;> (conv => whnf) <;> (repeat' (first | exact True.intro | (with_reducible exact rfl) | exact (rfl : List.replicate 0 PV.bad = []) | ((with_reducible refine And.intro ?_ ?_) <;> (first | (with_reducible exact wkV_same _ rfl) | exact wkV_pt rfl rfl | exact wkV_ow rfl rfl rfl | (refine wkV_ow rfl rfl ?_) | (refine wkV_sc (congrArg (Value.int .i64) ?_)) | (refine wkV_sc (congrArg Value.bool ?_)) | exact wkV_ls rfl | ((refine wkV_cl ?_); conv => whnf) | ((refine wkV_tu ?_); conv => whnf) | ((refine wkV_ag ?_); conv => whnf) | (conv => whnf))))))
        all_goals rfl
      intro i hi
      conv => whnf
      ((first | (with_reducible refine split_dec (fun h => ?_) (fun h => ?_)) | (with_reducible refine split_beq (fun h => ?_) (fun h => ?_)) | (with_reducible refine split_bne (fun h => ?_) (fun h => ?_)) | (with_reducible refine split_not (fun h => ?_) (fun h => ?_)) | (with_reducible refine split_beqS (fun h => ?_) (fun h => ?_)) | (with_reducible refine split_intro (fun h => ?_) (fun h => ?_))) <;> conv => whnf)
      · simp only [List.length_map] at h
        have hlt : i < (l.filter fun p => decide (index < p.index)).length := by omega
        have hrow : ((upTo spoilPd (l.filter fun p => decide (index < p.index)) i).map Pd.enc)[0 + ((i : Nat) : Int).toNat]? = some (((l.filter fun p => decide (index < p.index))[i]'hlt).enc) := by
          rw [Nat.zero_add]; exact upTo_at spoilPd Pd.enc (l.filter fun p => decide (index < p.index)) hlt
        refine ⟨⟨by omega, by (try simp only [List.length_map]); omega⟩, ?_⟩
        conv => whnf
        refine ⟨_, hrow, ?_⟩
        conv => whnf
        refine ⟨i + 1, [(576, 576), (1584, 1584), (1712, 1712)], ⟨by omega, by omega⟩, ?_⟩
        conv => whnf
        (refine And.intro (And.intro (by with_unfolding_all rfl) (by intro q h; cases h)) ?_; refine And.intro ?_ (And.intro ?_ ?_) <;> (conv => whnf) <;> (repeat' (first | exact True.intro | (with_reducible exact rfl) | exact (rfl : List.replicate 0 PV.bad = []) | ((with_reducible refine And.intro ?_ ?_) <;> (first | (with_reducible exact wkV_same _ rfl) | exact wkV_pt rfl rfl | exact wkV_ow rfl rfl rfl | (refine wkV_ow rfl rfl ?_) | (refine wkV_sc (congrArg (Value.int .i64) ?_)) | (refine wkV_sc (congrArg Value.bool ?_)) | exact wkV_ls rfl | ((refine wkV_cl ?_); conv => whnf) | ((refine wkV_tu ?_); conv => whnf) | ((refine wkV_ag ?_); conv => whnf) | (conv => whnf))))))
        all_goals first
          | (rw [upTo_succ spoilPd (l.filter fun p => decide (index < p.index)) hlt, List.map_set, Nat.zero_add, Int.toNat_natCast]; rfl)
          | exact w1 (by omega)
          | skip
      · ((try ((refine Exists.intro none ?_); (conv => whnf))); (first | (with_reducible refine And.intro (Nat.le_of_eq (Nat.zero_add _)) ?_) | (refine And.intro (by simp only [List.length_map, List.length_set, Nat.zero_add]; omega) ?_)); conv => whnf)
        ((try ((refine Exists.intro none ?_); (conv => whnf))); first | (refine call_eq (s_Pends l hml) (by simp only [List.drop_zero, List.take_length]) ?_; conv => whnf))
        ((try ((refine Exists.intro none ?_); (conv => whnf))); first | ((with_reducible refine call_by (c_wakes21) ?_); conv => whnf))
        exact exit_plain rfl rfl)

theorem l_GateExact (l : List Pd) (c : VCall) (index : Int) (x : Ent) : Ctr Try.prog 20 [.sl 11 (l.map Pd.enc), .ag c.enc, iv index, .ag x.enc] (bv true) [] := by
  cases hh : heavyP l with
  | true =>
    have hw := c_heavy21 l
    rw [hh] at hw
    refine spec_of_body mixed Try.func20 rfl (by kernel_rfl) (by kernel_rfl) ?_; conv => whnf
    ((try ((refine Exists.intro none ?_); (conv => whnf))); first | ((with_reducible refine call_by (hw) ?_); conv => whnf))
    exact exit_plain rfl rfl
  | false =>
    have hl : l.length ≤ 100 := by simp [heavyP] at hh; omega
    have hml : l.length ≤ maxLen := smallM (by omega)
    have hg := c_gCheck l hml
    have hr := c_rPends l hml
    cases hp : dec (PendsP l) with
    | true =>
      rw [hp] at hg hr
      exact l_GateExact1 l hl hh c index x 0 true (.inl ⟨rfl, rfl⟩) hg hr
    | false =>
      rw [hp] at hg hr
      exact l_GateExact1 l hl hh c index x 6 false (.inr ⟨rfl, rfl⟩) hg hr

theorem told_GateExact (qs : List PV) (h : ArgsOf Try.prog [97, 70, 3, 72] qs) : Ctr Try.prog 20 qs (bv true) [] := by
  obtain ⟨p1, qs, rfl, h1, h⟩ := argsOf_cons h
  obtain ⟨p2, qs, rfl, h2, h⟩ := argsOf_cons h
  obtain ⟨p3, qs, rfl, h3, h⟩ := argsOf_cons h
  obtain ⟨p4, qs, rfl, h4, h⟩ := argsOf_cons h
  obtain rfl := argsOf_nil h
  obtain ⟨l, rfl, _, _⟩ := arg_Pds h1
  obtain ⟨c, rfl, _⟩ := arg_VCall h2
  obtain ⟨i, rfl, _⟩ := arg_i h3
  obtain ⟨x, rfl, _⟩ := arg_Ent h4
  exact l_GateExact l c i x
end Go.Proofs
