import Derived.Test.YtnphfgphajejaaaC16
import Derived.Test.YtnphfgphajejaaaC10
set_option linter.unusedSimpArgs false
set_option linter.unusedVariables false
namespace Go.Proofs
open Go.Pv
set_option maxRecDepth 100000

def upTo {α : Type} (f : α → α) (l : List α) (i : Nat) : List α := (l.take i).map f ++ l.drop i
theorem upTo_at {α : Type} (f : α → α) (e : α → List PV) (l : List α) {i : Nat} (h : i < l.length) : ((upTo f l i).map e)[i]? = some (e (l[i]'h)) := by
  unfold upTo
  rw [List.getElem?_map, List.getElem?_append_right (by simp; omega)]
  simp [Nat.min_eq_left (Nat.le_of_lt h), h]
theorem upTo_succ {α : Type} (f : α → α) (l : List α) {i : Nat} (h : i < l.length) : upTo f l (i + 1) = (upTo f l i).set i (f (l[i]'h)) := by
  unfold upTo
  rw [List.take_succ_eq_append_getElem h, List.map_append, List.append_assoc, List.set_append_right i (f (l[i]'h)) (by simp; omega)]
  rw [List.drop_eq_getElem_cons h]
  simp only [List.length_map, List.length_take, Nat.min_eq_left (Nat.le_of_lt h), Nat.sub_self, List.set_cons_zero, List.map_cons, List.map_nil, List.cons_append, List.nil_append]
def spoilRd (x : Rd) : Rd := { x with acks := -77 }

set_option maxHeartbeats 2000000 in
theorem l_TurnReads (l : List Rd) (frm round : Int) (c : Conf) (applied : Int) : Ctr Try.prog 11 [.sl 13 (l.map Rd.enc), iv frm, iv round, .ag c.enc, iv applied] (bv true) [] := by
  refine spec_of_body mixed Try.func11 rfl (by kernel_rfl) (by kernel_rfl) ?_; conv => whnf
  ((try ((refine Exists.intro none ?_); (conv => whnf))); first | ((with_reducible refine call_by (c_heavy17 l) ?_); conv => whnf))
  ((first | (with_reducible refine split_dec (fun h => ?_) (fun h => ?_)) | (with_reducible refine split_beq (fun h => ?_) (fun h => ?_)) | (with_reducible refine split_bne (fun h => ?_) (fun h => ?_)) | (with_reducible refine split_not (fun h => ?_) (fun h => ?_)) | (with_reducible refine split_beqS (fun h => ?_) (fun h => ?_)) | (with_reducible refine split_intro (fun h => ?_) (fun h => ?_))) <;> conv => whnf)
  · exact exit_plain rfl rfl
  have hlen : l.length ≤ 100 := by simp [heavyRd] at h; omega
  have b1 : l.length ≤ 4294967296 := by omega
  have b2 : l.length ≤ 4294967 := by omega
  ((try ((refine Exists.intro none ?_); (conv => whnf))); first | ((with_reducible refine call_by (c_TwinReads l b1) ?_); conv => whnf))
  (refine Exists.intro _ (And.intro rfl (And.intro (by intro q hq; first | (cases hq; done) | (simp only [List.mem_cons, List.not_mem_nil, or_false] at hq; rcases hq with rfl | rfl <;> (simp only [List.length_cons, List.length_nil]; omega)) | (simp only [List.mem_cons, List.not_mem_nil, or_false] at hq; subst hq; simp only [List.length_cons, List.length_nil]; omega)) (And.intro (by intro i hi; simp only [List.length_cons, List.length_nil, Nat.lt_one_iff, Nat.zero_add] at hi; subst hi; rfl) ?_))); conv => whnf)
  ((try ((refine Exists.intro none ?_); (conv => whnf))); (first | (with_reducible refine And.intro (Nat.le_of_eq (Nat.zero_add _)) ?_) | (refine And.intro (by simp only [List.length_map, List.length_set, Nat.zero_add]; omega) ?_)); conv => whnf)
  ((try ((refine Exists.intro none ?_); (conv => whnf))); first | (refine call_eq (c_Ack l b1 frm round) (by simp only [List.drop_zero, List.take_length]) ?_; conv => whnf))
  (refine Exists.intro _ (And.intro rfl (And.intro (by intro q hq; first | (cases hq; done) | (simp only [List.mem_cons, List.not_mem_nil, or_false] at hq; rcases hq with rfl | rfl <;> (simp only [List.length_cons, List.length_nil]; omega)) | (simp only [List.mem_cons, List.not_mem_nil, or_false] at hq; subst hq; simp only [List.length_cons, List.length_nil]; omega)) (And.intro (by intro i hi; simp only [List.length_cons, List.length_nil, Nat.lt_one_iff, Nat.zero_add] at hi; subst hi; rfl) ?_))); conv => whnf)
  ((try ((refine Exists.intro none ?_); (conv => whnf))); first | ((with_reducible refine call_by (c_rAck l b1 frm round) ?_); conv => whnf))
  (refine Exists.intro _ (And.intro rfl (And.intro (by intro q hq; first | (cases hq; done) | (simp only [List.mem_cons, List.not_mem_nil, or_false] at hq; rcases hq with rfl | rfl <;> (simp only [List.length_cons, List.length_nil]; omega)) | (simp only [List.mem_cons, List.not_mem_nil, or_false] at hq; subst hq; simp only [List.length_cons, List.length_nil]; omega)) (And.intro (by intro i hi; simp only [List.length_cons, List.length_nil, Nat.lt_one_iff, Nat.zero_add] at hi; subst hi; rfl) ?_))); conv => whnf)
  ((try ((refine Exists.intro none ?_); (conv => whnf))); (first | (with_reducible refine And.intro (Nat.le_of_eq (Nat.zero_add _)) ?_) | (refine And.intro (by simp only [List.length_map, List.length_set, Nat.zero_add]; omega) ?_)); conv => whnf)
  ((try ((refine Exists.intro none ?_); (conv => whnf))); (first | (with_reducible refine And.intro (Nat.le_of_eq (Nat.zero_add _)) ?_) | (refine And.intro (by simp only [List.length_map, List.length_set, Nat.zero_add]; omega) ?_)); conv => whnf)
  ((try ((refine Exists.intro none ?_); (conv => whnf))); first | (refine call_eq (s_Reads (l.map (ack1 frm round)) (smallM (by simpa using b1))) (by simp only [List.drop_zero, List.take_length]) ?_; conv => whnf))
  ((try ((refine Exists.intro none ?_); (conv => whnf))); (first | (with_reducible refine And.intro (Nat.le_of_eq (Nat.zero_add _)) ?_) | (refine And.intro (by simp only [List.length_map, List.length_set, Nat.zero_add]; omega) ?_)); conv => whnf)
  ((try ((refine Exists.intro none ?_); (conv => whnf))); first | (refine call_eq (c_Ready l b2 c applied) (by simp only [List.drop_zero, List.take_length]) ?_; conv => whnf))
  (refine Exists.intro _ (And.intro rfl (And.intro (by intro q hq; first | (cases hq; done) | (simp only [List.mem_cons, List.not_mem_nil, or_false] at hq; rcases hq with rfl | rfl <;> (simp only [List.length_cons, List.length_nil]; omega)) | (simp only [List.mem_cons, List.not_mem_nil, or_false] at hq; subst hq; simp only [List.length_cons, List.length_nil]; omega)) (And.intro (by intro i hi; rcases i with _ | _ | i; rfl; rfl; exact absurd hi (by simp)) ?_))); conv => whnf)
  ((try ((refine Exists.intro none ?_); (conv => whnf))); first | (refine call_eq (c_rReady l b2 c applied) (by simp only [List.drop_zero, List.take_length]) ?_; conv => whnf))
  (refine Exists.intro _ (And.intro rfl (And.intro (by intro q hq; first | (cases hq; done) | (simp only [List.mem_cons, List.not_mem_nil, or_false] at hq; rcases hq with rfl | rfl <;> (simp only [List.length_cons, List.length_nil]; omega)) | (simp only [List.mem_cons, List.not_mem_nil, or_false] at hq; subst hq; simp only [List.length_cons, List.length_nil]; omega)) (And.intro (by intro i hi; rcases i with _ | _ | i; rfl; rfl; exact absurd hi (by simp)) ?_))); conv => whnf)
  have hX : (l.filter (rdy c applied)).length ≤ l.length := List.length_filter_le _ _
  have hY : (l.filter fun x => !rdy c applied x).length ≤ l.length := List.length_filter_le _ _
  ((try ((refine Exists.intro none ?_); (conv => whnf))); (first | (with_reducible refine And.intro (Nat.le_of_eq (Nat.zero_add _)) ?_) | (refine And.intro (by simp only [List.length_map, List.length_set, Nat.zero_add]; omega) ?_)); conv => whnf)
  ((try ((refine Exists.intro none ?_); (conv => whnf))); (first | (with_reducible refine And.intro (Nat.le_of_eq (Nat.zero_add _)) ?_) | (refine And.intro (by simp only [List.length_map, List.length_set, Nat.zero_add]; omega) ?_)); conv => whnf)
  ((try ((refine Exists.intro none ?_); (conv => whnf))); first | (refine call_eq (s_Reads (l.filter (rdy c applied)) (smallM (by omega))) (by simp only [List.drop_zero, List.take_length]) ?_; conv => whnf))
  ((try ((refine Exists.intro none ?_); (conv => whnf))); (first | (with_reducible refine And.intro (Nat.le_of_eq (Nat.zero_add _)) ?_) | (refine And.intro (by simp only [List.length_map, List.length_set, Nat.zero_add]; omega) ?_)); conv => whnf)
  ((try ((refine Exists.intro none ?_); (conv => whnf))); (first | (with_reducible refine And.intro (Nat.le_of_eq (Nat.zero_add _)) ?_) | (refine And.intro (by simp only [List.length_map, List.length_set, Nat.zero_add]; omega) ?_)); conv => whnf)
  ((try ((refine Exists.intro none ?_); (conv => whnf))); first | (refine call_eq (s_Reads (l.filter fun x => !rdy c applied x) (smallM (by omega))) (by simp only [List.drop_zero, List.take_length]) ?_; conv => whnf))
  refine tri_forO mixed (by kernel_rfl) (fun i : Nat => i ≤ (l.map (ack1 frm round)).length) (fun i => [(17, iv i)]) (fun _ => [(8, c.enc)]) (fun i => [(352, some (true, 13, l.map Rd.enc)), (416, some (false, 13, (upTo spoilRd (l.map (ack1 frm round)) i).map Rd.enc)), (496, some (false, 13, (l.map (ack1 frm round)).map Rd.enc)), (608, some (false, 13, (l.filter (rdy c applied)).map Rd.enc)), (720, some (false, 13, (l.filter (rdy c applied)).map Rd.enc)), (609, some (false, 13, (l.filter fun x => !rdy c applied x).map Rd.enc)), (721, some (false, 13, (l.filter fun x => !rdy c applied x).map Rd.enc))]) [(352, 352), (416, 416), (496, 496), (608, 608), (609, 609), (720, 720), (721, 721)] (fun i => (l.map (ack1 frm round)).length - i) 0 (Nat.zero_le _) ?_ ?_
  · conv => whnf
    (refine And.intro (And.intro (by with_unfolding_all rfl) (by intro q h; cases h)) ?_; refine And.intro ?_ (And.intro ?_ ?_) <;> (conv => whnf) <;> (repeat' (first | exact True.intro | (with_reducible exact rfl) | exact (rfl : List.replicate 0 PV.bad = []) | ((with_reducible refine And.intro ?_ ?_) <;> (first | (with_reducible exact wkV_same _ rfl) | exact wkV_pt rfl rfl | exact wkV_ow rfl rfl rfl | (refine wkV_ow rfl rfl ?_) | (refine wkV_sc (congrArg (Value.int .i64) ?_)) | (refine wkV_sc (congrArg Value.bool ?_)) | exact wkV_ls rfl | ((refine wkV_cl ?_); conv => whnf) | ((refine wkV_tu ?_); conv => whnf) | ((refine wkV_ag ?_); conv => whnf) | (conv => whnf))))))
    all_goals rfl
  intro i hi
  conv => whnf
  ((first | (with_reducible refine split_dec (fun h => ?_) (fun h => ?_)) | (with_reducible refine split_beq (fun h => ?_) (fun h => ?_)) | (with_reducible refine split_bne (fun h => ?_) (fun h => ?_)) | (with_reducible refine split_not (fun h => ?_) (fun h => ?_)) | (with_reducible refine split_beqS (fun h => ?_) (fun h => ?_)) | (with_reducible refine split_intro (fun h => ?_) (fun h => ?_))) <;> conv => whnf)
  · simp only [List.length_map] at h hi
    have hlt : i < (l.map (ack1 frm round)).length := by (try simp only [List.length_map]); omega
    have hrow : ((upTo spoilRd (l.map (ack1 frm round)) i).map Rd.enc)[0 + ((i : Nat) : Int).toNat]? = some ((l.map (ack1 frm round))[i]'hlt).enc := by
      rw [Nat.zero_add]; exact upTo_at spoilRd Rd.enc (l.map (ack1 frm round)) hlt
    refine ⟨⟨by omega, by (try simp only [List.length_map]); omega⟩, ?_⟩
    conv => whnf
    refine ⟨_, hrow, ?_⟩
    conv => whnf
    refine ⟨i + 1, [(352, 352), (416, 416), (496, 496), (608, 608), (609, 609), (720, 720), (721, 721)], ⟨by (try simp only [List.length_map]); omega, by (try simp only [List.length_map]); omega⟩, ?_⟩
    conv => whnf
    (refine And.intro (And.intro (by with_unfolding_all rfl) (by intro q h; cases h)) ?_; refine And.intro ?_ (And.intro ?_ ?_) <;> (conv => whnf) <;> (repeat' (first | exact True.intro | (with_reducible exact rfl) | exact (rfl : List.replicate 0 PV.bad = []) | ((with_reducible refine And.intro ?_ ?_) <;> (first | (with_reducible exact wkV_same _ rfl) | exact wkV_pt rfl rfl | exact wkV_ow rfl rfl rfl | (refine wkV_ow rfl rfl ?_) | (refine wkV_sc (congrArg (Value.int .i64) ?_)) | (refine wkV_sc (congrArg Value.bool ?_)) | exact wkV_ls rfl | ((refine wkV_cl ?_); conv => whnf) | ((refine wkV_tu ?_); conv => whnf) | ((refine wkV_ag ?_); conv => whnf) | (conv => whnf))))))
    · rw [upTo_succ spoilRd (l.map (ack1 frm round)) hlt, List.map_set, Nat.zero_add, Int.toNat_natCast]; rfl
    · exact w1 (by omega)
  · generalize i = n at *
    refine tri_forO mixed (by kernel_rfl) (fun i : Nat => i ≤ (l.filter (rdy c applied)).length) (fun i => [(18, iv i)]) (fun _ => [(8, c.enc)]) (fun i => [(352, some (true, 13, l.map Rd.enc)), (416, some (false, 13, (upTo spoilRd (l.map (ack1 frm round)) n).map Rd.enc)), (496, some (false, 13, (l.map (ack1 frm round)).map Rd.enc)), (608, some (false, 13, (upTo spoilRd (l.filter (rdy c applied)) i).map Rd.enc)), (720, some (false, 13, (l.filter (rdy c applied)).map Rd.enc)), (609, some (false, 13, (l.filter fun x => !rdy c applied x).map Rd.enc)), (721, some (false, 13, (l.filter fun x => !rdy c applied x).map Rd.enc))]) [(352, 352), (416, 416), (496, 496), (608, 608), (609, 609), (720, 720), (721, 721)] (fun i => (l.filter (rdy c applied)).length - i) 0 (Nat.zero_le _) ?_ ?_
    · conv => whnf
      (refine And.intro (And.intro (by with_unfolding_all rfl) (by intro q h; cases h)) ?_; refine And.intro ?_ (And.intro ?_ ?_) <;> (conv => whnf) <;> (repeat' (first | exact True.intro | (with_reducible exact rfl) | exact (rfl : List.replicate 0 PV.bad = []) | ((with_reducible refine And.intro ?_ ?_) <;> (first | (with_reducible exact wkV_same _ rfl) | exact wkV_pt rfl rfl | exact wkV_ow rfl rfl rfl | (refine wkV_ow rfl rfl ?_) | (refine wkV_sc (congrArg (Value.int .i64) ?_)) | (refine wkV_sc (congrArg Value.bool ?_)) | exact wkV_ls rfl | ((refine wkV_cl ?_); conv => whnf) | ((refine wkV_tu ?_); conv => whnf) | ((refine wkV_ag ?_); conv => whnf) | (conv => whnf))))))
      all_goals rfl
    intro i hi
    conv => whnf
    ((first | (with_reducible refine split_dec (fun h => ?_) (fun h => ?_)) | (with_reducible refine split_beq (fun h => ?_) (fun h => ?_)) | (with_reducible refine split_bne (fun h => ?_) (fun h => ?_)) | (with_reducible refine split_not (fun h => ?_) (fun h => ?_)) | (with_reducible refine split_beqS (fun h => ?_) (fun h => ?_)) | (with_reducible refine split_intro (fun h => ?_) (fun h => ?_))) <;> conv => whnf)
    · simp only [List.length_map] at h hi
      have hlt : i < (l.filter (rdy c applied)).length := by (try simp only [List.length_map]); omega
      have hrow : ((upTo spoilRd (l.filter (rdy c applied)) i).map Rd.enc)[0 + ((i : Nat) : Int).toNat]? = some ((l.filter (rdy c applied))[i]'hlt).enc := by
        rw [Nat.zero_add]; exact upTo_at spoilRd Rd.enc (l.filter (rdy c applied)) hlt
      refine ⟨⟨by omega, by (try simp only [List.length_map]); omega⟩, ?_⟩
      conv => whnf
      refine ⟨_, hrow, ?_⟩
      conv => whnf
      refine ⟨i + 1, [(352, 352), (416, 416), (496, 496), (608, 608), (609, 609), (720, 720), (721, 721)], ⟨by (try simp only [List.length_map]); omega, by (try simp only [List.length_map]); omega⟩, ?_⟩
      conv => whnf
      (refine And.intro (And.intro (by with_unfolding_all rfl) (by intro q h; cases h)) ?_; refine And.intro ?_ (And.intro ?_ ?_) <;> (conv => whnf) <;> (repeat' (first | exact True.intro | (with_reducible exact rfl) | exact (rfl : List.replicate 0 PV.bad = []) | ((with_reducible refine And.intro ?_ ?_) <;> (first | (with_reducible exact wkV_same _ rfl) | exact wkV_pt rfl rfl | exact wkV_ow rfl rfl rfl | (refine wkV_ow rfl rfl ?_) | (refine wkV_sc (congrArg (Value.int .i64) ?_)) | (refine wkV_sc (congrArg Value.bool ?_)) | exact wkV_ls rfl | ((refine wkV_cl ?_); conv => whnf) | ((refine wkV_tu ?_); conv => whnf) | ((refine wkV_ag ?_); conv => whnf) | (conv => whnf))))))
      · rw [upTo_succ spoilRd (l.filter (rdy c applied)) hlt, List.map_set, Nat.zero_add, Int.toNat_natCast]; rfl
      · exact w1 (by omega)
    · ((try ((refine Exists.intro none ?_); (conv => whnf))); (first | (with_reducible refine And.intro (Nat.le_of_eq (Nat.zero_add _)) ?_) | (refine And.intro (by simp only [List.length_map, List.length_set, Nat.zero_add]; omega) ?_)); conv => whnf)
      ((try ((refine Exists.intro none ?_); (conv => whnf))); first | (refine call_eq (s_Reads l (smallM b1)) (by simp only [List.drop_zero, List.take_length]) ?_; conv => whnf))
      ((try ((refine Exists.intro none ?_); (conv => whnf))); (first | (with_reducible refine And.intro (Nat.le_of_eq (Nat.zero_add _)) ?_) | (refine And.intro (by simp only [List.length_map, List.length_set, Nat.zero_add]; omega) ?_)); conv => whnf)
      ((try ((refine Exists.intro none ?_); (conv => whnf))); (first | (with_reducible refine And.intro (Nat.le_of_eq (Nat.zero_add _)) ?_) | (refine And.intro (by simp only [List.length_map, List.length_set, Nat.zero_add]; omega) ?_)); conv => whnf)
      ((try ((refine Exists.intro none ?_); (conv => whnf))); first | (refine call_eq (s_Reads (l.filter fun x => !rdy c applied x) (smallM (by omega))) (by simp only [List.drop_zero, List.take_length]) ?_; conv => whnf))
      ((try ((refine Exists.intro none ?_); (conv => whnf))); first | ((with_reducible refine call_by (c_wakes17) ?_); conv => whnf))
      exact exit_plain rfl rfl

theorem told_TurnReads (qs : List PV) (h : ArgsOf Try.prog [34, 3, 3, 23, 3] qs) : Ctr Try.prog 11 qs (bv true) [] := by
  obtain ⟨p1, qs, rfl, h1, h⟩ := argsOf_cons h
  obtain ⟨p2, qs, rfl, h2, h⟩ := argsOf_cons h
  obtain ⟨p3, qs, rfl, h3, h⟩ := argsOf_cons h
  obtain ⟨p4, qs, rfl, h4, h⟩ := argsOf_cons h
  obtain ⟨p5, qs, rfl, h5, h⟩ := argsOf_cons h
  obtain rfl := argsOf_nil h
  obtain ⟨l, rfl, _⟩ := arg_Rds h1
  obtain ⟨a, rfl, _⟩ := arg_i h2
  obtain ⟨b, rfl, _⟩ := arg_i h3
  obtain ⟨c, rfl, _⟩ := arg_Conf h4
  obtain ⟨d, rfl, _⟩ := arg_i h5
  exact l_TurnReads l a b c d
end Go.Proofs
