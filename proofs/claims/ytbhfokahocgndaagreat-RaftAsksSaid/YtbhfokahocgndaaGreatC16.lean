/- Contracts of functions: which questions are ready. -/
import Derived.Test.YtbhfokahocgndaaGreatC13
set_option linter.unusedSimpArgs false
set_option linter.unusedVariables false
namespace Go.Proofs
open Go.Pv
set_option maxRecDepth 100000

noncomputable def rdy (c : Conf) (applied : Int) (x : Rd) : Bool := quorum c x.acks && decide (x.index ≤ applied)
noncomputable def rdyL (l : List Rd) (c : Conf) (applied : Int) (i : Nat) : List Rd := (l.take i).filter (rdy c applied)
noncomputable def lftL (l : List Rd) (c : Conf) (applied : Int) (i : Nat) : List Rd := (l.take i).filter fun x => !rdy c applied x

theorem rdyL_succ {l : List Rd} {c : Conf} {applied : Int} {i : Nat} (h : i < l.length) : rdyL l c applied (i + 1) = rdyL l c applied i ++ if rdy c applied (l[i]'h) then [l[i]'h] else [] := by
  unfold rdyL
  rw [List.take_succ_eq_append_getElem h, List.filter_append]
  congr 1
  cases hr : rdy c applied (l[i]'h) <;> simp [hr]
theorem lftL_succ {l : List Rd} {c : Conf} {applied : Int} {i : Nat} (h : i < l.length) : lftL l c applied (i + 1) = lftL l c applied i ++ if rdy c applied (l[i]'h) then [] else [l[i]'h] := by
  unfold lftL
  rw [List.take_succ_eq_append_getElem h, List.filter_append]
  congr 1
  cases hr : rdy c applied (l[i]'h) <;> simp [hr]
theorem rdyL_len (l : List Rd) (c : Conf) (applied : Int) (i : Nat) : (rdyL l c applied i).length ≤ l.length := by
  unfold rdyL
  exact Nat.le_trans (List.length_filter_le _ _) (by simp; omega)
theorem lftL_len (l : List Rd) (c : Conf) (applied : Int) (i : Nat) : (lftL l c applied i).length ≤ l.length := by
  unfold lftL
  exact Nat.le_trans (List.length_filter_le _ _) (by simp; omega)

set_option maxHeartbeats 1000000 in
theorem c_Ready (l : List Rd) (hl : l.length ≤ 4294967) (c : Conf) (applied : Int) : Ctr Tryz.prog 60 [.sl 13 (l.map Rd.enc), .ag c.enc, iv applied] (.tu [.ow 0 0 ((l.filter (rdy c applied)).map Rd.enc).length, .ow 1 0 ((l.filter fun x => !rdy c applied x).map Rd.enc).length]) [(13, (l.filter (rdy c applied)).map Rd.enc), (13, (l.filter fun x => !rdy c applied x).map Rd.enc)] := by
  refine spec_of_body mixed Tryz.func60 rfl (by kernel_rfl) (by kernel_rfl) ?_; conv => whnf
  refine tri_nil 6 1000 13 rfl rfl ?_
  conv => whnf
  refine tri_nil 7 1001 13 rfl rfl ?_
  conv => whnf
  refine tri_forO mixed (by kernel_rfl) (fun i : Nat => i ≤ l.length) (fun i => [(12, iv i), (6, .ow 1000 0 (rdyL l c applied i).length), (7, .ow 1001 0 (lftL l c applied i).length)]) (fun _ => [(4, c.enc)]) (fun i => [(1000, some (false, 13, (rdyL l c applied i).map Rd.enc)), (1001, some (false, 13, (lftL l c applied i).map Rd.enc))]) [(1000, 1000), (1001, 1001)] (fun i => l.length - i) 0 (Nat.zero_le _) ?_ ?_
  · conv => whnf
    (refine And.intro (And.intro (by with_unfolding_all rfl) (by intro q h; cases h)) ?_; refine And.intro ?_ (And.intro ?_ ?_) <;> (conv => whnf) <;> (repeat' (first | exact True.intro | (with_reducible exact rfl) | exact (rfl : List.replicate 0 PV.bad = []) | ((with_reducible refine And.intro ?_ ?_) <;> (first | (with_reducible exact wkV_same _ rfl) | exact wkV_pt rfl rfl | exact wkV_ow rfl rfl rfl | (refine wkV_ow rfl rfl ?_) | (refine wkV_sc (congrArg (Value.int .i64) ?_)) | (refine wkV_sc (congrArg Value.bool ?_)) | exact wkV_ls rfl | ((refine wkV_cl ?_); conv => whnf) | ((refine wkV_tu ?_); conv => whnf) | ((refine wkV_ag ?_); conv => whnf) | (conv => whnf))))))
    all_goals rfl
  intro i hi
  conv => whnf
  ((first | (with_reducible refine split_dec (fun h => ?_) (fun h => ?_)) | (with_reducible refine split_beq (fun h => ?_) (fun h => ?_)) | (with_reducible refine split_bne (fun h => ?_) (fun h => ?_)) | (with_reducible refine split_not (fun h => ?_) (fun h => ?_)) | (with_reducible refine split_beqS (fun h => ?_) (fun h => ?_)) | (with_reducible refine split_intro (fun h => ?_) (fun h => ?_))) <;> conv => whnf)
  · simp only [List.length_map] at h
    have hlt : i < l.length := by omega
    have hr1 := rdyL_succ (c := c) (applied := applied) hlt
    have hr2 := lftL_succ (c := c) (applied := applied) hlt
    have n1 := rdyL_len l c applied i
    have n2 := lftL_len l c applied i
    refine ⟨by omega, _, row_at hlt, ?_⟩
    conv => whnf
    ((try ((refine Exists.intro none ?_); (conv => whnf))); first | ((with_reducible refine call_by (c_Quorum c _) ?_); conv => whnf))
    ((first | (with_reducible refine split_dec (fun h => ?_) (fun h => ?_)) | (with_reducible refine split_beq (fun h => ?_) (fun h => ?_)) | (with_reducible refine split_bne (fun h => ?_) (fun h => ?_)) | (with_reducible refine split_not (fun h => ?_) (fun h => ?_)) | (with_reducible refine split_beqS (fun h => ?_) (fun h => ?_)) | (with_reducible refine split_intro (fun h => ?_) (fun h => ?_))) <;> conv => whnf)
    · have h1 := h
      ((first | (with_reducible refine split_dec (fun h => ?_) (fun h => ?_)) | (with_reducible refine split_beq (fun h => ?_) (fun h => ?_)) | (with_reducible refine split_bne (fun h => ?_) (fun h => ?_)) | (with_reducible refine split_not (fun h => ?_) (fun h => ?_)) | (with_reducible refine split_beqS (fun h => ?_) (fun h => ?_)) | (with_reducible refine split_intro (fun h => ?_) (fun h => ?_))) <;> conv => whnf)
      · have e : rdy c applied (l[i]'hlt) = true := by simp [rdy, h1, h]
        rw [e, if_pos rfl] at hr1
        rw [e, if_pos rfl, List.append_nil] at hr2
        (refine And.intro rfl ?_; (conv => whnf); refine And.intro (And.intro (And.intro (by kernel_rfl) (And.intro (by simp) (And.intro (small (by simp only [List.length_cons, List.length_nil]; omega) (by kernel_rfl)) (And.intro (smallM (by simp only [List.length_cons, List.length_nil]; omega)) (by intro r hr; rw [List.mem_singleton.1 hr]; rfl))))) (And.intro (by decide) rfl)) ?_; conv => whnf)
        refine ⟨i + 1, [(1000, 464), (1001, 1001)], ⟨by omega, by omega⟩, ?_⟩
        rw [hr1, hr2]
        conv => whnf
        (refine And.intro (And.intro (by with_unfolding_all rfl) (by intro q h; cases h)) ?_; refine And.intro ?_ (And.intro ?_ ?_) <;> (conv => whnf) <;> (repeat' (first | exact True.intro | (with_reducible exact rfl) | exact (rfl : List.replicate 0 PV.bad = []) | ((with_reducible refine And.intro ?_ ?_) <;> (first | (with_reducible exact wkV_same _ rfl) | exact wkV_pt rfl rfl | exact wkV_ow rfl rfl rfl | (refine wkV_ow rfl rfl ?_) | (refine wkV_sc (congrArg (Value.int .i64) ?_)) | (refine wkV_sc (congrArg Value.bool ?_)) | exact wkV_ls rfl | ((refine wkV_cl ?_); conv => whnf) | ((refine wkV_tu ?_); conv => whnf) | ((refine wkV_ag ?_); conv => whnf) | (conv => whnf))))))
        all_goals first | exact w1 (by omega) | (rw [List.take_of_length_le (by simp), List.map_append]; rfl) | (simp; done) | rfl
      · have e : rdy c applied (l[i]'hlt) = false := by simp [rdy, h]
        rw [e, if_neg (by simp)] at hr2
        rw [e, if_neg (by simp), List.append_nil] at hr1
        (refine And.intro rfl ?_; (conv => whnf); refine And.intro (And.intro (And.intro (by kernel_rfl) (And.intro (by simp) (And.intro (small (by simp only [List.length_cons, List.length_nil]; omega) (by kernel_rfl)) (And.intro (smallM (by simp only [List.length_cons, List.length_nil]; omega)) (by intro r hr; rw [List.mem_singleton.1 hr]; rfl))))) (And.intro (by decide) rfl)) ?_; conv => whnf)
        refine ⟨i + 1, [(1000, 1000), (1001, 528)], ⟨by omega, by omega⟩, ?_⟩
        rw [hr1, hr2]
        conv => whnf
        (refine And.intro (And.intro (by with_unfolding_all rfl) (by intro q h; cases h)) ?_; refine And.intro ?_ (And.intro ?_ ?_) <;> (conv => whnf) <;> (repeat' (first | exact True.intro | (with_reducible exact rfl) | exact (rfl : List.replicate 0 PV.bad = []) | ((with_reducible refine And.intro ?_ ?_) <;> (first | (with_reducible exact wkV_same _ rfl) | exact wkV_pt rfl rfl | exact wkV_ow rfl rfl rfl | (refine wkV_ow rfl rfl ?_) | (refine wkV_sc (congrArg (Value.int .i64) ?_)) | (refine wkV_sc (congrArg Value.bool ?_)) | exact wkV_ls rfl | ((refine wkV_cl ?_); conv => whnf) | ((refine wkV_tu ?_); conv => whnf) | ((refine wkV_ag ?_); conv => whnf) | (conv => whnf))))))
        all_goals first | exact w1 (by omega) | (rw [List.take_of_length_le (by simp), List.map_append]; rfl) | (simp; done) | rfl
    · have e : rdy c applied (l[i]'hlt) = false := by simp [rdy, h]
      rw [e, if_neg (by simp)] at hr2
      rw [e, if_neg (by simp), List.append_nil] at hr1
      (refine And.intro rfl ?_; (conv => whnf); refine And.intro (And.intro (And.intro (by kernel_rfl) (And.intro (by simp) (And.intro (small (by simp only [List.length_cons, List.length_nil]; omega) (by kernel_rfl)) (And.intro (smallM (by simp only [List.length_cons, List.length_nil]; omega)) (by intro r hr; rw [List.mem_singleton.1 hr]; rfl))))) (And.intro (by decide) rfl)) ?_; conv => whnf)
      refine ⟨i + 1, [(1000, 1000), (1001, 528)], ⟨by omega, by omega⟩, ?_⟩
      rw [hr1, hr2]
      conv => whnf
      (refine And.intro (And.intro (by with_unfolding_all rfl) (by intro q h; cases h)) ?_; refine And.intro ?_ (And.intro ?_ ?_) <;> (conv => whnf) <;> (repeat' (first | exact True.intro | (with_reducible exact rfl) | exact (rfl : List.replicate 0 PV.bad = []) | ((with_reducible refine And.intro ?_ ?_) <;> (first | (with_reducible exact wkV_same _ rfl) | exact wkV_pt rfl rfl | exact wkV_ow rfl rfl rfl | (refine wkV_ow rfl rfl ?_) | (refine wkV_sc (congrArg (Value.int .i64) ?_)) | (refine wkV_sc (congrArg Value.bool ?_)) | exact wkV_ls rfl | ((refine wkV_cl ?_); conv => whnf) | ((refine wkV_tu ?_); conv => whnf) | ((refine wkV_ag ?_); conv => whnf) | (conv => whnf))))))
      all_goals first | exact w1 (by omega) | (rw [List.take_of_length_le (by simp), List.map_append]; rfl) | (simp; done) | rfl
  · simp only [List.length_map] at h
    have : i = l.length := by omega
    subst this
    have e1 : rdyL l c applied l.length = l.filter (rdy c applied) := by simp [rdyL]
    have e2 : lftL l c applied l.length = l.filter fun x => !rdy c applied x := by simp [lftL]
    rw [← e1, ← e2]
    refine exit_own [(0, 1000), (1, 1001)] rfl ⟨rfl, rfl, True.intro⟩ (wkV_tu ?_)
    exact ⟨wkV_ow rfl rfl (by simp), wkV_ow rfl rfl (by simp), rfl⟩
set_option maxHeartbeats 1000000 in
theorem c_rReady (l : List Rd) (hl : l.length ≤ 4294967) (c : Conf) (applied : Int) : Ctr Tryz.prog 17 [.sl 13 (l.map Rd.enc), .ag c.enc, iv applied] (.tu [.ow 0 0 ((l.filter (rdy c applied)).map Rd.enc).length, .ow 1 0 ((l.filter fun x => !rdy c applied x).map Rd.enc).length]) [(13, (l.filter (rdy c applied)).map Rd.enc), (13, (l.filter fun x => !rdy c applied x).map Rd.enc)] := by
  refine spec_of_body mixed Tryz.func17 rfl (by kernel_rfl) (by kernel_rfl) ?_; conv => whnf
  refine tri_nil 8 1000 13 rfl rfl ?_
  conv => whnf
  refine tri_nil 9 1001 13 rfl rfl ?_
  conv => whnf
  refine tri_forO mixed (by kernel_rfl) (fun i : Nat => i ≤ l.length) (fun i => [(10, iv i), (8, .ow 1000 0 (rdyL l c applied i).length), (9, .ow 1001 0 (lftL l c applied i).length)]) (fun _ => [(4, c.enc)]) (fun i => [(1000, some (false, 13, (rdyL l c applied i).map Rd.enc)), (1001, some (false, 13, (lftL l c applied i).map Rd.enc))]) [(1000, 1000), (1001, 1001)] (fun i => l.length - i) 0 (Nat.zero_le _) ?_ ?_
  · conv => whnf
    (refine And.intro (And.intro (by with_unfolding_all rfl) (by intro q h; cases h)) ?_; refine And.intro ?_ (And.intro ?_ ?_) <;> (conv => whnf) <;> (repeat' (first | exact True.intro | (with_reducible exact rfl) | exact (rfl : List.replicate 0 PV.bad = []) | ((with_reducible refine And.intro ?_ ?_) <;> (first | (with_reducible exact wkV_same _ rfl) | exact wkV_pt rfl rfl | exact wkV_ow rfl rfl rfl | (refine wkV_ow rfl rfl ?_) | (refine wkV_sc (congrArg (Value.int .i64) ?_)) | (refine wkV_sc (congrArg Value.bool ?_)) | exact wkV_ls rfl | ((refine wkV_cl ?_); conv => whnf) | ((refine wkV_tu ?_); conv => whnf) | ((refine wkV_ag ?_); conv => whnf) | (conv => whnf))))))
    all_goals rfl
  intro i hi
  conv => whnf
  ((first | (with_reducible refine split_dec (fun h => ?_) (fun h => ?_)) | (with_reducible refine split_beq (fun h => ?_) (fun h => ?_)) | (with_reducible refine split_bne (fun h => ?_) (fun h => ?_)) | (with_reducible refine split_not (fun h => ?_) (fun h => ?_)) | (with_reducible refine split_beqS (fun h => ?_) (fun h => ?_)) | (with_reducible refine split_intro (fun h => ?_) (fun h => ?_))) <;> conv => whnf)
  · simp only [List.length_map] at h
    have hlt : i < l.length := by omega
    have hr1 := rdyL_succ (c := c) (applied := applied) hlt
    have hr2 := lftL_succ (c := c) (applied := applied) hlt
    have n1 := rdyL_len l c applied i
    have n2 := lftL_len l c applied i
    refine ⟨by omega, _, row_at hlt, ?_⟩
    conv => whnf
    ((first | (with_reducible refine split_dec (fun h => ?_) (fun h => ?_)) | (with_reducible refine split_beq (fun h => ?_) (fun h => ?_)) | (with_reducible refine split_bne (fun h => ?_) (fun h => ?_)) | (with_reducible refine split_not (fun h => ?_) (fun h => ?_)) | (with_reducible refine split_beqS (fun h => ?_) (fun h => ?_)) | (with_reducible refine split_intro (fun h => ?_) (fun h => ?_))) <;> conv => whnf)
    · have h1 := h
      refine ⟨by omega, _, row_at hlt, ?_⟩
      conv => whnf
      ((try ((refine Exists.intro none ?_); (conv => whnf))); first | ((with_reducible refine call_by (c_rQuorum c _) ?_); conv => whnf))
      ((first | (with_reducible refine split_dec (fun h => ?_) (fun h => ?_)) | (with_reducible refine split_beq (fun h => ?_) (fun h => ?_)) | (with_reducible refine split_bne (fun h => ?_) (fun h => ?_)) | (with_reducible refine split_not (fun h => ?_) (fun h => ?_)) | (with_reducible refine split_beqS (fun h => ?_) (fun h => ?_)) | (with_reducible refine split_intro (fun h => ?_) (fun h => ?_))) <;> conv => whnf)
      · have e : rdy c applied (l[i]'hlt) = true := by simp [rdy, h1, h]
        rw [e, if_pos rfl] at hr1
        rw [e, if_pos rfl, List.append_nil] at hr2
        refine ⟨by omega, _, row_at hlt, ?_⟩
        conv => whnf
        (refine And.intro rfl ?_; (conv => whnf); refine And.intro (And.intro (And.intro (by kernel_rfl) (And.intro (by simp) (And.intro (small (by simp only [List.length_cons, List.length_nil]; omega) (by kernel_rfl)) (And.intro (smallM (by simp only [List.length_cons, List.length_nil]; omega)) (by intro r hr; rw [List.mem_singleton.1 hr]; rfl))))) (And.intro (by decide) rfl)) ?_; conv => whnf)
        refine ⟨i + 1, [(1000, 624), (1001, 1001)], ⟨by omega, by omega⟩, ?_⟩
        rw [hr1, hr2]
        conv => whnf
        (refine And.intro (And.intro (by with_unfolding_all rfl) (by intro q h; cases h)) ?_; refine And.intro ?_ (And.intro ?_ ?_) <;> (conv => whnf) <;> (repeat' (first | exact True.intro | (with_reducible exact rfl) | exact (rfl : List.replicate 0 PV.bad = []) | ((with_reducible refine And.intro ?_ ?_) <;> (first | (with_reducible exact wkV_same _ rfl) | exact wkV_pt rfl rfl | exact wkV_ow rfl rfl rfl | (refine wkV_ow rfl rfl ?_) | (refine wkV_sc (congrArg (Value.int .i64) ?_)) | (refine wkV_sc (congrArg Value.bool ?_)) | exact wkV_ls rfl | ((refine wkV_cl ?_); conv => whnf) | ((refine wkV_tu ?_); conv => whnf) | ((refine wkV_ag ?_); conv => whnf) | (conv => whnf))))))
        all_goals first | exact w1 (by omega) | (rw [List.take_of_length_le (by simp), List.map_append]; rfl) | (simp; done) | rfl
      · have e : rdy c applied (l[i]'hlt) = false := by simp [rdy, h]
        rw [e, if_neg (by simp)] at hr2
        rw [e, if_neg (by simp), List.append_nil] at hr1
        refine ⟨by omega, _, row_at hlt, ?_⟩
        conv => whnf
        (refine And.intro rfl ?_; (conv => whnf); refine And.intro (And.intro (And.intro (by kernel_rfl) (And.intro (by simp) (And.intro (small (by simp only [List.length_cons, List.length_nil]; omega) (by kernel_rfl)) (And.intro (smallM (by simp only [List.length_cons, List.length_nil]; omega)) (by intro r hr; rw [List.mem_singleton.1 hr]; rfl))))) (And.intro (by decide) rfl)) ?_; conv => whnf)
        refine ⟨i + 1, [(1000, 1000), (1001, 736)], ⟨by omega, by omega⟩, ?_⟩
        rw [hr1, hr2]
        conv => whnf
        (refine And.intro (And.intro (by with_unfolding_all rfl) (by intro q h; cases h)) ?_; refine And.intro ?_ (And.intro ?_ ?_) <;> (conv => whnf) <;> (repeat' (first | exact True.intro | (with_reducible exact rfl) | exact (rfl : List.replicate 0 PV.bad = []) | ((with_reducible refine And.intro ?_ ?_) <;> (first | (with_reducible exact wkV_same _ rfl) | exact wkV_pt rfl rfl | exact wkV_ow rfl rfl rfl | (refine wkV_ow rfl rfl ?_) | (refine wkV_sc (congrArg (Value.int .i64) ?_)) | (refine wkV_sc (congrArg Value.bool ?_)) | exact wkV_ls rfl | ((refine wkV_cl ?_); conv => whnf) | ((refine wkV_tu ?_); conv => whnf) | ((refine wkV_ag ?_); conv => whnf) | (conv => whnf))))))
        all_goals first | exact w1 (by omega) | (rw [List.take_of_length_le (by simp), List.map_append]; rfl) | (simp; done) | rfl
    · have e : rdy c applied (l[i]'hlt) = false := by simp [rdy, h]
      rw [e, if_neg (by simp)] at hr2
      rw [e, if_neg (by simp), List.append_nil] at hr1
      refine ⟨by omega, _, row_at hlt, ?_⟩
      conv => whnf
      (refine And.intro rfl ?_; (conv => whnf); refine And.intro (And.intro (And.intro (by kernel_rfl) (And.intro (by simp) (And.intro (small (by simp only [List.length_cons, List.length_nil]; omega) (by kernel_rfl)) (And.intro (smallM (by simp only [List.length_cons, List.length_nil]; omega)) (by intro r hr; rw [List.mem_singleton.1 hr]; rfl))))) (And.intro (by decide) rfl)) ?_; conv => whnf)
      refine ⟨i + 1, [(1000, 1000), (1001, 736)], ⟨by omega, by omega⟩, ?_⟩
      rw [hr1, hr2]
      conv => whnf
      (refine And.intro (And.intro (by with_unfolding_all rfl) (by intro q h; cases h)) ?_; refine And.intro ?_ (And.intro ?_ ?_) <;> (conv => whnf) <;> (repeat' (first | exact True.intro | (with_reducible exact rfl) | exact (rfl : List.replicate 0 PV.bad = []) | ((with_reducible refine And.intro ?_ ?_) <;> (first | (with_reducible exact wkV_same _ rfl) | exact wkV_pt rfl rfl | exact wkV_ow rfl rfl rfl | (refine wkV_ow rfl rfl ?_) | (refine wkV_sc (congrArg (Value.int .i64) ?_)) | (refine wkV_sc (congrArg Value.bool ?_)) | exact wkV_ls rfl | ((refine wkV_cl ?_); conv => whnf) | ((refine wkV_tu ?_); conv => whnf) | ((refine wkV_ag ?_); conv => whnf) | (conv => whnf))))))
      all_goals first | exact w1 (by omega) | (rw [List.take_of_length_le (by simp), List.map_append]; rfl) | (simp; done) | rfl
  · simp only [List.length_map] at h
    have : i = l.length := by omega
    subst this
    have e1 : rdyL l c applied l.length = l.filter (rdy c applied) := by simp [rdyL]
    have e2 : lftL l c applied l.length = l.filter fun x => !rdy c applied x := by simp [lftL]
    rw [← e1, ← e2]
    refine exit_own [(0, 1000), (1, 1001)] rfl ⟨rfl, rfl, True.intro⟩ (wkV_tu ?_)
    exact ⟨wkV_ow rfl rfl (by simp), wkV_ow rfl rfl (by simp), rfl⟩

def heavyRd (l : List Rd) : Bool := decide (100 < (l.length : Int)) || l.any fun x => heavyCmd x.call.cmd
end Go.Proofs
