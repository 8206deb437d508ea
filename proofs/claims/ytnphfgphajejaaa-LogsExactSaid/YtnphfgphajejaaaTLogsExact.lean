import Derived.Test.YtnphfgphajejaaaC53
import Derived.Test.YtnphfgphajejaaaTLogsPuts
set_option linter.unusedSimpArgs false
set_option linter.unusedVariables false
namespace Go.Proofs
open Go.Pv
set_option maxRecDepth 100000

theorem s_HardN : Ctr Try.prog 119 [.ag hzv, .ag hzv] (bv true) [] := by
  have := s_Hard ⟨0, 0, 0, 0, ⟨0, 0, 0, 0⟩, [], []⟩ (by simp) (by simp)
  refine this.deep ?_
  repeat' (first | exact subVL_nil | refine subVL_cons ?_ ?_ | exact SubV.refl _ | exact subV_nl | refine subV_ag ?_)
theorem s_Hard0 (u v i t : Int) (c : Conf) (s : List Int) (hs : s.length ≤ maxLen) : Ctr Try.prog 119 [.ag [iv u, iv v, iv i, iv t, iv c.full, iv c.wit, iv c.learn, iv c.lwit, .sl 1 (s.map encB), .nl], .ag (⟨u, v, i, t, c, s, []⟩ : Hrd).enc] (bv true) [] := by
  have := s_Hard ⟨u, v, i, t, c, s, []⟩ hs (by simp)
  refine this.deep ?_
  repeat' (first | exact subVL_nil | refine subVL_cons ?_ ?_ | exact SubV.refl _ | exact subV_nl | refine subV_ag ?_)
theorem s_HardB (c : Conf) : Ctr Try.prog 119 [.ag (beginV c), .ag (beginV c)] (bv true) [] := by
  have := s_Hard ⟨0, -1, 0, 0, c, [], []⟩ (by simp) (by simp)
  refine this.deep ?_
  repeat' (first | exact subVL_nil | refine subVL_cons ?_ ?_ | exact SubV.refl _ | exact subV_nl | refine subV_ag ?_)

set_option maxHeartbeats 8000000 in
theorem l_LogsExact (a : Hrd) (hbI : isI a.base) (c : Conf) (i : Int) (hi : isI i) (t : Int) (l : List Ent) (s : List Int) : Ctr Try.prog 33 [.ag a.enc, .ag c.enc, iv i, iv t, .sl 16 (l.map Ent.enc), .sl 1 (s.map encB)] (bv true) [] := by
  refine spec_of_body mixed Try.func33 rfl (by kernel_rfl) (by kernel_rfl) ?_; conv => whnf
  ((try ((refine Exists.intro none ?_); (conv => whnf))); first | ((with_reducible refine call_by (c_Heavy09 a) ?_); conv => whnf))
  ((first | (with_reducible refine split_dec (fun h => ?_) (fun h => ?_)) | (with_reducible refine split_beq (fun h => ?_) (fun h => ?_)) | (with_reducible refine split_bne (fun h => ?_) (fun h => ?_)) | (with_reducible refine split_not (fun h => ?_) (fun h => ?_)) | (with_reducible refine split_beqS (fun h => ?_) (fun h => ?_)) | (with_reducible refine split_intro (fun h => ?_) (fun h => ?_))) <;> conv => whnf)
  · exact exit_plain rfl rfl
  obtain ⟨hal, has⟩ := heavyH_len h
  clear h
  ((try ((refine Exists.intro none ?_); (conv => whnf))); first | ((with_reducible refine call_by (c_HeavyEntries l) ?_); conv => whnf))
  ((first | (with_reducible refine split_dec (fun h => ?_) (fun h => ?_)) | (with_reducible refine split_beq (fun h => ?_) (fun h => ?_)) | (with_reducible refine split_bne (fun h => ?_) (fun h => ?_)) | (with_reducible refine split_not (fun h => ?_) (fun h => ?_)) | (with_reducible refine split_beqS (fun h => ?_) (fun h => ?_)) | (with_reducible refine split_intro (fun h => ?_) (fun h => ?_))) <;> conv => whnf)
  · exact exit_plain rfl rfl
  have hll := heavyEs_len h
  clear h
  ((first | (with_reducible refine split_dec (fun h => ?_) (fun h => ?_)) | (with_reducible refine split_beq (fun h => ?_) (fun h => ?_)) | (with_reducible refine split_bne (fun h => ?_) (fun h => ?_)) | (with_reducible refine split_not (fun h => ?_) (fun h => ?_)) | (with_reducible refine split_beqS (fun h => ?_) (fun h => ?_)) | (with_reducible refine split_intro (fun h => ?_) (fun h => ?_))) <;> conv => whnf)
  · exact exit_plain rfl rfl
  have hsl : s.length ≤ 32768 := by simp only [List.length_map] at h; omega
  clear h
  have b0 := c_Begin c
  have b1 := c_rConf c
  have t1 := c_TwinHardV a (by omega) (by omega)
  have t2 := (c_TwinEntries l (by omega)).frz (wkV_fz (b := false) (List.Mem.head _) rfl)
  have t3 := (c_Twin s (by omega)).frz (wkV_fz (b := false) (List.Mem.head _) rfl)
  cases hC : confB c
  all_goals (rw [hC] at b0 b1)
  all_goals (
    ((try ((refine Exists.intro none ?_); (conv => whnf))); first | ((with_reducible refine call_by (b0) ?_); conv => whnf))
    ((try ((refine Exists.intro none ?_); (conv => whnf))); first | ((with_reducible refine call_by (b1) ?_); conv => whnf))
    ((with_reducible refine And.intro (show Try.prog.underlying _ = some .bool by kernel_rfl) ?_); conv => whnf))
  all_goals first
    | (((try ((refine Exists.intro none ?_); (conv => whnf))); first | ((with_reducible refine call_by (s_HardN) ?_); conv => whnf)))
    | (((try ((refine Exists.intro none ?_); (conv => whnf))); first | ((with_reducible refine call_by (c_rBegin c) ?_); conv => whnf))
       ((try ((refine Exists.intro none ?_); (conv => whnf))); first | ((with_reducible refine call_by (s_HardB c) ?_); conv => whnf)))
  all_goals (
    ((try ((refine Exists.intro none ?_); (conv => whnf))); first | ((with_reducible refine call_by (t1) ?_); conv => whnf))
    (refine Exists.intro _ (And.intro rfl (And.intro (by intro q _; simp only [List.length_nil]; omega) (And.intro (by intro i hi; exact absurd hi (Nat.not_lt_zero i)) ?_))); conv => whnf)
    ((try ((refine Exists.intro none ?_); (conv => whnf))); first | ((with_reducible refine call_by (t2) ?_); conv => whnf))
    (refine Exists.intro _ (And.intro rfl (And.intro (by intro q _; simp only [List.length_nil]; omega) (And.intro (by intro i hi; exact absurd hi (Nat.not_lt_zero i)) ?_))); conv => whnf)
    ((try ((refine Exists.intro none ?_); (conv => whnf))); first | ((with_reducible refine call_by (t3) ?_); conv => whnf))
    (refine Exists.intro _ (And.intro rfl (And.intro (by intro q _; simp only [List.length_nil]; omega) (And.intro (by intro i hi; exact absurd hi (Nat.not_lt_zero i)) ?_))); conv => whnf)
    refine tri_for0 mixed (by kernel_rfl) (fun k : Nat => k ≤ 3) (fun k => [(18, iv k)]) [] (fun k => 3 - k) 0 (Nat.zero_le _) ?_ ?_
    · conv => whnf
      (refine And.intro (And.intro (by with_unfolding_all rfl) (by intro q h; cases h)) ?_; refine And.intro ?_ (And.intro ?_ ?_) <;> (conv => whnf) <;> (repeat' (first | exact True.intro | (with_reducible exact rfl) | exact (rfl : List.replicate 0 PV.bad = []) | ((with_reducible refine And.intro ?_ ?_) <;> (first | (with_reducible exact wkV_same _ rfl) | exact wkV_pt rfl rfl | exact wkV_ow rfl rfl rfl | (refine wkV_ow rfl rfl ?_) | (refine wkV_sc (congrArg (Value.int .i64) ?_)) | (refine wkV_sc (congrArg Value.bool ?_)) | exact wkV_ls rfl | ((refine wkV_cl ?_); conv => whnf) | ((refine wkV_tu ?_); conv => whnf) | ((refine wkV_ag ?_); conv => whnf) | (conv => whnf))))))
      all_goals rfl
    intro k hk
    conv => whnf
    ((first | (with_reducible refine split_dec (fun h => ?_) (fun h => ?_)) | (with_reducible refine split_beq (fun h => ?_) (fun h => ?_)) | (with_reducible refine split_bne (fun h => ?_) (fun h => ?_)) | (with_reducible refine split_not (fun h => ?_) (fun h => ?_)) | (with_reducible refine split_beqS (fun h => ?_) (fun h => ?_)) | (with_reducible refine split_intro (fun h => ?_) (fun h => ?_))) <;> conv => whnf)
    · ((first | (with_reducible refine split_dec (fun h => ?_) (fun h => ?_)) | (with_reducible refine split_beq (fun h => ?_) (fun h => ?_)) | (with_reducible refine split_bne (fun h => ?_) (fun h => ?_)) | (with_reducible refine split_not (fun h => ?_) (fun h => ?_)) | (with_reducible refine split_beqS (fun h => ?_) (fun h => ?_)) | (with_reducible refine split_intro (fun h => ?_) (fun h => ?_))) <;> conv => whnf)
      · by_cases he : putHE a i l = 0
        · have k1 := c_lPut a (by omega) (by omega) hbI i hi l (by omega)
          have k2 := c_rPutW a (by omega) (by omega) hbI i hi l (by omega)
          rw [(res_ok he).1, (res_ok he).2.1] at k1
          rw [(res_ok he).2.2] at k2
          obtain ⟨n, ko⟩ := putOk he (by omega)
          have hxl : (putH a i l).log.length ≤ 400 := by
            rw [ko.log]
            have := putG_le a.log l ko.le
            show (putG a.log n l).length ≤ 400
            omega
          have hxs : (putH a i l).snap.length ≤ 32768 := has
          generalize putH a i l = x at *
          have ks := s_Hard x (smallM (by omega)) (smallM (by omega))
          have ksp := c_SpoilHard x (by omega) (by omega)
          ((try ((refine Exists.intro none ?_); (conv => whnf))); first | ((with_reducible refine call_by (k1) ?_); conv => whnf))
          (refine Exists.intro _ (And.intro rfl (And.intro (by intro q hq; first | (cases hq; done) | (simp only [List.mem_cons, List.not_mem_nil, or_false] at hq; rcases hq with rfl | rfl <;> (simp only [List.length_cons, List.length_nil]; omega)) | (simp only [List.mem_cons, List.not_mem_nil, or_false] at hq; subst hq; simp only [List.length_cons, List.length_nil]; omega)) (And.intro (by intro i hi; rcases i with _ | _ | i; rfl; rfl; exact absurd hi (by simp)) ?_))); conv => whnf)
          ((try ((refine Exists.intro none ?_); (conv => whnf))); first | ((with_reducible refine call_by (k2) ?_); conv => whnf))
          (refine Exists.intro _ (And.intro rfl (And.intro (by intro q _; simp only [List.length_nil]; omega) (And.intro (by intro i hi; exact absurd hi (Nat.not_lt_zero i)) ?_))); conv => whnf)
          ((try ((refine Exists.intro none ?_); (conv => whnf))); (first | (with_reducible refine And.intro (Nat.le_of_eq (Nat.zero_add _)) ?_) | (refine And.intro (by simp only [List.length_map, List.length_set, Nat.zero_add]; omega) ?_)); conv => whnf)
          ((try ((refine Exists.intro none ?_); (conv => whnf))); (first | (with_reducible refine And.intro (Nat.le_of_eq (Nat.zero_add _)) ?_) | (refine And.intro (by simp only [List.length_map, List.length_set, Nat.zero_add]; omega) ?_)); conv => whnf)
          ((try ((refine Exists.intro none ?_); (conv => whnf))); first | (refine call_eq (ks) (by simp only [List.drop_zero, List.take_length]) ?_; conv => whnf))
          ((refine Exists.intro (some ([], [(1000000, 1648), (1000001, 1649)], [])) ?_); (conv => whnf); first | ((with_reducible refine callE_by (ksp) ?_); conv => whnf))
          refine ⟨k + 1, ⟨by omega, by omega⟩, ?_⟩
          conv => whnf
          (refine And.intro (And.intro (by with_unfolding_all rfl) (by intro q h; cases h)) ?_; refine And.intro ?_ (And.intro ?_ ?_) <;> (conv => whnf) <;> (repeat' (first | exact True.intro | (with_reducible exact rfl) | exact (rfl : List.replicate 0 PV.bad = []) | ((with_reducible refine And.intro ?_ ?_) <;> (first | (with_reducible exact wkV_same _ rfl) | exact wkV_pt rfl rfl | exact wkV_ow rfl rfl rfl | (refine wkV_ow rfl rfl ?_) | (refine wkV_sc (congrArg (Value.int .i64) ?_)) | (refine wkV_sc (congrArg Value.bool ?_)) | exact wkV_ls rfl | ((refine wkV_cl ?_); conv => whnf) | ((refine wkV_tu ?_); conv => whnf) | ((refine wkV_ag ?_); conv => whnf) | (conv => whnf))))))
          all_goals first | exact w1 (by omega) | rfl
        · have k1 := c_lPut a (by omega) (by omega) hbI i hi l (by omega)
          have k2 := c_rPutW a (by omega) (by omega) hbI i hi l (by omega)
          rw [(res_no he).1, (res_no he).2.1] at k1
          rw [(res_no he).2.2] at k2
          ((try ((refine Exists.intro none ?_); (conv => whnf))); first | ((with_reducible refine call_by (k1) ?_); conv => whnf))
          ((try ((refine Exists.intro none ?_); (conv => whnf))); first | ((with_reducible refine call_by (k2) ?_); conv => whnf))
          ((try ((refine Exists.intro none ?_); (conv => whnf))); first | ((with_reducible refine call_by (s_HardN) ?_); conv => whnf))
          ((first | (with_reducible refine split_et rfl ?_) | (with_reducible refine split_bf rfl ?_) | (with_reducible refine split_t (beq_self_eq_true _) ?_) | (with_reducible refine split_f (bne_self_eq_false _) ?_)); conv => whnf)
          ((try ((refine Exists.intro none ?_); (conv => whnf))); first | ((with_reducible refine call_by (c_SpoilNone) ?_); conv => whnf))
          refine ⟨k + 1, ⟨by omega, by omega⟩, ?_⟩
          conv => whnf
          (refine And.intro (And.intro (by with_unfolding_all rfl) (by intro q h; cases h)) ?_; refine And.intro ?_ (And.intro ?_ ?_) <;> (conv => whnf) <;> (repeat' (first | exact True.intro | (with_reducible exact rfl) | exact (rfl : List.replicate 0 PV.bad = []) | ((with_reducible refine And.intro ?_ ?_) <;> (first | (with_reducible exact wkV_same _ rfl) | exact wkV_pt rfl rfl | exact wkV_ow rfl rfl rfl | (refine wkV_ow rfl rfl ?_) | (refine wkV_sc (congrArg (Value.int .i64) ?_)) | (refine wkV_sc (congrArg Value.bool ?_)) | exact wkV_ls rfl | ((refine wkV_cl ?_); conv => whnf) | ((refine wkV_tu ?_); conv => whnf) | ((refine wkV_ag ?_); conv => whnf) | (conv => whnf))))))
          all_goals first | exact w1 (by omega) | rfl
      ((first | (with_reducible refine split_dec (fun h => ?_) (fun h => ?_)) | (with_reducible refine split_beq (fun h => ?_) (fun h => ?_)) | (with_reducible refine split_bne (fun h => ?_) (fun h => ?_)) | (with_reducible refine split_not (fun h => ?_) (fun h => ?_)) | (with_reducible refine split_beqS (fun h => ?_) (fun h => ?_)) | (with_reducible refine split_intro (fun h => ?_) (fun h => ?_))) <;> conv => whnf)
      · by_cases he : compE a i s = 0
        · have k1 := c_Compact a (by omega) hbI i hi s (by omega)
          have k2 := c_rCompactW a (by omega) hbI i hi s (by omega)
          rw [(res_ok he).1, (res_ok he).2.1] at k1
          rw [(res_ok he).2.2] at k2
          have hxl : (compH a i s).log.length ≤ 400 := by
            show (a.log.drop _).length ≤ 400
            rw [List.length_drop]; omega
          have hxs : (compH a i s).snap.length ≤ 32768 := hsl
          generalize compH a i s = x at *
          have ks := s_Hard x (smallM (by omega)) (smallM (by omega))
          have ksp := c_SpoilHard x (by omega) (by omega)
          ((try ((refine Exists.intro none ?_); (conv => whnf))); first | ((with_reducible refine call_by (k1) ?_); conv => whnf))
          (refine Exists.intro _ (And.intro rfl (And.intro (by intro q hq; first | (cases hq; done) | (simp only [List.mem_cons, List.not_mem_nil, or_false] at hq; rcases hq with rfl | rfl <;> (simp only [List.length_cons, List.length_nil]; omega)) | (simp only [List.mem_cons, List.not_mem_nil, or_false] at hq; subst hq; simp only [List.length_cons, List.length_nil]; omega)) (And.intro (by intro i hi; rcases i with _ | _ | i; rfl; rfl; exact absurd hi (by simp)) ?_))); conv => whnf)
          ((try ((refine Exists.intro none ?_); (conv => whnf))); first | ((with_reducible refine call_by (k2) ?_); conv => whnf))
          (refine Exists.intro _ (And.intro rfl (And.intro (by intro q _; simp only [List.length_nil]; omega) (And.intro (by intro i hi; exact absurd hi (Nat.not_lt_zero i)) ?_))); conv => whnf)
          ((try ((refine Exists.intro none ?_); (conv => whnf))); (first | (with_reducible refine And.intro (Nat.le_of_eq (Nat.zero_add _)) ?_) | (refine And.intro (by simp only [List.length_map, List.length_set, Nat.zero_add]; omega) ?_)); conv => whnf)
          ((try ((refine Exists.intro none ?_); (conv => whnf))); (first | (with_reducible refine And.intro (Nat.le_of_eq (Nat.zero_add _)) ?_) | (refine And.intro (by simp only [List.length_map, List.length_set, Nat.zero_add]; omega) ?_)); conv => whnf)
          ((try ((refine Exists.intro none ?_); (conv => whnf))); first | (refine call_eq (ks) (by simp only [List.drop_zero, List.take_length]) ?_; conv => whnf))
          ((refine Exists.intro (some ([], [(1000000, 1904), (1000001, 1905)], [])) ?_); (conv => whnf); first | ((with_reducible refine callE_by (ksp) ?_); conv => whnf))
          refine ⟨k + 1, ⟨by omega, by omega⟩, ?_⟩
          conv => whnf
          (refine And.intro (And.intro (by with_unfolding_all rfl) (by intro q h; cases h)) ?_; refine And.intro ?_ (And.intro ?_ ?_) <;> (conv => whnf) <;> (repeat' (first | exact True.intro | (with_reducible exact rfl) | exact (rfl : List.replicate 0 PV.bad = []) | ((with_reducible refine And.intro ?_ ?_) <;> (first | (with_reducible exact wkV_same _ rfl) | exact wkV_pt rfl rfl | exact wkV_ow rfl rfl rfl | (refine wkV_ow rfl rfl ?_) | (refine wkV_sc (congrArg (Value.int .i64) ?_)) | (refine wkV_sc (congrArg Value.bool ?_)) | exact wkV_ls rfl | ((refine wkV_cl ?_); conv => whnf) | ((refine wkV_tu ?_); conv => whnf) | ((refine wkV_ag ?_); conv => whnf) | (conv => whnf))))))
          all_goals first | exact w1 (by omega) | rfl
        · have k1 := c_Compact a (by omega) hbI i hi s (by omega)
          have k2 := c_rCompactW a (by omega) hbI i hi s (by omega)
          rw [(res_no he).1, (res_no he).2.1] at k1
          rw [(res_no he).2.2] at k2
          ((try ((refine Exists.intro none ?_); (conv => whnf))); first | ((with_reducible refine call_by (k1) ?_); conv => whnf))
          ((try ((refine Exists.intro none ?_); (conv => whnf))); first | ((with_reducible refine call_by (k2) ?_); conv => whnf))
          ((try ((refine Exists.intro none ?_); (conv => whnf))); first | ((with_reducible refine call_by (s_HardN) ?_); conv => whnf))
          ((first | (with_reducible refine split_et rfl ?_) | (with_reducible refine split_bf rfl ?_) | (with_reducible refine split_t (beq_self_eq_true _) ?_) | (with_reducible refine split_f (bne_self_eq_false _) ?_)); conv => whnf)
          ((try ((refine Exists.intro none ?_); (conv => whnf))); first | ((with_reducible refine call_by (c_SpoilNone) ?_); conv => whnf))
          refine ⟨k + 1, ⟨by omega, by omega⟩, ?_⟩
          conv => whnf
          (refine And.intro (And.intro (by with_unfolding_all rfl) (by intro q h; cases h)) ?_; refine And.intro ?_ (And.intro ?_ ?_) <;> (conv => whnf) <;> (repeat' (first | exact True.intro | (with_reducible exact rfl) | exact (rfl : List.replicate 0 PV.bad = []) | ((with_reducible refine And.intro ?_ ?_) <;> (first | (with_reducible exact wkV_same _ rfl) | exact wkV_pt rfl rfl | exact wkV_ow rfl rfl rfl | (refine wkV_ow rfl rfl ?_) | (refine wkV_sc (congrArg (Value.int .i64) ?_)) | (refine wkV_sc (congrArg Value.bool ?_)) | exact wkV_ls rfl | ((refine wkV_cl ?_); conv => whnf) | ((refine wkV_tu ?_); conv => whnf) | ((refine wkV_ag ?_); conv => whnf) | (conv => whnf))))))
          all_goals first | exact w1 (by omega) | rfl
      · by_cases he : instE a i t c s = 0
        · have k1 := c_Install a (by omega) hbI i hi t c s (by omega)
          have k2 := c_rInstallW a (by omega) hbI i hi t c s (by omega)
          rw [if_pos he] at k1
          rw [(res_ok he).2.2] at k2
          cases hf : fits a i t with
          | true =>
            rw [if_pos hf] at k1
            have hxl : (instH a i t c s).log.length ≤ 400 := by
              unfold instH
              rw [if_pos hf]
              show (a.log.drop _).length ≤ 400
              rw [List.length_drop]; omega
            have hxs : (instH a i t c s).snap.length ≤ 32768 := hsl
            generalize instH a i t c s = x at *
            have ks := s_Hard x (smallM (by omega)) (smallM (by omega))
            have ksp := c_SpoilHard x (by omega) (by omega)
            ((try ((refine Exists.intro none ?_); (conv => whnf))); first | ((with_reducible refine call_by (k1) ?_); conv => whnf))
            (refine Exists.intro _ (And.intro rfl (And.intro (by intro q hq; first | (cases hq; done) | (simp only [List.mem_cons, List.not_mem_nil, or_false] at hq; rcases hq with rfl | rfl <;> (simp only [List.length_cons, List.length_nil]; omega)) | (simp only [List.mem_cons, List.not_mem_nil, or_false] at hq; subst hq; simp only [List.length_cons, List.length_nil]; omega)) (And.intro (by intro i hi; rcases i with _ | _ | i; rfl; rfl; exact absurd hi (by simp)) ?_))); conv => whnf)
            ((try ((refine Exists.intro none ?_); (conv => whnf))); first | ((with_reducible refine call_by (k2) ?_); conv => whnf))
            (refine Exists.intro _ (And.intro rfl (And.intro (by intro q _; simp only [List.length_nil]; omega) (And.intro (by intro i hi; exact absurd hi (Nat.not_lt_zero i)) ?_))); conv => whnf)
            ((try ((refine Exists.intro none ?_); (conv => whnf))); (first | (with_reducible refine And.intro (Nat.le_of_eq (Nat.zero_add _)) ?_) | (refine And.intro (by simp only [List.length_map, List.length_set, Nat.zero_add]; omega) ?_)); conv => whnf)
            ((try ((refine Exists.intro none ?_); (conv => whnf))); (first | (with_reducible refine And.intro (Nat.le_of_eq (Nat.zero_add _)) ?_) | (refine And.intro (by simp only [List.length_map, List.length_set, Nat.zero_add]; omega) ?_)); conv => whnf)
            ((try ((refine Exists.intro none ?_); (conv => whnf))); first | (refine call_eq (ks) (by simp only [List.drop_zero, List.take_length]) ?_; conv => whnf))
            ((refine Exists.intro (some ([], [(1000000, 1360), (1000001, 1361)], [])) ?_); (conv => whnf); first | ((with_reducible refine callE_by (ksp) ?_); conv => whnf))
            refine ⟨k + 1, ⟨by omega, by omega⟩, ?_⟩
            conv => whnf
            (refine And.intro (And.intro (by with_unfolding_all rfl) (by intro q h; cases h)) ?_; refine And.intro ?_ (And.intro ?_ ?_) <;> (conv => whnf) <;> (repeat' (first | exact True.intro | (with_reducible exact rfl) | exact (rfl : List.replicate 0 PV.bad = []) | ((with_reducible refine And.intro ?_ ?_) <;> (first | (with_reducible exact wkV_same _ rfl) | exact wkV_pt rfl rfl | exact wkV_ow rfl rfl rfl | (refine wkV_ow rfl rfl ?_) | (refine wkV_sc (congrArg (Value.int .i64) ?_)) | (refine wkV_sc (congrArg Value.bool ?_)) | exact wkV_ls rfl | ((refine wkV_cl ?_); conv => whnf) | ((refine wkV_tu ?_); conv => whnf) | ((refine wkV_ag ?_); conv => whnf) | (conv => whnf))))))
            all_goals first | exact w1 (by omega) | rfl
          | false =>
            rw [if_neg (by rw [hf]; decide)] at k1
            have hx : instH a i t c s = ⟨a.term, a.vote, i, t, c, s, []⟩ := by unfold instH; rw [hf, if_neg (by decide)]
            rw [hx] at k1 k2
            have ks := s_Hard0 a.term a.vote i t c s (smallM (by omega))
            have ksp := c_SpoilSnap ⟨a.term, a.vote, i, t, c, s, []⟩ (show s.length ≤ 4294967296 by omega)
            ((try ((refine Exists.intro none ?_); (conv => whnf))); first | ((with_reducible refine call_by (k1) ?_); conv => whnf))
            (refine Exists.intro _ (And.intro rfl (And.intro (by intro q hq; first | (cases hq; done) | (simp only [List.mem_cons, List.not_mem_nil, or_false] at hq; rcases hq with rfl | rfl <;> (simp only [List.length_cons, List.length_nil]; omega)) | (simp only [List.mem_cons, List.not_mem_nil, or_false] at hq; subst hq; simp only [List.length_cons, List.length_nil]; omega)) (And.intro (by intro i hi; simp only [List.length_cons, List.length_nil, Nat.lt_one_iff, Nat.zero_add] at hi; subst hi; rfl) ?_))); conv => whnf)
            ((try ((refine Exists.intro none ?_); (conv => whnf))); first | ((with_reducible refine call_by (k2) ?_); conv => whnf))
            (refine Exists.intro _ (And.intro rfl (And.intro (by intro q _; simp only [List.length_nil]; omega) (And.intro (by intro i hi; exact absurd hi (Nat.not_lt_zero i)) ?_))); conv => whnf)
            ((try ((refine Exists.intro none ?_); (conv => whnf))); (first | (with_reducible refine And.intro (Nat.le_of_eq (Nat.zero_add _)) ?_) | (refine And.intro (by simp only [List.length_map, List.length_set, Nat.zero_add]; omega) ?_)); conv => whnf)
            ((try ((refine Exists.intro none ?_); (conv => whnf))); first | (refine call_eq (ks) (by simp only [List.drop_zero, List.take_length]) ?_; conv => whnf))
            ((refine Exists.intro (some ([], [(1000000, 1360)], [])) ?_); (conv => whnf); first | ((with_reducible refine callE_by (ksp) ?_); conv => whnf))
            refine ⟨k + 1, ⟨by omega, by omega⟩, ?_⟩
            conv => whnf
            (refine And.intro (And.intro (by with_unfolding_all rfl) (by intro q h; cases h)) ?_; refine And.intro ?_ (And.intro ?_ ?_) <;> (conv => whnf) <;> (repeat' (first | exact True.intro | (with_reducible exact rfl) | exact (rfl : List.replicate 0 PV.bad = []) | ((with_reducible refine And.intro ?_ ?_) <;> (first | (with_reducible exact wkV_same _ rfl) | exact wkV_pt rfl rfl | exact wkV_ow rfl rfl rfl | (refine wkV_ow rfl rfl ?_) | (refine wkV_sc (congrArg (Value.int .i64) ?_)) | (refine wkV_sc (congrArg Value.bool ?_)) | exact wkV_ls rfl | ((refine wkV_cl ?_); conv => whnf) | ((refine wkV_tu ?_); conv => whnf) | ((refine wkV_ag ?_); conv => whnf) | (conv => whnf))))))
            all_goals first | exact w1 (by omega) | rfl
        · have k1 := c_Install a (by omega) hbI i hi t c s (by omega)
          have k2 := c_rInstallW a (by omega) hbI i hi t c s (by omega)
          rw [if_neg he] at k1
          rw [(res_no he).2.2] at k2
          ((try ((refine Exists.intro none ?_); (conv => whnf))); first | ((with_reducible refine call_by (k1) ?_); conv => whnf))
          ((try ((refine Exists.intro none ?_); (conv => whnf))); first | ((with_reducible refine call_by (k2) ?_); conv => whnf))
          ((try ((refine Exists.intro none ?_); (conv => whnf))); first | ((with_reducible refine call_by (s_HardN) ?_); conv => whnf))
          ((first | (with_reducible refine split_et rfl ?_) | (with_reducible refine split_bf rfl ?_) | (with_reducible refine split_t (beq_self_eq_true _) ?_) | (with_reducible refine split_f (bne_self_eq_false _) ?_)); conv => whnf)
          ((try ((refine Exists.intro none ?_); (conv => whnf))); first | ((with_reducible refine call_by (c_SpoilNone) ?_); conv => whnf))
          refine ⟨k + 1, ⟨by omega, by omega⟩, ?_⟩
          conv => whnf
          (refine And.intro (And.intro (by with_unfolding_all rfl) (by intro q h; cases h)) ?_; refine And.intro ?_ (And.intro ?_ ?_) <;> (conv => whnf) <;> (repeat' (first | exact True.intro | (with_reducible exact rfl) | exact (rfl : List.replicate 0 PV.bad = []) | ((with_reducible refine And.intro ?_ ?_) <;> (first | (with_reducible exact wkV_same _ rfl) | exact wkV_pt rfl rfl | exact wkV_ow rfl rfl rfl | (refine wkV_ow rfl rfl ?_) | (refine wkV_sc (congrArg (Value.int .i64) ?_)) | (refine wkV_sc (congrArg Value.bool ?_)) | exact wkV_ls rfl | ((refine wkV_cl ?_); conv => whnf) | ((refine wkV_tu ?_); conv => whnf) | ((refine wkV_ag ?_); conv => whnf) | (conv => whnf))))))
          all_goals first | exact w1 (by omega) | rfl
    · ((try ((refine Exists.intro none ?_); (conv => whnf))); first | ((with_reducible refine call_by (s_Hard a (smallM (by omega)) (smallM (by omega))) ?_); conv => whnf))
      ((try ((refine Exists.intro none ?_); (conv => whnf))); first | ((with_reducible refine call_by (s_Entries l (smallM (by omega))) ?_); conv => whnf))
      ((try ((refine Exists.intro none ?_); (conv => whnf))); first | ((with_reducible refine call_by (s_Bytes s (smallM (by omega))) ?_); conv => whnf))
      ((try ((refine Exists.intro none ?_); (conv => whnf))); first | ((with_reducible refine call_by (c_wakes09) ?_); conv => whnf))
      exact exit_plain rfl rfl)

theorem told_LogsExact (qs : List PV) (h : ArgsOf Try.prog [32, 23, 3, 3, 30, 29] qs) : Ctr Try.prog 33 qs (bv true) [] := by
  obtain ⟨p1, qs, rfl, h1, h⟩ := argsOf_cons h
  obtain ⟨p2, qs, rfl, h2, h⟩ := argsOf_cons h
  obtain ⟨p3, qs, rfl, h3, h⟩ := argsOf_cons h
  obtain ⟨p4, qs, rfl, h4, h⟩ := argsOf_cons h
  obtain ⟨p5, qs, rfl, h5, h⟩ := argsOf_cons h
  obtain ⟨p6, qs, rfl, h6, h⟩ := argsOf_cons h
  obtain rfl := argsOf_nil h
  obtain ⟨a, rfl, ha⟩ := arg_Hrd h1
  obtain ⟨c, rfl, _⟩ := arg_Conf h2
  obtain ⟨i, rfl, hi⟩ := arg_i h3
  obtain ⟨t, rfl, _⟩ := arg_i h4
  obtain ⟨l, rfl, _⟩ := arg_Ents h5
  obtain ⟨s, rfl, _⟩ := arg_bytes h6
  exact l_LogsExact a ha.2.2.1 c i hi t l s
end Go.Proofs
