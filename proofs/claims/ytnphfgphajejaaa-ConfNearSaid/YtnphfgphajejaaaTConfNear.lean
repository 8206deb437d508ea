import Derived.Test.YtnphfgphajejaaaC19
namespace Go.Proofs
open Go.Pv
set_option maxRecDepth 100000

theorem near_of {a b : Conf} {n k : Nat} (hn : n < 7) (ha : Cok a) (hb : Cok b) (h : hitS (stp a n k) b = true) : nearR a b = true := by
  simp only [nearR, (confB_iff a).2 ha, (confB_iff b).2 hb, Bool.true_and, Bool.or_eq_true, List.any_eq_true]
  refine .inr ⟨n, List.mem_range.2 hn, ?_⟩
  unfold stp at h
  unfold nearI
  split at h <;> simp [h]

set_option maxHeartbeats 2000000 in
theorem l_ConfNear (a : Conf) (i kind : Int) (wit : Bool) : Ctr Try.prog 18 [.ag a.enc, iv i, iv kind, bv wit] (bv true) [] := by
  have hz := c_kConf cz cz
  rw [decide_eq_true rfl] at hz
  refine spec_of_body mixed Try.func18 rfl (by kernel_rfl) (by kernel_rfl) ?_; conv => whnf
  ((with_reducible refine And.intro (And.intro (by first | decide | omega) (by first | decide | omega)) ?_); conv => whnf)
  ((first | (with_reducible refine split_dec (fun h => ?_) (fun h => ?_)) | (with_reducible refine split_beq (fun h => ?_) (fun h => ?_)) | (with_reducible refine split_bne (fun h => ?_) (fun h => ?_)) | (with_reducible refine split_not (fun h => ?_) (fun h => ?_)) | (with_reducible refine split_beqS (fun h => ?_) (fun h => ?_)) | (with_reducible refine split_intro (fun h => ?_) (fun h => ?_))) <;> conv => whnf)
  · ((refine Exists.intro none ?_); (conv => whnf); first | ((with_reducible refine call_by (c_Learn a i wit) ?_); conv => whnf))
    cases wit
    · skip
      cases hp : learnR a i false with
      | mk x e =>
      have herr : e ≠ 0 → x = cz := fun he => by have := learn_err (w := false) (a := a) (i := i) (by rw [hp]; exact he); rw [hp] at this; exact this
      conv => whnf
      ((first | (with_reducible refine split_dec (fun h => ?_) (fun h => ?_)) | (with_reducible refine split_beq (fun h => ?_) (fun h => ?_)) | (with_reducible refine split_bne (fun h => ?_) (fun h => ?_)) | (with_reducible refine split_not (fun h => ?_) (fun h => ?_)) | (with_reducible refine split_beqS (fun h => ?_) (fun h => ?_)) | (with_reducible refine split_intro (fun h => ?_) (fun h => ?_))) <;> conv => whnf)
      · obtain rfl := herr h
        ((refine Exists.intro none ?_); (conv => whnf); first | ((with_reducible refine call_by (hz) ?_); conv => whnf))
        ((refine Exists.intro none ?_); (conv => whnf); first | ((with_reducible refine call_by (c_wakes08) ?_); conv => whnf))
        exact exit_plain rfl rfl
      · subst h
        have hs : hitS (stp a i 0) x = true := by
          show hitS (learnR a i false) x = true
          rw [hp]; simp [hitS]
        obtain ⟨n, rfl, hn, hA, hX, hb⟩ := step_inv hs
        have hnear : nearR a x = true := near_of hn hA hX hs
        have hkind := step_kind hn hs
        have hne : ¬ a = x := fun e => hkind (by rw [e])
        have hv : ∀ j, j ≠ n → tb (voters a) j = tb (voters x) j := fun j hj => by
          obtain ⟨h1, h2, _, _⟩ := hb j hj
          rw [tb_or, tb_or, h1, h2]
        have hd := cnt_diff hv 7
        have c1 := count_le (bandn (voters a) (voters x))
        have c2 := count_le (bandn (voters x) (voters a))
        have hle : w64 (count (bandn (voters a) (voters x)) + count (bandn (voters x) (voters a))) ≤ 1 := by
          rw [show w64 (count (bandn (voters a) (voters x)) + count (bandn (voters x) (voters a))) = _ from wrap_id (by omega) (by omega)]
          rcases nb_cases (decide (n < 7)) with e | e <;> rw [e] at hd <;> unfold count <;> omega
        have k1 := c_Check a; rw [(confB_iff a).2 hA] at k1
        have k2 := c_Check x; rw [(confB_iff x).2 hX] at k2
        have k3 := c_Near a x; rw [hnear] at k3
        have k4 := c_kConf a x; rw [decide_eq_false hne] at k4
        repeat' (first | ((refine Exists.intro none ?_); (conv => whnf); first | ((with_reducible refine call_by (k1) ?_); conv => whnf) | ((with_reducible refine call_by (k2) ?_); conv => whnf) | ((with_reducible refine call_by (k3) ?_); conv => whnf) | ((with_reducible refine call_by (k4) ?_); conv => whnf) | ((with_reducible refine call_by (c_Voters a) ?_); conv => whnf) | ((with_reducible refine call_by (c_Voters x) ?_); conv => whnf) | ((with_reducible refine call_by (c_Count _) ?_); conv => whnf) | ((with_reducible refine call_by (c_Kind0 a _) ?_); conv => whnf) | ((with_reducible refine call_by (c_Kind0 x _) ?_); conv => whnf) | ((with_reducible refine call_by (c_wakes08) ?_); conv => whnf)) | ((first | (first | (with_reducible refine split_dt (by assumption) ?_) | (with_reducible refine split_df (by assumption) ?_) | (with_reducible refine split_et (by assumption) ?_) | (with_reducible refine split_ef (by assumption) ?_) | (with_reducible refine split_bt (by assumption) ?_) | (with_reducible refine split_bf (by assumption) ?_) | (with_reducible refine split_nt (by assumption) ?_) | (with_reducible refine split_nf (by assumption) ?_) | (with_reducible refine split_t (by assumption) ?_) | (with_reducible refine split_f (by assumption) ?_)) | (first | (with_reducible refine split_dec (fun h => ?_) (fun h => ?_)) | (with_reducible refine split_beq (fun h => ?_) (fun h => ?_)) | (with_reducible refine split_bne (fun h => ?_) (fun h => ?_)) | (with_reducible refine split_not (fun h => ?_) (fun h => ?_)) | (with_reducible refine split_beqS (fun h => ?_) (fun h => ?_)) | (with_reducible refine split_intro (fun h => ?_) (fun h => ?_)))) <;> conv => whnf))
        all_goals (refine exit_plain rfl ?_)
        all_goals first | rfl | skip
        all_goals exfalso
        all_goals first | (exact h hle) | (simp_all)
    · skip
      cases hp : learnR a i true with
      | mk x e =>
      have herr : e ≠ 0 → x = cz := fun he => by have := learn_err (w := true) (a := a) (i := i) (by rw [hp]; exact he); rw [hp] at this; exact this
      conv => whnf
      ((first | (with_reducible refine split_dec (fun h => ?_) (fun h => ?_)) | (with_reducible refine split_beq (fun h => ?_) (fun h => ?_)) | (with_reducible refine split_bne (fun h => ?_) (fun h => ?_)) | (with_reducible refine split_not (fun h => ?_) (fun h => ?_)) | (with_reducible refine split_beqS (fun h => ?_) (fun h => ?_)) | (with_reducible refine split_intro (fun h => ?_) (fun h => ?_))) <;> conv => whnf)
      · obtain rfl := herr h
        ((refine Exists.intro none ?_); (conv => whnf); first | ((with_reducible refine call_by (hz) ?_); conv => whnf))
        ((refine Exists.intro none ?_); (conv => whnf); first | ((with_reducible refine call_by (c_wakes08) ?_); conv => whnf))
        exact exit_plain rfl rfl
      · subst h
        have hs : hitS (stp a i 1) x = true := by
          show hitS (learnR a i true) x = true
          rw [hp]; simp [hitS]
        obtain ⟨n, rfl, hn, hA, hX, hb⟩ := step_inv hs
        have hnear : nearR a x = true := near_of hn hA hX hs
        have hkind := step_kind hn hs
        have hne : ¬ a = x := fun e => hkind (by rw [e])
        have hv : ∀ j, j ≠ n → tb (voters a) j = tb (voters x) j := fun j hj => by
          obtain ⟨h1, h2, _, _⟩ := hb j hj
          rw [tb_or, tb_or, h1, h2]
        have hd := cnt_diff hv 7
        have c1 := count_le (bandn (voters a) (voters x))
        have c2 := count_le (bandn (voters x) (voters a))
        have hle : w64 (count (bandn (voters a) (voters x)) + count (bandn (voters x) (voters a))) ≤ 1 := by
          rw [show w64 (count (bandn (voters a) (voters x)) + count (bandn (voters x) (voters a))) = _ from wrap_id (by omega) (by omega)]
          rcases nb_cases (decide (n < 7)) with e | e <;> rw [e] at hd <;> unfold count <;> omega
        have k1 := c_Check a; rw [(confB_iff a).2 hA] at k1
        have k2 := c_Check x; rw [(confB_iff x).2 hX] at k2
        have k3 := c_Near a x; rw [hnear] at k3
        have k4 := c_kConf a x; rw [decide_eq_false hne] at k4
        repeat' (first | ((refine Exists.intro none ?_); (conv => whnf); first | ((with_reducible refine call_by (k1) ?_); conv => whnf) | ((with_reducible refine call_by (k2) ?_); conv => whnf) | ((with_reducible refine call_by (k3) ?_); conv => whnf) | ((with_reducible refine call_by (k4) ?_); conv => whnf) | ((with_reducible refine call_by (c_Voters a) ?_); conv => whnf) | ((with_reducible refine call_by (c_Voters x) ?_); conv => whnf) | ((with_reducible refine call_by (c_Count _) ?_); conv => whnf) | ((with_reducible refine call_by (c_Kind0 a _) ?_); conv => whnf) | ((with_reducible refine call_by (c_Kind0 x _) ?_); conv => whnf) | ((with_reducible refine call_by (c_wakes08) ?_); conv => whnf)) | ((first | (first | (with_reducible refine split_dt (by assumption) ?_) | (with_reducible refine split_df (by assumption) ?_) | (with_reducible refine split_et (by assumption) ?_) | (with_reducible refine split_ef (by assumption) ?_) | (with_reducible refine split_bt (by assumption) ?_) | (with_reducible refine split_bf (by assumption) ?_) | (with_reducible refine split_nt (by assumption) ?_) | (with_reducible refine split_nf (by assumption) ?_) | (with_reducible refine split_t (by assumption) ?_) | (with_reducible refine split_f (by assumption) ?_)) | (first | (with_reducible refine split_dec (fun h => ?_) (fun h => ?_)) | (with_reducible refine split_beq (fun h => ?_) (fun h => ?_)) | (with_reducible refine split_bne (fun h => ?_) (fun h => ?_)) | (with_reducible refine split_not (fun h => ?_) (fun h => ?_)) | (with_reducible refine split_beqS (fun h => ?_) (fun h => ?_)) | (with_reducible refine split_intro (fun h => ?_) (fun h => ?_)))) <;> conv => whnf))
        all_goals (refine exit_plain rfl ?_)
        all_goals first | rfl | skip
        all_goals exfalso
        all_goals first | (exact h hle) | (simp_all)
  · ((first | (with_reducible refine split_dec (fun h => ?_) (fun h => ?_)) | (with_reducible refine split_beq (fun h => ?_) (fun h => ?_)) | (with_reducible refine split_bne (fun h => ?_) (fun h => ?_)) | (with_reducible refine split_not (fun h => ?_) (fun h => ?_)) | (with_reducible refine split_beqS (fun h => ?_) (fun h => ?_)) | (with_reducible refine split_intro (fun h => ?_) (fun h => ?_))) <;> conv => whnf)
    · ((refine Exists.intro none ?_); (conv => whnf); first | ((with_reducible refine call_by (c_Promote a i) ?_); conv => whnf))
      cases hp : promoteR a i with
      | mk x e =>
      have herr : e ≠ 0 → x = cz := fun he => by have := promote_err (a := a) (i := i) (by rw [hp]; exact he); rw [hp] at this; exact this
      conv => whnf
      ((first | (with_reducible refine split_dec (fun h => ?_) (fun h => ?_)) | (with_reducible refine split_beq (fun h => ?_) (fun h => ?_)) | (with_reducible refine split_bne (fun h => ?_) (fun h => ?_)) | (with_reducible refine split_not (fun h => ?_) (fun h => ?_)) | (with_reducible refine split_beqS (fun h => ?_) (fun h => ?_)) | (with_reducible refine split_intro (fun h => ?_) (fun h => ?_))) <;> conv => whnf)
      · obtain rfl := herr h
        ((refine Exists.intro none ?_); (conv => whnf); first | ((with_reducible refine call_by (hz) ?_); conv => whnf))
        ((refine Exists.intro none ?_); (conv => whnf); first | ((with_reducible refine call_by (c_wakes08) ?_); conv => whnf))
        exact exit_plain rfl rfl
      · subst h
        have hs : hitS (stp a i 2) x = true := by
          show hitS (promoteR a i) x = true
          rw [hp]; simp [hitS]
        obtain ⟨n, rfl, hn, hA, hX, hb⟩ := step_inv hs
        have hnear : nearR a x = true := near_of hn hA hX hs
        have hkind := step_kind hn hs
        have hne : ¬ a = x := fun e => hkind (by rw [e])
        have hv : ∀ j, j ≠ n → tb (voters a) j = tb (voters x) j := fun j hj => by
          obtain ⟨h1, h2, _, _⟩ := hb j hj
          rw [tb_or, tb_or, h1, h2]
        have hd := cnt_diff hv 7
        have c1 := count_le (bandn (voters a) (voters x))
        have c2 := count_le (bandn (voters x) (voters a))
        have hle : w64 (count (bandn (voters a) (voters x)) + count (bandn (voters x) (voters a))) ≤ 1 := by
          rw [show w64 (count (bandn (voters a) (voters x)) + count (bandn (voters x) (voters a))) = _ from wrap_id (by omega) (by omega)]
          rcases nb_cases (decide (n < 7)) with e | e <;> rw [e] at hd <;> unfold count <;> omega
        have k1 := c_Check a; rw [(confB_iff a).2 hA] at k1
        have k2 := c_Check x; rw [(confB_iff x).2 hX] at k2
        have k3 := c_Near a x; rw [hnear] at k3
        have k4 := c_kConf a x; rw [decide_eq_false hne] at k4
        repeat' (first | ((refine Exists.intro none ?_); (conv => whnf); first | ((with_reducible refine call_by (k1) ?_); conv => whnf) | ((with_reducible refine call_by (k2) ?_); conv => whnf) | ((with_reducible refine call_by (k3) ?_); conv => whnf) | ((with_reducible refine call_by (k4) ?_); conv => whnf) | ((with_reducible refine call_by (c_Voters a) ?_); conv => whnf) | ((with_reducible refine call_by (c_Voters x) ?_); conv => whnf) | ((with_reducible refine call_by (c_Count _) ?_); conv => whnf) | ((with_reducible refine call_by (c_Kind0 a _) ?_); conv => whnf) | ((with_reducible refine call_by (c_Kind0 x _) ?_); conv => whnf) | ((with_reducible refine call_by (c_wakes08) ?_); conv => whnf)) | ((first | (first | (with_reducible refine split_dt (by assumption) ?_) | (with_reducible refine split_df (by assumption) ?_) | (with_reducible refine split_et (by assumption) ?_) | (with_reducible refine split_ef (by assumption) ?_) | (with_reducible refine split_bt (by assumption) ?_) | (with_reducible refine split_bf (by assumption) ?_) | (with_reducible refine split_nt (by assumption) ?_) | (with_reducible refine split_nf (by assumption) ?_) | (with_reducible refine split_t (by assumption) ?_) | (with_reducible refine split_f (by assumption) ?_)) | (first | (with_reducible refine split_dec (fun h => ?_) (fun h => ?_)) | (with_reducible refine split_beq (fun h => ?_) (fun h => ?_)) | (with_reducible refine split_bne (fun h => ?_) (fun h => ?_)) | (with_reducible refine split_not (fun h => ?_) (fun h => ?_)) | (with_reducible refine split_beqS (fun h => ?_) (fun h => ?_)) | (with_reducible refine split_intro (fun h => ?_) (fun h => ?_)))) <;> conv => whnf))
        all_goals (refine exit_plain rfl ?_)
        all_goals first | rfl | skip
        all_goals exfalso
        all_goals first | (exact h hle) | (simp_all)
    · ((refine Exists.intro none ?_); (conv => whnf); first | ((with_reducible refine call_by (c_Remove a i) ?_); conv => whnf))
      cases hp : removeR a i with
      | mk x e =>
      have herr : e ≠ 0 → x = cz := fun he => by have := remove_err (a := a) (i := i) (by rw [hp]; exact he); rw [hp] at this; exact this
      conv => whnf
      ((first | (with_reducible refine split_dec (fun h => ?_) (fun h => ?_)) | (with_reducible refine split_beq (fun h => ?_) (fun h => ?_)) | (with_reducible refine split_bne (fun h => ?_) (fun h => ?_)) | (with_reducible refine split_not (fun h => ?_) (fun h => ?_)) | (with_reducible refine split_beqS (fun h => ?_) (fun h => ?_)) | (with_reducible refine split_intro (fun h => ?_) (fun h => ?_))) <;> conv => whnf)
      · obtain rfl := herr h
        ((refine Exists.intro none ?_); (conv => whnf); first | ((with_reducible refine call_by (hz) ?_); conv => whnf))
        ((refine Exists.intro none ?_); (conv => whnf); first | ((with_reducible refine call_by (c_wakes08) ?_); conv => whnf))
        exact exit_plain rfl rfl
      · subst h
        have hs : hitS (stp a i 3) x = true := by
          show hitS (removeR a i) x = true
          rw [hp]; simp [hitS]
        obtain ⟨n, rfl, hn, hA, hX, hb⟩ := step_inv hs
        have hnear : nearR a x = true := near_of hn hA hX hs
        have hkind := step_kind hn hs
        have hne : ¬ a = x := fun e => hkind (by rw [e])
        have hv : ∀ j, j ≠ n → tb (voters a) j = tb (voters x) j := fun j hj => by
          obtain ⟨h1, h2, _, _⟩ := hb j hj
          rw [tb_or, tb_or, h1, h2]
        have hd := cnt_diff hv 7
        have c1 := count_le (bandn (voters a) (voters x))
        have c2 := count_le (bandn (voters x) (voters a))
        have hle : w64 (count (bandn (voters a) (voters x)) + count (bandn (voters x) (voters a))) ≤ 1 := by
          rw [show w64 (count (bandn (voters a) (voters x)) + count (bandn (voters x) (voters a))) = _ from wrap_id (by omega) (by omega)]
          rcases nb_cases (decide (n < 7)) with e | e <;> rw [e] at hd <;> unfold count <;> omega
        have k1 := c_Check a; rw [(confB_iff a).2 hA] at k1
        have k2 := c_Check x; rw [(confB_iff x).2 hX] at k2
        have k3 := c_Near a x; rw [hnear] at k3
        have k4 := c_kConf a x; rw [decide_eq_false hne] at k4
        repeat' (first | ((refine Exists.intro none ?_); (conv => whnf); first | ((with_reducible refine call_by (k1) ?_); conv => whnf) | ((with_reducible refine call_by (k2) ?_); conv => whnf) | ((with_reducible refine call_by (k3) ?_); conv => whnf) | ((with_reducible refine call_by (k4) ?_); conv => whnf) | ((with_reducible refine call_by (c_Voters a) ?_); conv => whnf) | ((with_reducible refine call_by (c_Voters x) ?_); conv => whnf) | ((with_reducible refine call_by (c_Count _) ?_); conv => whnf) | ((with_reducible refine call_by (c_Kind0 a _) ?_); conv => whnf) | ((with_reducible refine call_by (c_Kind0 x _) ?_); conv => whnf) | ((with_reducible refine call_by (c_wakes08) ?_); conv => whnf)) | ((first | (first | (with_reducible refine split_dt (by assumption) ?_) | (with_reducible refine split_df (by assumption) ?_) | (with_reducible refine split_et (by assumption) ?_) | (with_reducible refine split_ef (by assumption) ?_) | (with_reducible refine split_bt (by assumption) ?_) | (with_reducible refine split_bf (by assumption) ?_) | (with_reducible refine split_nt (by assumption) ?_) | (with_reducible refine split_nf (by assumption) ?_) | (with_reducible refine split_t (by assumption) ?_) | (with_reducible refine split_f (by assumption) ?_)) | (first | (with_reducible refine split_dec (fun h => ?_) (fun h => ?_)) | (with_reducible refine split_beq (fun h => ?_) (fun h => ?_)) | (with_reducible refine split_bne (fun h => ?_) (fun h => ?_)) | (with_reducible refine split_not (fun h => ?_) (fun h => ?_)) | (with_reducible refine split_beqS (fun h => ?_) (fun h => ?_)) | (with_reducible refine split_intro (fun h => ?_) (fun h => ?_)))) <;> conv => whnf))
        all_goals (refine exit_plain rfl ?_)
        all_goals first | rfl | skip
        all_goals exfalso
        all_goals first | (exact h hle) | (simp_all)


theorem told_ConfNear (qs : List PV) (h : ArgsOf Try.prog [23, 3, 3, 4] qs) : Ctr Try.prog 18 qs (bv true) [] := by
  obtain ⟨p1, qs, rfl, h1, h⟩ := argsOf_cons h
  obtain ⟨p2, qs, rfl, h2, h⟩ := argsOf_cons h
  obtain ⟨p3, qs, rfl, h3, h⟩ := argsOf_cons h
  obtain ⟨p4, qs, rfl, h4, h⟩ := argsOf_cons h
  obtain rfl := argsOf_nil h
  obtain ⟨a, rfl, _⟩ := arg_Conf h1
  obtain ⟨i, rfl, _⟩ := arg_i h2
  obtain ⟨k, rfl, _⟩ := arg_i h3
  obtain ⟨w, rfl⟩ := arg_b h4
  exact l_ConfNear a i k w
end Go.Proofs
