import Derived.Test.YtnphfgphajejaaaTAuditExact
namespace Go.Proofs
open Go.Pv
set_option maxRecDepth 100000

theorem subVR_of {r r' : List (List PV)} (h : r = r') : SubVR r r' := by subst h; exact SubVR.refl _

set_option maxHeartbeats 2000000 in
theorem l_AuditSees (a : Hrd) (ha : a.ok) (at_ : Int) (x : Ent) (c : Int) : Ctr Try.prog 14 [.ag a.enc, iv at_, .ag x.enc, iv c] (bv true) [] := by
  refine spec_of_body mixed Try.func14 rfl (by kernel_rfl) (by kernel_rfl) ?_; conv => whnf
  ((try ((refine Exists.intro none ?_); (conv => whnf))); first | ((with_reducible refine call_by (c_Heavy09 a) ?_); conv => whnf))
  ((first | (with_reducible refine split_dec (fun h => ?_) (fun h => ?_)) | (with_reducible refine split_beq (fun h => ?_) (fun h => ?_)) | (with_reducible refine split_bne (fun h => ?_) (fun h => ?_)) | (with_reducible refine split_not (fun h => ?_) (fun h => ?_)) | (with_reducible refine split_beqS (fun h => ?_) (fun h => ?_)) | (with_reducible refine split_intro (fun h => ?_) (fun h => ?_))) <;> conv => whnf)
  · exact exit_plain rfl rfl
  have hv := h
  ((try ((refine Exists.intro none ?_); (conv => whnf))); refine call_eq (c_HeavyEntries [x]) (by kernel_rfl) ?_; conv => whnf)
  ((first | (with_reducible refine split_dec (fun h => ?_) (fun h => ?_)) | (with_reducible refine split_beq (fun h => ?_) (fun h => ?_)) | (with_reducible refine split_bne (fun h => ?_) (fun h => ?_)) | (with_reducible refine split_not (fun h => ?_) (fun h => ?_)) | (with_reducible refine split_beqS (fun h => ?_) (fun h => ?_)) | (with_reducible refine split_intro (fun h => ?_) (fun h => ?_))) <;> conv => whnf)
  · exact exit_plain rfl rfl
  have hl : a.log.length ≤ 200 := by simp [heavyH, heavyEs] at hv; omega
  have hs : a.snap.length ≤ 32768 := by simp [heavyH] at hv; omega
  have hm : a.log.length ≤ maxLen := Nat.le_trans hl (by decide)
  ((try ((refine Exists.intro none ?_); (conv => whnf))); first | ((with_reducible refine call_by (c_rHard a hm) ?_); conv => whnf))
  ((first | (with_reducible refine split_dec (fun h => ?_) (fun h => ?_)) | (with_reducible refine split_beq (fun h => ?_) (fun h => ?_)) | (with_reducible refine split_bne (fun h => ?_) (fun h => ?_)) | (with_reducible refine split_not (fun h => ?_) (fun h => ?_)) | (with_reducible refine split_beqS (fun h => ?_) (fun h => ?_)) | (with_reducible refine split_intro (fun h => ?_) (fun h => ?_))) <;> conv => whnf)
  · exact exit_plain rfl rfl
  have hh := h
  ((first | (with_reducible refine split_dec (fun h => ?_) (fun h => ?_)) | (with_reducible refine split_beq (fun h => ?_) (fun h => ?_)) | (with_reducible refine split_bne (fun h => ?_) (fun h => ?_)) | (with_reducible refine split_not (fun h => ?_) (fun h => ?_)) | (with_reducible refine split_beqS (fun h => ?_) (fun h => ?_)) | (with_reducible refine split_intro (fun h => ?_) (fun h => ?_))) <;> conv => whnf)
  · exact exit_plain rfl rfl
  simp only [List.length_map] at h
  have hA : HardA a := by
    unfold hardB at hh
    rw [Bool.and_eq_true, dec_eq_true] at hh
    exact hh.1
  have h0 : 0 < a.log.length := by omega
  have sm : ∀ r ∈ [mkR a c, mkR a c], r.small := by
    intro r hr
    simp at hr; subst hr
    exact ⟨by show a.log.length ≤ _; omega, ha.2.2.1, by show a.snap.length ≤ _; omega, by simp⟩
  ((try ((refine Exists.intro none ?_); (conv => whnf))); first | ((with_reducible refine call_by (c_TwinHard a (by omega) (by omega)) ?_); conv => whnf))
  (refine Exists.intro _ (And.intro rfl (And.intro (by intro q hq; first | (cases hq; done) | (simp only [List.mem_cons, List.not_mem_nil, or_false] at hq; rcases hq with rfl | rfl <;> (simp only [List.length_cons, List.length_nil]; omega)) | (simp only [List.mem_cons, List.not_mem_nil, or_false] at hq; subst hq; simp only [List.length_cons, List.length_nil]; omega)) (And.intro (by intro i hi; rcases i with _ | _ | i; rfl; rfl; exact absurd hi (by simp)) ?_))); conv => whnf)
  have m1 := c_Matches [mkR a c, mkR a c] (by show 2 ≤ maxLen; decide) sm
  rw [pairs2, same_match] at m1
  have m2 := c_Agrees [mkR a c, mkR a c] (by show 2 ≤ maxLen; decide) sm
  rw [pairs2, same_agree] at m2
  ((try ((refine Exists.intro none ?_); (conv => whnf))); (first | (with_reducible refine And.intro (Nat.le_of_eq (Nat.zero_add _)) ?_) | (refine And.intro (by simp only [List.length_map, List.length_set, Nat.zero_add]; omega) ?_)); conv => whnf)
  ((try ((refine Exists.intro none ?_); (conv => whnf))); (first | (with_reducible refine And.intro (Nat.le_of_eq (Nat.zero_add _)) ?_) | (refine And.intro (by simp only [List.length_map, List.length_set, Nat.zero_add]; omega) ?_)); conv => whnf)
  ((try ((refine Exists.intro none ?_); (conv => whnf))); refine call_deep (m1) (by (repeat' (first | exact subVL_nil | exact subVR_nil | refine subVL_cons ?_ ?_ | refine subVR_cons ?_ ?_ | exact SubV.refl _ | exact subV_nl | (with_reducible exact subV_tk rfl) | refine subV_ag ?_ | refine subV_sl ?_ | refine subV_ep ?_))) ?_; conv => whnf)
  ((try ((refine Exists.intro none ?_); (conv => whnf))); (first | (with_reducible refine And.intro (Nat.le_of_eq (Nat.zero_add _)) ?_) | (refine And.intro (by simp only [List.length_map, List.length_set, Nat.zero_add]; omega) ?_)); conv => whnf)
  ((try ((refine Exists.intro none ?_); (conv => whnf))); (first | (with_reducible refine And.intro (Nat.le_of_eq (Nat.zero_add _)) ?_) | (refine And.intro (by simp only [List.length_map, List.length_set, Nat.zero_add]; omega) ?_)); conv => whnf)
  ((try ((refine Exists.intro none ?_); (conv => whnf))); refine call_deep (m2) (by (repeat' (first | exact subVL_nil | exact subVR_nil | refine subVL_cons ?_ ?_ | refine subVR_cons ?_ ?_ | exact SubV.refl _ | exact subV_nl | (with_reducible exact subV_tk rfl) | refine subV_ag ?_ | refine subV_sl ?_ | refine subV_ep ?_))) ?_; conv => whnf)
  obtain ⟨k, hk, ek⟩ : ∃ k : Nat, k < a.log.length ∧ IntKind.i64.wrap ((IntKind.u64.wrap at_).tmod (IntKind.u64.wrap ((a.log.map Ent.enc).length : Int))) = (k : Int) := by
    have g0 := u64_nonneg at_
    rw [List.length_map, wrapu_id (n := (a.log.length : Int)) (by omega) (by omega), Int.tmod_eq_emod_of_nonneg g0]
    have g1 := Int.emod_nonneg (IntKind.u64.wrap at_) (show (a.log.length : Int) ≠ 0 by omega)
    have g2 := Int.emod_lt_of_pos (IntKind.u64.wrap at_) (show (0 : Int) < a.log.length by omega)
    refine ⟨(IntKind.u64.wrap at_ % (a.log.length : Int)).toNat, by omega, ?_⟩
    rw [wrap_id (by omega) (by omega)]; omega
  have hn0 : ¬ IntKind.u64.wrap ((a.log.map Ent.enc).length : Int) = 0 := by
    rw [List.length_map, wrapu_id (by omega) (by omega)]; omega
  refine ⟨⟨hn0, by decide⟩, ?_⟩
  conv => whnf
  rw [ek]
  (first | ((with_reducible refine And.intro (by omega) (Exists.intro _ (And.intro (row_at hk) ?_))); conv => whnf))
  ((try ((refine Exists.intro none ?_); (conv => whnf))); first | ((with_reducible refine call_by (c_kEntry x (a.log[k]'hk)) ?_); conv => whnf))
  ((first | (with_reducible refine split_dec (fun h => ?_) (fun h => ?_)) | (with_reducible refine split_beq (fun h => ?_) (fun h => ?_)) | (with_reducible refine split_bne (fun h => ?_) (fun h => ?_)) | (with_reducible refine split_not (fun h => ?_) (fun h => ?_)) | (with_reducible refine split_beqS (fun h => ?_) (fun h => ?_)) | (with_reducible refine split_intro (fun h => ?_) (fun h => ?_))) <;> conv => whnf)
  · ((try ((refine Exists.intro none ?_); (conv => whnf))); first | ((with_reducible refine call_by (c_wakes26) ?_); conv => whnf))
    exact exit_plain rfl rfl
  have hne : ¬ x.nrm = (a.log[k]'hk).nrm := h
  have erow : ∀ n, n = (a.log.map Ent.enc).length → List.take n (List.drop 0 ((a.log.map Ent.enc).set (0 + (k : Int).toNat) x.enc)) = (a.log.set k x).map Ent.enc := by
    intro n hn
    rw [List.drop_zero, Nat.zero_add, Int.toNat_natCast, List.take_of_length_le (by simp [hn]), List.map_set]
  have sm2 : ∀ r ∈ [mkR a c, mkR (setL a k x) c], r.small := by
    intro r hr
    simp at hr
    rcases hr with rfl | rfl
    · exact ⟨by show a.log.length ≤ _; omega, ha.2.2.1, by show a.snap.length ≤ _; omega, by simp⟩
    · exact ⟨by show (a.log.set k x).length ≤ _; rw [List.length_set]; omega, ha.2.2.1, by show a.snap.length ≤ _; omega, by simp⟩
  have m3 := c_Matches [mkR a c, mkR (setL a k x) c] (by show 2 ≤ maxLen; decide) sm2
  rw [pairs2, see_match hk hA.b c hne] at m3
  have m4 := c_Agrees [mkR a c, mkR (setL a k x) c] (by show 2 ≤ maxLen; decide) sm2
  rw [pairs2, see_agree hk hA.b c hne] at m4
  refine ⟨by simp only [List.length_map]; omega, ?_⟩
  conv => whnf
  refine ⟨_, by rw [Nat.zero_add]; exact row_at hk, ?_⟩
  conv => whnf
  have e5 : IntKind.i64.wrap (IntKind.i64.wrap (a.base + k) + 1) = a.base + k + 1 := by
    have := hA.b
    rw [wrap_id (n := a.base + k) (by omega) (by omega), wrap_id (by omega) (by omega)]
  have e6 : IntKind.i64.wrap ((k : Int) + 1) = (k : Int) + 1 := wrap_id (by omega) (by omega)
  rw [e6]
  by_cases hl2 : k + 1 < a.log.length
  · have e7 : decide ((k : Int) + 1 < ((a.log.map Ent.enc).length : Int)) = true := by rw [List.length_map]; exact decide_eq_true (by omega)
    rw [e7]
    rw [show decide (¬ k + 1 < a.log.length) = false from decide_eq_false (by omega), Bool.and_false] at m3
    ((try ((refine Exists.intro none ?_); (conv => whnf))); (first | (with_reducible refine And.intro (Nat.le_of_eq (Nat.zero_add _)) ?_) | (refine And.intro (by simp only [List.length_map, List.length_set, Nat.zero_add]; omega) ?_)); conv => whnf)
    ((try ((refine Exists.intro none ?_); (conv => whnf))); (first | (with_reducible refine And.intro (Nat.le_of_eq (Nat.zero_add _)) ?_) | (refine And.intro (by simp only [List.length_map, List.length_set, Nat.zero_add]; omega) ?_)); conv => whnf)
    ((try ((refine Exists.intro none ?_); (conv => whnf))); refine call_deep (m3) (by (repeat' (first | exact subVL_nil | exact subVR_nil | refine subVL_cons ?_ ?_ | refine subVR_cons ?_ ?_ | exact SubV.refl _ | exact subV_nl | (with_reducible exact subV_tk rfl) | refine subV_ag ?_ | refine subV_sl ?_ | refine subV_ep ?_)) <;> (exact subVR_of (erow _ rfl))) ?_; conv => whnf)
    (first | ((with_reducible refine And.intro (by omega) (Exists.intro _ (And.intro (row_at hk) ?_))); conv => whnf))
    ((first | (with_reducible refine split_dec (fun h => ?_) (fun h => ?_)) | (with_reducible refine split_beq (fun h => ?_) (fun h => ?_)) | (with_reducible refine split_bne (fun h => ?_) (fun h => ?_)) | (with_reducible refine split_not (fun h => ?_) (fun h => ?_)) | (with_reducible refine split_beqS (fun h => ?_) (fun h => ?_)) | (with_reducible refine split_intro (fun h => ?_) (fun h => ?_))) <;> conv => whnf)
    all_goals ((with_reducible refine And.intro (show Try.prog.underlying _ = some .bool by kernel_rfl) ?_); conv => whnf)
    all_goals ((try ((refine Exists.intro none ?_); (conv => whnf))); (first | (with_reducible refine And.intro (Nat.le_of_eq (Nat.zero_add _)) ?_) | (refine And.intro (by simp only [List.length_map, List.length_set, Nat.zero_add]; omega) ?_)); conv => whnf)
    all_goals ((try ((refine Exists.intro none ?_); (conv => whnf))); (first | (with_reducible refine And.intro (Nat.le_of_eq (Nat.zero_add _)) ?_) | (refine And.intro (by simp only [List.length_map, List.length_set, Nat.zero_add]; omega) ?_)); conv => whnf)
    all_goals ((try ((refine Exists.intro none ?_); (conv => whnf))); refine call_deep (m4) (by (repeat' (first | exact subVL_nil | exact subVR_nil | refine subVL_cons ?_ ?_ | refine subVR_cons ?_ ?_ | exact SubV.refl _ | exact subV_nl | (with_reducible exact subV_tk rfl) | refine subV_ag ?_ | refine subV_sl ?_ | refine subV_ep ?_)) <;> (exact subVR_of (erow _ rfl))) ?_; conv => whnf)
    all_goals rw [e5]
    all_goals ((with_reducible refine And.intro (show Try.prog.underlying _ = some .bool by kernel_rfl) ?_); conv => whnf)
    all_goals ((first | (with_reducible refine split_et rfl ?_) | (with_reducible refine split_bf rfl ?_) | (with_reducible refine split_t (beq_self_eq_true _) ?_) | (with_reducible refine split_f (bne_self_eq_false _) ?_)); conv => whnf)
    all_goals ((try ((refine Exists.intro none ?_); (conv => whnf))); first | ((with_reducible refine call_by (c_wakes26) ?_); conv => whnf))
    all_goals exact exit_plain rfl rfl
  · have e7 : decide ((k : Int) + 1 < ((a.log.map Ent.enc).length : Int)) = false := by rw [List.length_map]; exact decide_eq_false (by omega)
    rw [e7]
    rw [show decide (¬ k + 1 < a.log.length) = true from decide_eq_true (by omega), Bool.and_true] at m3
    by_cases ht : x.term = (a.log[k]'hk).term
    · rw [show decide (¬ x.term = (a.log[k]'hk).term) = false from decide_eq_false (by simpa using ht)] at m3
      ((try ((refine Exists.intro none ?_); (conv => whnf))); (first | (with_reducible refine And.intro (Nat.le_of_eq (Nat.zero_add _)) ?_) | (refine And.intro (by simp only [List.length_map, List.length_set, Nat.zero_add]; omega) ?_)); conv => whnf)
      ((try ((refine Exists.intro none ?_); (conv => whnf))); (first | (with_reducible refine And.intro (Nat.le_of_eq (Nat.zero_add _)) ?_) | (refine And.intro (by simp only [List.length_map, List.length_set, Nat.zero_add]; omega) ?_)); conv => whnf)
      ((try ((refine Exists.intro none ?_); (conv => whnf))); refine call_deep (m3) (by (repeat' (first | exact subVL_nil | exact subVR_nil | refine subVL_cons ?_ ?_ | refine subVR_cons ?_ ?_ | exact SubV.refl _ | exact subV_nl | (with_reducible exact subV_tk rfl) | refine subV_ag ?_ | refine subV_sl ?_ | refine subV_ep ?_)) <;> (exact subVR_of (erow _ rfl))) ?_; conv => whnf)
      (first | ((with_reducible refine And.intro (by omega) (Exists.intro _ (And.intro (row_at hk) ?_))); conv => whnf))
      ((first | (first | (with_reducible refine split_dt (by assumption) ?_) | (with_reducible refine split_df (by assumption) ?_) | (with_reducible refine split_et (by assumption) ?_) | (with_reducible refine split_ef (by assumption) ?_) | (with_reducible refine split_bt (by assumption) ?_) | (with_reducible refine split_bf (by assumption) ?_) | (with_reducible refine split_nt (by assumption) ?_) | (with_reducible refine split_nf (by assumption) ?_) | (with_reducible refine split_t (by assumption) ?_) | (with_reducible refine split_f (by assumption) ?_)) | (first | (with_reducible refine split_dec (fun h => ?_) (fun h => ?_)) | (with_reducible refine split_beq (fun h => ?_) (fun h => ?_)) | (with_reducible refine split_bne (fun h => ?_) (fun h => ?_)) | (with_reducible refine split_not (fun h => ?_) (fun h => ?_)) | (with_reducible refine split_beqS (fun h => ?_) (fun h => ?_)) | (with_reducible refine split_intro (fun h => ?_) (fun h => ?_)))) <;> conv => whnf)
      ((with_reducible refine And.intro (show Try.prog.underlying _ = some .bool by kernel_rfl) ?_); conv => whnf)
      ((try ((refine Exists.intro none ?_); (conv => whnf))); (first | (with_reducible refine And.intro (Nat.le_of_eq (Nat.zero_add _)) ?_) | (refine And.intro (by simp only [List.length_map, List.length_set, Nat.zero_add]; omega) ?_)); conv => whnf)
      ((try ((refine Exists.intro none ?_); (conv => whnf))); (first | (with_reducible refine And.intro (Nat.le_of_eq (Nat.zero_add _)) ?_) | (refine And.intro (by simp only [List.length_map, List.length_set, Nat.zero_add]; omega) ?_)); conv => whnf)
      ((try ((refine Exists.intro none ?_); (conv => whnf))); refine call_deep (m4) (by (repeat' (first | exact subVL_nil | exact subVR_nil | refine subVL_cons ?_ ?_ | refine subVR_cons ?_ ?_ | exact SubV.refl _ | exact subV_nl | (with_reducible exact subV_tk rfl) | refine subV_ag ?_ | refine subV_sl ?_ | refine subV_ep ?_)) <;> (exact subVR_of (erow _ rfl))) ?_; conv => whnf)
      rw [e5]
      ((with_reducible refine And.intro (show Try.prog.underlying _ = some .bool by kernel_rfl) ?_); conv => whnf)
      ((first | (with_reducible refine split_et rfl ?_) | (with_reducible refine split_bf rfl ?_) | (with_reducible refine split_t (beq_self_eq_true _) ?_) | (with_reducible refine split_f (bne_self_eq_false _) ?_)); conv => whnf)
      ((try ((refine Exists.intro none ?_); (conv => whnf))); first | ((with_reducible refine call_by (c_wakes26) ?_); conv => whnf))
      exact exit_plain rfl rfl
    · rw [show decide (¬ x.term = (a.log[k]'hk).term) = true from decide_eq_true ht] at m3
      ((try ((refine Exists.intro none ?_); (conv => whnf))); (first | (with_reducible refine And.intro (Nat.le_of_eq (Nat.zero_add _)) ?_) | (refine And.intro (by simp only [List.length_map, List.length_set, Nat.zero_add]; omega) ?_)); conv => whnf)
      ((try ((refine Exists.intro none ?_); (conv => whnf))); (first | (with_reducible refine And.intro (Nat.le_of_eq (Nat.zero_add _)) ?_) | (refine And.intro (by simp only [List.length_map, List.length_set, Nat.zero_add]; omega) ?_)); conv => whnf)
      ((try ((refine Exists.intro none ?_); (conv => whnf))); refine call_deep (m3) (by (repeat' (first | exact subVL_nil | exact subVR_nil | refine subVL_cons ?_ ?_ | refine subVR_cons ?_ ?_ | exact SubV.refl _ | exact subV_nl | (with_reducible exact subV_tk rfl) | refine subV_ag ?_ | refine subV_sl ?_ | refine subV_ep ?_)) <;> (exact subVR_of (erow _ rfl))) ?_; conv => whnf)
      (first | ((with_reducible refine And.intro (by omega) (Exists.intro _ (And.intro (row_at hk) ?_))); conv => whnf))
      ((first | (first | (with_reducible refine split_dt (by assumption) ?_) | (with_reducible refine split_df (by assumption) ?_) | (with_reducible refine split_et (by assumption) ?_) | (with_reducible refine split_ef (by assumption) ?_) | (with_reducible refine split_bt (by assumption) ?_) | (with_reducible refine split_bf (by assumption) ?_) | (with_reducible refine split_nt (by assumption) ?_) | (with_reducible refine split_nf (by assumption) ?_) | (with_reducible refine split_t (by assumption) ?_) | (with_reducible refine split_f (by assumption) ?_)) | (first | (with_reducible refine split_dec (fun h => ?_) (fun h => ?_)) | (with_reducible refine split_beq (fun h => ?_) (fun h => ?_)) | (with_reducible refine split_bne (fun h => ?_) (fun h => ?_)) | (with_reducible refine split_not (fun h => ?_) (fun h => ?_)) | (with_reducible refine split_beqS (fun h => ?_) (fun h => ?_)) | (with_reducible refine split_intro (fun h => ?_) (fun h => ?_)))) <;> conv => whnf)
      ((with_reducible refine And.intro (show Try.prog.underlying _ = some .bool by kernel_rfl) ?_); conv => whnf)
      ((try ((refine Exists.intro none ?_); (conv => whnf))); (first | (with_reducible refine And.intro (Nat.le_of_eq (Nat.zero_add _)) ?_) | (refine And.intro (by simp only [List.length_map, List.length_set, Nat.zero_add]; omega) ?_)); conv => whnf)
      ((try ((refine Exists.intro none ?_); (conv => whnf))); (first | (with_reducible refine And.intro (Nat.le_of_eq (Nat.zero_add _)) ?_) | (refine And.intro (by simp only [List.length_map, List.length_set, Nat.zero_add]; omega) ?_)); conv => whnf)
      ((try ((refine Exists.intro none ?_); (conv => whnf))); refine call_deep (m4) (by (repeat' (first | exact subVL_nil | exact subVR_nil | refine subVL_cons ?_ ?_ | refine subVR_cons ?_ ?_ | exact SubV.refl _ | exact subV_nl | (with_reducible exact subV_tk rfl) | refine subV_ag ?_ | refine subV_sl ?_ | refine subV_ep ?_)) <;> (exact subVR_of (erow _ rfl))) ?_; conv => whnf)
      rw [e5]
      ((with_reducible refine And.intro (show Try.prog.underlying _ = some .bool by kernel_rfl) ?_); conv => whnf)
      ((first | (with_reducible refine split_et rfl ?_) | (with_reducible refine split_bf rfl ?_) | (with_reducible refine split_t (beq_self_eq_true _) ?_) | (with_reducible refine split_f (bne_self_eq_false _) ?_)); conv => whnf)
      ((try ((refine Exists.intro none ?_); (conv => whnf))); first | ((with_reducible refine call_by (c_wakes26) ?_); conv => whnf))
      exact exit_plain rfl rfl

theorem told_AuditSees (qs : List PV) (h : ArgsOf Try.prog [32, 3, 72, 3] qs) : Ctr Try.prog 14 qs (bv true) [] := by
  obtain ⟨p1, qs, rfl, h1, h⟩ := argsOf_cons h
  obtain ⟨p2, qs, rfl, h2, h⟩ := argsOf_cons h
  obtain ⟨p3, qs, rfl, h3, h⟩ := argsOf_cons h
  obtain ⟨p4, qs, rfl, h4, h⟩ := argsOf_cons h
  obtain rfl := argsOf_nil h
  obtain ⟨a, rfl, ha⟩ := arg_Hrd h1
  obtain ⟨i, rfl, _⟩ := arg_i h2
  obtain ⟨x, rfl, _⟩ := arg_Ent h3
  obtain ⟨c, rfl, _⟩ := arg_i h4
  exact l_AuditSees a ha i x c
end Go.Proofs
