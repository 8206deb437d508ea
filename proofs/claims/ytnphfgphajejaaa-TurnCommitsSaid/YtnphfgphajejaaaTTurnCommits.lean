import Derived.Test.YtnphfgphajejaaaC12
namespace Go.Proofs
open Go.Pv
set_option maxRecDepth 100000

theorem haveB_tb (m : Arr) (n : Int) (i : Nat) : ∀ k, k ≤ 7 → tb (haveB m n k) i = (decide (i < k) && decide (n ≤ m.at i))
  | 0, _ => by simp [haveB, tb_zero]
  | k + 1, hk => by
    have ih := haveB_tb m n i k (by omega)
    unfold haveB
    split
    · rename_i h
      rw [tb_or, ih, tb_shl k i (by omega)]
      by_cases e : k = i
      · subst e; simp [h]
      · simp only [e, decide_false, Bool.or_false]
        congr 1
        exact decide_eq_decide.2 (by omega)
    · rename_i h
      rw [ih]
      by_cases e : k = i
      · subst e; simp [h]
      · congr 1
        exact decide_eq_decide.2 (by omega)

theorem hit_more {a : Hrd} {m m' : Arr} (hle : ∀ j, j < 7 → m.at j ≤ m'.at j) {n : Int} (h : hit a m n = true) : hit a m' n = true := by
  unfold hit at *
  rw [Bool.and_eq_true] at *
  refine ⟨h.1, quorum_mono ?_ h.2⟩
  intro i hi _ hb
  rw [haveB_tb _ _ _ _ (Nat.le_refl _)] at *
  have := hle i hi
  simp at *
  omega

theorem commit_more {a : Hrd} {m m' : Arr} (hb : 0 ≤ a.base) (hs : a.base + a.log.length < 9223372036854775808) (commit : Int) (hle : ∀ j, j < 7 → m.at j ≤ m'.at j) : commitR a commit m ≤ commitR a commit m' := by
  rcases down_spec (p := hit a m) (base := a.base) (commit := commit) (a.log.length + 1) with h | ⟨h1, h2, h3, h4⟩
  · have : commitR a commit m = commit := h
    rw [this]; exact down_ge _
  · exact down_max (hit_more hle h4) h1 h2 _ h3

theorem k7 (i : Int) : 0 ≤ IntKind.i64.wrap ((IntKind.u64.wrap i).tmod 7) ∧ IntKind.i64.wrap ((IntKind.u64.wrap i).tmod 7) < 7 := by
  have h := u64_nonneg i
  rw [Int.tmod_eq_emod_of_nonneg h, wrap_id (by omega) (by omega)]
  omega

set_option maxHeartbeats 4000000 in
theorem l_TurnCommits (a : Hrd) (commit : Int) (m : Arr) (i more : Int) (ha : a.ok) (hc : isI commit) : Ctr Try.prog 9 [.ag a.enc, iv commit, .ag m.enc, iv i, iv more] (bv true) [] := by
  have hl : a.log.length ≤ maxLen := ha.2.2.2.2.2.2.1
  refine spec_of_body mixed Try.func9 rfl (by kernel_rfl) (by kernel_rfl) ?_; conv => whnf
  (first | ((with_reducible refine call_by (c_Heavy09 a) ?_); conv => whnf))
  ((first | (with_reducible refine split_dec (fun h => ?_) (fun h => ?_)) | (with_reducible refine split_beq (fun h => ?_) (fun h => ?_)) | (with_reducible refine split_bne (fun h => ?_) (fun h => ?_)) | (with_reducible refine split_not (fun h => ?_) (fun h => ?_)) | (with_reducible refine split_beqS (fun h => ?_) (fun h => ?_)) | (with_reducible refine split_intro (fun h => ?_) (fun h => ?_))) <;> conv => whnf)
  · exact exit_plain rfl rfl
  have hv := h
  (first | ((with_reducible refine call_by (c_looked17 a) ?_); conv => whnf))
  ((first | (with_reducible refine split_dec (fun h => ?_) (fun h => ?_)) | (with_reducible refine split_beq (fun h => ?_) (fun h => ?_)) | (with_reducible refine split_bne (fun h => ?_) (fun h => ?_)) | (with_reducible refine split_not (fun h => ?_) (fun h => ?_)) | (with_reducible refine split_beqS (fun h => ?_) (fun h => ?_)) | (with_reducible refine split_intro (fun h => ?_) (fun h => ?_))) <;> conv => whnf)
  · exact exit_plain rfl rfl
  have hlook : 0 ≤ a.base ∧ a.base ≤ 1099511627776 := by simpa [withinB] using h
  have hlen : a.log.length ≤ 200 := by
    simp [heavyH, heavyEs] at hv; omega
  have ha0 := hlook.1
  have hs : a.base + a.log.length < 9223372036854775808 := by omega
  ((first | (with_reducible refine split_dec (fun h => ?_) (fun h => ?_)) | (with_reducible refine split_beq (fun h => ?_) (fun h => ?_)) | (with_reducible refine split_bne (fun h => ?_) (fun h => ?_)) | (with_reducible refine split_not (fun h => ?_) (fun h => ?_)) | (with_reducible refine split_beqS (fun h => ?_) (fun h => ?_)) | (with_reducible refine split_intro (fun h => ?_) (fun h => ?_))) <;> conv => whnf)
  · exact exit_plain rfl rfl
  (first | ((with_reducible refine call_by (c_Commit a hl ha0 hs commit m) ?_); conv => whnf))
  (first | ((with_reducible refine call_by (c_rLast a hl) ?_); conv => whnf))
  have hla := lastI_eq ha0 hs
  have hge := down_ge (p := hit a m) (base := a.base) (commit := commit) (a.log.length + 1)
  have hsp := down_spec (p := hit a m) (base := a.base) (commit := commit) (a.log.length + 1)
  have hge : commit ≤ commitR a commit m := hge
  have hsp : commitR a commit m = commit ∨ (commit < commitR a commit m ∧ a.base ≤ commitR a commit m ∧ commitR a commit m < a.base + ((a.log.length + 1 : Nat) : Int) ∧ hit a m (commitR a commit m) = true) := hsp
  ((first | (with_reducible refine split_dec (fun h => ?_) (fun h => ?_)) | (with_reducible refine split_beq (fun h => ?_) (fun h => ?_)) | (with_reducible refine split_bne (fun h => ?_) (fun h => ?_)) | (with_reducible refine split_not (fun h => ?_) (fun h => ?_)) | (with_reducible refine split_beqS (fun h => ?_) (fun h => ?_)) | (with_reducible refine split_intro (fun h => ?_) (fun h => ?_))) <;> conv => whnf)
  · exact absurd h (by omega)
  ((first | (with_reducible refine split_dec (fun h => ?_) (fun h => ?_)) | (with_reducible refine split_beq (fun h => ?_) (fun h => ?_)) | (with_reducible refine split_bne (fun h => ?_) (fun h => ?_)) | (with_reducible refine split_not (fun h => ?_) (fun h => ?_)) | (with_reducible refine split_beqS (fun h => ?_) (fun h => ?_)) | (with_reducible refine split_intro (fun h => ?_) (fun h => ?_))) <;> conv => whnf)
  · have hgt := h
    have hsp : a.base ≤ commitR a commit m ∧ commitR a commit m < a.base + ((a.log.length + 1 : Nat) : Int) ∧ hit a m (commitR a commit m) = true := by
      rcases hsp with h | ⟨_, h⟩
      · omega
      · exact h
    ((first | (with_reducible refine split_dec (fun h => ?_) (fun h => ?_)) | (with_reducible refine split_beq (fun h => ?_) (fun h => ?_)) | (with_reducible refine split_bne (fun h => ?_) (fun h => ?_)) | (with_reducible refine split_not (fun h => ?_) (fun h => ?_)) | (with_reducible refine split_beqS (fun h => ?_) (fun h => ?_)) | (with_reducible refine split_intro (fun h => ?_) (fun h => ?_))) <;> conv => whnf)
    · rw [hla] at h; exact absurd h (by omega)
    ((first | (first | (with_reducible refine split_dt (by assumption) ?_) | (with_reducible refine split_df (by assumption) ?_) | (with_reducible refine split_et (by assumption) ?_) | (with_reducible refine split_ef (by assumption) ?_) | (with_reducible refine split_bt (by assumption) ?_) | (with_reducible refine split_bf (by assumption) ?_) | (with_reducible refine split_nt (by assumption) ?_) | (with_reducible refine split_nf (by assumption) ?_) | (with_reducible refine split_t (by assumption) ?_) | (with_reducible refine split_f (by assumption) ?_)) | (first | (with_reducible refine split_dec (fun h => ?_) (fun h => ?_)) | (with_reducible refine split_beq (fun h => ?_) (fun h => ?_)) | (with_reducible refine split_bne (fun h => ?_) (fun h => ?_)) | (with_reducible refine split_not (fun h => ?_) (fun h => ?_)) | (with_reducible refine split_beqS (fun h => ?_) (fun h => ?_)) | (with_reducible refine split_intro (fun h => ?_) (fun h => ?_)))) <;> conv => whnf)
    (first | ((with_reducible refine call_by (c_Force a hl _) ?_); conv => whnf))
    refine tri_for0 mixed (by kernel_rfl) (fun k : Nat => k ≤ 7) (fun k => [(17, iv k), (16, iv (haveB m (commitR a commit m) k))]) [] (fun k => 7 - k) 0 (by decide) ?_ ?_
    · conv => whnf
      (refine And.intro (And.intro (by with_unfolding_all rfl) (by intro q h; cases h)) ?_; refine And.intro ?_ (And.intro ?_ ?_) <;> (conv => whnf) <;> (repeat' (first | exact True.intro | (with_reducible exact rfl) | exact (rfl : List.replicate 0 PV.bad = []) | ((with_reducible refine And.intro ?_ ?_) <;> (first | (with_reducible exact wkV_same _ rfl) | exact wkV_pt rfl rfl | exact wkV_ow rfl rfl rfl | (refine wkV_sc (congrArg (Value.int .i64) ?_)) | (refine wkV_sc (congrArg Value.bool ?_)) | (conv => whnf))))))
      all_goals rfl
    intro k hk
    rcases (by omega : k = 0 ∨ k = 1 ∨ k = 2 ∨ k = 3 ∨ k = 4 ∨ k = 5 ∨ k = 6 ∨ k = 7) with rfl | rfl | rfl | rfl | rfl | rfl | rfl | rfl
    · conv => whnf
      refine ⟨⟨by decide, by decide⟩, ?_⟩
      conv => whnf
      ((first | (with_reducible refine split_dec (fun h => ?_) (fun h => ?_)) | (with_reducible refine split_beq (fun h => ?_) (fun h => ?_)) | (with_reducible refine split_bne (fun h => ?_) (fun h => ?_)) | (with_reducible refine split_not (fun h => ?_) (fun h => ?_)) | (with_reducible refine split_beqS (fun h => ?_) (fun h => ?_)) | (with_reducible refine split_intro (fun h => ?_) (fun h => ?_))) <;> conv => whnf)
      · refine ⟨⟨by decide, by decide⟩, ?_⟩
        conv => whnf
        refine ⟨1, ⟨by omega, by omega⟩, ?_⟩
        conv => whnf
        have e : haveB m (commitR a commit m) 1 = bor (haveB m (commitR a commit m) 0) (shl 1 0) := if_pos h
        (refine And.intro (And.intro (by with_unfolding_all rfl) (by intro q h; cases h)) ?_; refine And.intro ?_ (And.intro ?_ ?_) <;> (conv => whnf) <;> (repeat' (first | exact True.intro | (with_reducible exact rfl) | exact (rfl : List.replicate 0 PV.bad = []) | ((with_reducible refine And.intro ?_ ?_) <;> (first | (with_reducible exact wkV_same _ rfl) | exact wkV_pt rfl rfl | exact wkV_ow rfl rfl rfl | (refine wkV_sc (congrArg (Value.int .i64) ?_)) | (refine wkV_sc (congrArg Value.bool ?_)) | (conv => whnf))))))
        all_goals first | exact e.symm | rfl
      · refine ⟨1, ⟨by omega, by omega⟩, ?_⟩
        conv => whnf
        have e : haveB m (commitR a commit m) 1 = haveB m (commitR a commit m) 0 := if_neg h
        (refine And.intro (And.intro (by with_unfolding_all rfl) (by intro q h; cases h)) ?_; refine And.intro ?_ (And.intro ?_ ?_) <;> (conv => whnf) <;> (repeat' (first | exact True.intro | (with_reducible exact rfl) | exact (rfl : List.replicate 0 PV.bad = []) | ((with_reducible refine And.intro ?_ ?_) <;> (first | (with_reducible exact wkV_same _ rfl) | exact wkV_pt rfl rfl | exact wkV_ow rfl rfl rfl | (refine wkV_sc (congrArg (Value.int .i64) ?_)) | (refine wkV_sc (congrArg Value.bool ?_)) | (conv => whnf))))))
        all_goals first | exact e.symm | rfl
    · conv => whnf
      refine ⟨⟨by decide, by decide⟩, ?_⟩
      conv => whnf
      ((first | (with_reducible refine split_dec (fun h => ?_) (fun h => ?_)) | (with_reducible refine split_beq (fun h => ?_) (fun h => ?_)) | (with_reducible refine split_bne (fun h => ?_) (fun h => ?_)) | (with_reducible refine split_not (fun h => ?_) (fun h => ?_)) | (with_reducible refine split_beqS (fun h => ?_) (fun h => ?_)) | (with_reducible refine split_intro (fun h => ?_) (fun h => ?_))) <;> conv => whnf)
      · refine ⟨⟨by decide, by decide⟩, ?_⟩
        conv => whnf
        refine ⟨2, ⟨by omega, by omega⟩, ?_⟩
        conv => whnf
        have e : haveB m (commitR a commit m) 2 = bor (haveB m (commitR a commit m) 1) (shl 1 1) := if_pos h
        (refine And.intro (And.intro (by with_unfolding_all rfl) (by intro q h; cases h)) ?_; refine And.intro ?_ (And.intro ?_ ?_) <;> (conv => whnf) <;> (repeat' (first | exact True.intro | (with_reducible exact rfl) | exact (rfl : List.replicate 0 PV.bad = []) | ((with_reducible refine And.intro ?_ ?_) <;> (first | (with_reducible exact wkV_same _ rfl) | exact wkV_pt rfl rfl | exact wkV_ow rfl rfl rfl | (refine wkV_sc (congrArg (Value.int .i64) ?_)) | (refine wkV_sc (congrArg Value.bool ?_)) | (conv => whnf))))))
        all_goals first | exact e.symm | rfl
      · refine ⟨2, ⟨by omega, by omega⟩, ?_⟩
        conv => whnf
        have e : haveB m (commitR a commit m) 2 = haveB m (commitR a commit m) 1 := if_neg h
        (refine And.intro (And.intro (by with_unfolding_all rfl) (by intro q h; cases h)) ?_; refine And.intro ?_ (And.intro ?_ ?_) <;> (conv => whnf) <;> (repeat' (first | exact True.intro | (with_reducible exact rfl) | exact (rfl : List.replicate 0 PV.bad = []) | ((with_reducible refine And.intro ?_ ?_) <;> (first | (with_reducible exact wkV_same _ rfl) | exact wkV_pt rfl rfl | exact wkV_ow rfl rfl rfl | (refine wkV_sc (congrArg (Value.int .i64) ?_)) | (refine wkV_sc (congrArg Value.bool ?_)) | (conv => whnf))))))
        all_goals first | exact e.symm | rfl
    · conv => whnf
      refine ⟨⟨by decide, by decide⟩, ?_⟩
      conv => whnf
      ((first | (with_reducible refine split_dec (fun h => ?_) (fun h => ?_)) | (with_reducible refine split_beq (fun h => ?_) (fun h => ?_)) | (with_reducible refine split_bne (fun h => ?_) (fun h => ?_)) | (with_reducible refine split_not (fun h => ?_) (fun h => ?_)) | (with_reducible refine split_beqS (fun h => ?_) (fun h => ?_)) | (with_reducible refine split_intro (fun h => ?_) (fun h => ?_))) <;> conv => whnf)
      · refine ⟨⟨by decide, by decide⟩, ?_⟩
        conv => whnf
        refine ⟨3, ⟨by omega, by omega⟩, ?_⟩
        conv => whnf
        have e : haveB m (commitR a commit m) 3 = bor (haveB m (commitR a commit m) 2) (shl 1 2) := if_pos h
        (refine And.intro (And.intro (by with_unfolding_all rfl) (by intro q h; cases h)) ?_; refine And.intro ?_ (And.intro ?_ ?_) <;> (conv => whnf) <;> (repeat' (first | exact True.intro | (with_reducible exact rfl) | exact (rfl : List.replicate 0 PV.bad = []) | ((with_reducible refine And.intro ?_ ?_) <;> (first | (with_reducible exact wkV_same _ rfl) | exact wkV_pt rfl rfl | exact wkV_ow rfl rfl rfl | (refine wkV_sc (congrArg (Value.int .i64) ?_)) | (refine wkV_sc (congrArg Value.bool ?_)) | (conv => whnf))))))
        all_goals first | exact e.symm | rfl
      · refine ⟨3, ⟨by omega, by omega⟩, ?_⟩
        conv => whnf
        have e : haveB m (commitR a commit m) 3 = haveB m (commitR a commit m) 2 := if_neg h
        (refine And.intro (And.intro (by with_unfolding_all rfl) (by intro q h; cases h)) ?_; refine And.intro ?_ (And.intro ?_ ?_) <;> (conv => whnf) <;> (repeat' (first | exact True.intro | (with_reducible exact rfl) | exact (rfl : List.replicate 0 PV.bad = []) | ((with_reducible refine And.intro ?_ ?_) <;> (first | (with_reducible exact wkV_same _ rfl) | exact wkV_pt rfl rfl | exact wkV_ow rfl rfl rfl | (refine wkV_sc (congrArg (Value.int .i64) ?_)) | (refine wkV_sc (congrArg Value.bool ?_)) | (conv => whnf))))))
        all_goals first | exact e.symm | rfl
    · conv => whnf
      refine ⟨⟨by decide, by decide⟩, ?_⟩
      conv => whnf
      ((first | (with_reducible refine split_dec (fun h => ?_) (fun h => ?_)) | (with_reducible refine split_beq (fun h => ?_) (fun h => ?_)) | (with_reducible refine split_bne (fun h => ?_) (fun h => ?_)) | (with_reducible refine split_not (fun h => ?_) (fun h => ?_)) | (with_reducible refine split_beqS (fun h => ?_) (fun h => ?_)) | (with_reducible refine split_intro (fun h => ?_) (fun h => ?_))) <;> conv => whnf)
      · refine ⟨⟨by decide, by decide⟩, ?_⟩
        conv => whnf
        refine ⟨4, ⟨by omega, by omega⟩, ?_⟩
        conv => whnf
        have e : haveB m (commitR a commit m) 4 = bor (haveB m (commitR a commit m) 3) (shl 1 3) := if_pos h
        (refine And.intro (And.intro (by with_unfolding_all rfl) (by intro q h; cases h)) ?_; refine And.intro ?_ (And.intro ?_ ?_) <;> (conv => whnf) <;> (repeat' (first | exact True.intro | (with_reducible exact rfl) | exact (rfl : List.replicate 0 PV.bad = []) | ((with_reducible refine And.intro ?_ ?_) <;> (first | (with_reducible exact wkV_same _ rfl) | exact wkV_pt rfl rfl | exact wkV_ow rfl rfl rfl | (refine wkV_sc (congrArg (Value.int .i64) ?_)) | (refine wkV_sc (congrArg Value.bool ?_)) | (conv => whnf))))))
        all_goals first | exact e.symm | rfl
      · refine ⟨4, ⟨by omega, by omega⟩, ?_⟩
        conv => whnf
        have e : haveB m (commitR a commit m) 4 = haveB m (commitR a commit m) 3 := if_neg h
        (refine And.intro (And.intro (by with_unfolding_all rfl) (by intro q h; cases h)) ?_; refine And.intro ?_ (And.intro ?_ ?_) <;> (conv => whnf) <;> (repeat' (first | exact True.intro | (with_reducible exact rfl) | exact (rfl : List.replicate 0 PV.bad = []) | ((with_reducible refine And.intro ?_ ?_) <;> (first | (with_reducible exact wkV_same _ rfl) | exact wkV_pt rfl rfl | exact wkV_ow rfl rfl rfl | (refine wkV_sc (congrArg (Value.int .i64) ?_)) | (refine wkV_sc (congrArg Value.bool ?_)) | (conv => whnf))))))
        all_goals first | exact e.symm | rfl
    · conv => whnf
      refine ⟨⟨by decide, by decide⟩, ?_⟩
      conv => whnf
      ((first | (with_reducible refine split_dec (fun h => ?_) (fun h => ?_)) | (with_reducible refine split_beq (fun h => ?_) (fun h => ?_)) | (with_reducible refine split_bne (fun h => ?_) (fun h => ?_)) | (with_reducible refine split_not (fun h => ?_) (fun h => ?_)) | (with_reducible refine split_beqS (fun h => ?_) (fun h => ?_)) | (with_reducible refine split_intro (fun h => ?_) (fun h => ?_))) <;> conv => whnf)
      · refine ⟨⟨by decide, by decide⟩, ?_⟩
        conv => whnf
        refine ⟨5, ⟨by omega, by omega⟩, ?_⟩
        conv => whnf
        have e : haveB m (commitR a commit m) 5 = bor (haveB m (commitR a commit m) 4) (shl 1 4) := if_pos h
        (refine And.intro (And.intro (by with_unfolding_all rfl) (by intro q h; cases h)) ?_; refine And.intro ?_ (And.intro ?_ ?_) <;> (conv => whnf) <;> (repeat' (first | exact True.intro | (with_reducible exact rfl) | exact (rfl : List.replicate 0 PV.bad = []) | ((with_reducible refine And.intro ?_ ?_) <;> (first | (with_reducible exact wkV_same _ rfl) | exact wkV_pt rfl rfl | exact wkV_ow rfl rfl rfl | (refine wkV_sc (congrArg (Value.int .i64) ?_)) | (refine wkV_sc (congrArg Value.bool ?_)) | (conv => whnf))))))
        all_goals first | exact e.symm | rfl
      · refine ⟨5, ⟨by omega, by omega⟩, ?_⟩
        conv => whnf
        have e : haveB m (commitR a commit m) 5 = haveB m (commitR a commit m) 4 := if_neg h
        (refine And.intro (And.intro (by with_unfolding_all rfl) (by intro q h; cases h)) ?_; refine And.intro ?_ (And.intro ?_ ?_) <;> (conv => whnf) <;> (repeat' (first | exact True.intro | (with_reducible exact rfl) | exact (rfl : List.replicate 0 PV.bad = []) | ((with_reducible refine And.intro ?_ ?_) <;> (first | (with_reducible exact wkV_same _ rfl) | exact wkV_pt rfl rfl | exact wkV_ow rfl rfl rfl | (refine wkV_sc (congrArg (Value.int .i64) ?_)) | (refine wkV_sc (congrArg Value.bool ?_)) | (conv => whnf))))))
        all_goals first | exact e.symm | rfl
    · conv => whnf
      refine ⟨⟨by decide, by decide⟩, ?_⟩
      conv => whnf
      ((first | (with_reducible refine split_dec (fun h => ?_) (fun h => ?_)) | (with_reducible refine split_beq (fun h => ?_) (fun h => ?_)) | (with_reducible refine split_bne (fun h => ?_) (fun h => ?_)) | (with_reducible refine split_not (fun h => ?_) (fun h => ?_)) | (with_reducible refine split_beqS (fun h => ?_) (fun h => ?_)) | (with_reducible refine split_intro (fun h => ?_) (fun h => ?_))) <;> conv => whnf)
      · refine ⟨⟨by decide, by decide⟩, ?_⟩
        conv => whnf
        refine ⟨6, ⟨by omega, by omega⟩, ?_⟩
        conv => whnf
        have e : haveB m (commitR a commit m) 6 = bor (haveB m (commitR a commit m) 5) (shl 1 5) := if_pos h
        (refine And.intro (And.intro (by with_unfolding_all rfl) (by intro q h; cases h)) ?_; refine And.intro ?_ (And.intro ?_ ?_) <;> (conv => whnf) <;> (repeat' (first | exact True.intro | (with_reducible exact rfl) | exact (rfl : List.replicate 0 PV.bad = []) | ((with_reducible refine And.intro ?_ ?_) <;> (first | (with_reducible exact wkV_same _ rfl) | exact wkV_pt rfl rfl | exact wkV_ow rfl rfl rfl | (refine wkV_sc (congrArg (Value.int .i64) ?_)) | (refine wkV_sc (congrArg Value.bool ?_)) | (conv => whnf))))))
        all_goals first | exact e.symm | rfl
      · refine ⟨6, ⟨by omega, by omega⟩, ?_⟩
        conv => whnf
        have e : haveB m (commitR a commit m) 6 = haveB m (commitR a commit m) 5 := if_neg h
        (refine And.intro (And.intro (by with_unfolding_all rfl) (by intro q h; cases h)) ?_; refine And.intro ?_ (And.intro ?_ ?_) <;> (conv => whnf) <;> (repeat' (first | exact True.intro | (with_reducible exact rfl) | exact (rfl : List.replicate 0 PV.bad = []) | ((with_reducible refine And.intro ?_ ?_) <;> (first | (with_reducible exact wkV_same _ rfl) | exact wkV_pt rfl rfl | exact wkV_ow rfl rfl rfl | (refine wkV_sc (congrArg (Value.int .i64) ?_)) | (refine wkV_sc (congrArg Value.bool ?_)) | (conv => whnf))))))
        all_goals first | exact e.symm | rfl
    · conv => whnf
      refine ⟨⟨by decide, by decide⟩, ?_⟩
      conv => whnf
      ((first | (with_reducible refine split_dec (fun h => ?_) (fun h => ?_)) | (with_reducible refine split_beq (fun h => ?_) (fun h => ?_)) | (with_reducible refine split_bne (fun h => ?_) (fun h => ?_)) | (with_reducible refine split_not (fun h => ?_) (fun h => ?_)) | (with_reducible refine split_beqS (fun h => ?_) (fun h => ?_)) | (with_reducible refine split_intro (fun h => ?_) (fun h => ?_))) <;> conv => whnf)
      · refine ⟨⟨by decide, by decide⟩, ?_⟩
        conv => whnf
        refine ⟨7, ⟨by omega, by omega⟩, ?_⟩
        conv => whnf
        have e : haveB m (commitR a commit m) 7 = bor (haveB m (commitR a commit m) 6) (shl 1 6) := if_pos h
        (refine And.intro (And.intro (by with_unfolding_all rfl) (by intro q h; cases h)) ?_; refine And.intro ?_ (And.intro ?_ ?_) <;> (conv => whnf) <;> (repeat' (first | exact True.intro | (with_reducible exact rfl) | exact (rfl : List.replicate 0 PV.bad = []) | ((with_reducible refine And.intro ?_ ?_) <;> (first | (with_reducible exact wkV_same _ rfl) | exact wkV_pt rfl rfl | exact wkV_ow rfl rfl rfl | (refine wkV_sc (congrArg (Value.int .i64) ?_)) | (refine wkV_sc (congrArg Value.bool ?_)) | (conv => whnf))))))
        all_goals first | exact e.symm | rfl
      · refine ⟨7, ⟨by omega, by omega⟩, ?_⟩
        conv => whnf
        have e : haveB m (commitR a commit m) 7 = haveB m (commitR a commit m) 6 := if_neg h
        (refine And.intro (And.intro (by with_unfolding_all rfl) (by intro q h; cases h)) ?_; refine And.intro ?_ (And.intro ?_ ?_) <;> (conv => whnf) <;> (repeat' (first | exact True.intro | (with_reducible exact rfl) | exact (rfl : List.replicate 0 PV.bad = []) | ((with_reducible refine And.intro ?_ ?_) <;> (first | (with_reducible exact wkV_same _ rfl) | exact wkV_pt rfl rfl | exact wkV_ow rfl rfl rfl | (refine wkV_sc (congrArg (Value.int .i64) ?_)) | (refine wkV_sc (congrArg Value.bool ?_)) | (conv => whnf))))))
        all_goals first | exact e.symm | rfl
    · conv => whnf
      have hnI : isI (commitR a commit m) := by unfold isI; omega
      (first | ((with_reducible refine call_by (c_rTerm a hl ha0 hs _ hnI) ?_); conv => whnf))
      have hh := hsp.2.2
      unfold hit fits at hh
      simp only [Bool.and_eq_true, bne_iff_ne, beq_iff_eq] at hh
      ((first | (with_reducible refine split_dec (fun h => ?_) (fun h => ?_)) | (with_reducible refine split_beq (fun h => ?_) (fun h => ?_)) | (with_reducible refine split_bne (fun h => ?_) (fun h => ?_)) | (with_reducible refine split_not (fun h => ?_) (fun h => ?_)) | (with_reducible refine split_beqS (fun h => ?_) (fun h => ?_)) | (with_reducible refine split_intro (fun h => ?_) (fun h => ?_))) <;> conv => whnf)
      · exact absurd hh.1.2 h
      (first | ((with_reducible refine call_by (c_rQuorum (force a (lastI a)).1 _) ?_); conv => whnf))
      ((first | (with_reducible refine split_dec (fun h => ?_) (fun h => ?_)) | (with_reducible refine split_beq (fun h => ?_) (fun h => ?_)) | (with_reducible refine split_bne (fun h => ?_) (fun h => ?_)) | (with_reducible refine split_not (fun h => ?_) (fun h => ?_)) | (with_reducible refine split_beqS (fun h => ?_) (fun h => ?_)) | (with_reducible refine split_intro (fun h => ?_) (fun h => ?_))) <;> conv => whnf)
      · exact absurd (hh.2.symm.trans h) (by simp)
      refine ⟨⟨by decide, by decide⟩, ?_⟩
      conv => whnf
      generalize hk : IntKind.i64.wrap ((IntKind.u64.wrap i).tmod 7) = k
      have hk7 : 0 ≤ k ∧ k < 7 := by rw [← hk]; exact k7 i
      rcases (by omega : k = 0 ∨ k = 1 ∨ k = 2 ∨ k = 3 ∨ k = 4 ∨ k = 5 ∨ k = 6) with hk0 | hk0 | hk0 | hk0 | hk0 | hk0 | hk0
      all_goals (rw [hk0]; refine ⟨⟨by decide, by decide⟩, ?_⟩; conv => whnf)
      · refine ⟨⟨by decide, by decide⟩, ?_⟩
        conv => whnf
        have hle : ∀ j, j < 7 → m.at j ≤ Arr.at ⟨(if more > m.a0 then more else m.a0), m.a1, m.a2, m.a3, m.a4, m.a5, m.a6⟩ j := by
          intro j hj
          rcases (by omega : j = 0 ∨ j = 1 ∨ j = 2 ∨ j = 3 ∨ j = 4 ∨ j = 5 ∨ j = 6) with rfl | rfl | rfl | rfl | rfl | rfl | rfl
          all_goals first | exact Int.le_refl _ | (simp only [Arr.at]; split <;> omega)
        have g1 := commit_more ha0 hs commit hle
        have g2 := down_ge (p := hit a ⟨(if more > m.a0 then more else m.a0), m.a1, m.a2, m.a3, m.a4, m.a5, m.a6⟩) (base := a.base) (commit := commitR a commit m) (a.log.length + 1)
        (first | ((with_reducible refine call_by (c_Commit a hl ha0 hs commit ⟨(if more > m.a0 then more else m.a0), m.a1, m.a2, m.a3, m.a4, m.a5, m.a6⟩) ?_); conv => whnf))
        ((first | (with_reducible refine split_dec (fun h => ?_) (fun h => ?_)) | (with_reducible refine split_beq (fun h => ?_) (fun h => ?_)) | (with_reducible refine split_bne (fun h => ?_) (fun h => ?_)) | (with_reducible refine split_not (fun h => ?_) (fun h => ?_)) | (with_reducible refine split_beqS (fun h => ?_) (fun h => ?_)) | (with_reducible refine split_intro (fun h => ?_) (fun h => ?_))) <;> conv => whnf)
        · (first | ((with_reducible refine call_by (c_Commit a hl ha0 hs (commitR a commit m) ⟨(if more > m.a0 then more else m.a0), m.a1, m.a2, m.a3, m.a4, m.a5, m.a6⟩) ?_); conv => whnf))
          ((first | (with_reducible refine split_dec (fun h => ?_) (fun h => ?_)) | (with_reducible refine split_beq (fun h => ?_) (fun h => ?_)) | (with_reducible refine split_bne (fun h => ?_) (fun h => ?_)) | (with_reducible refine split_not (fun h => ?_) (fun h => ?_)) | (with_reducible refine split_beqS (fun h => ?_) (fun h => ?_)) | (with_reducible refine split_intro (fun h => ?_) (fun h => ?_))) <;> conv => whnf)
          · (first | ((with_reducible refine call_by (c_wakes17) ?_); conv => whnf))
            exact exit_plain rfl rfl
          · exact absurd g2 h
        · exact absurd g1 h
      · refine ⟨⟨by decide, by decide⟩, ?_⟩
        conv => whnf
        have hle : ∀ j, j < 7 → m.at j ≤ Arr.at ⟨m.a0, (if more > m.a1 then more else m.a1), m.a2, m.a3, m.a4, m.a5, m.a6⟩ j := by
          intro j hj
          rcases (by omega : j = 0 ∨ j = 1 ∨ j = 2 ∨ j = 3 ∨ j = 4 ∨ j = 5 ∨ j = 6) with rfl | rfl | rfl | rfl | rfl | rfl | rfl
          all_goals first | exact Int.le_refl _ | (simp only [Arr.at]; split <;> omega)
        have g1 := commit_more ha0 hs commit hle
        have g2 := down_ge (p := hit a ⟨m.a0, (if more > m.a1 then more else m.a1), m.a2, m.a3, m.a4, m.a5, m.a6⟩) (base := a.base) (commit := commitR a commit m) (a.log.length + 1)
        (first | ((with_reducible refine call_by (c_Commit a hl ha0 hs commit ⟨m.a0, (if more > m.a1 then more else m.a1), m.a2, m.a3, m.a4, m.a5, m.a6⟩) ?_); conv => whnf))
        ((first | (with_reducible refine split_dec (fun h => ?_) (fun h => ?_)) | (with_reducible refine split_beq (fun h => ?_) (fun h => ?_)) | (with_reducible refine split_bne (fun h => ?_) (fun h => ?_)) | (with_reducible refine split_not (fun h => ?_) (fun h => ?_)) | (with_reducible refine split_beqS (fun h => ?_) (fun h => ?_)) | (with_reducible refine split_intro (fun h => ?_) (fun h => ?_))) <;> conv => whnf)
        · (first | ((with_reducible refine call_by (c_Commit a hl ha0 hs (commitR a commit m) ⟨m.a0, (if more > m.a1 then more else m.a1), m.a2, m.a3, m.a4, m.a5, m.a6⟩) ?_); conv => whnf))
          ((first | (with_reducible refine split_dec (fun h => ?_) (fun h => ?_)) | (with_reducible refine split_beq (fun h => ?_) (fun h => ?_)) | (with_reducible refine split_bne (fun h => ?_) (fun h => ?_)) | (with_reducible refine split_not (fun h => ?_) (fun h => ?_)) | (with_reducible refine split_beqS (fun h => ?_) (fun h => ?_)) | (with_reducible refine split_intro (fun h => ?_) (fun h => ?_))) <;> conv => whnf)
          · (first | ((with_reducible refine call_by (c_wakes17) ?_); conv => whnf))
            exact exit_plain rfl rfl
          · exact absurd g2 h
        · exact absurd g1 h
      · refine ⟨⟨by decide, by decide⟩, ?_⟩
        conv => whnf
        have hle : ∀ j, j < 7 → m.at j ≤ Arr.at ⟨m.a0, m.a1, (if more > m.a2 then more else m.a2), m.a3, m.a4, m.a5, m.a6⟩ j := by
          intro j hj
          rcases (by omega : j = 0 ∨ j = 1 ∨ j = 2 ∨ j = 3 ∨ j = 4 ∨ j = 5 ∨ j = 6) with rfl | rfl | rfl | rfl | rfl | rfl | rfl
          all_goals first | exact Int.le_refl _ | (simp only [Arr.at]; split <;> omega)
        have g1 := commit_more ha0 hs commit hle
        have g2 := down_ge (p := hit a ⟨m.a0, m.a1, (if more > m.a2 then more else m.a2), m.a3, m.a4, m.a5, m.a6⟩) (base := a.base) (commit := commitR a commit m) (a.log.length + 1)
        (first | ((with_reducible refine call_by (c_Commit a hl ha0 hs commit ⟨m.a0, m.a1, (if more > m.a2 then more else m.a2), m.a3, m.a4, m.a5, m.a6⟩) ?_); conv => whnf))
        ((first | (with_reducible refine split_dec (fun h => ?_) (fun h => ?_)) | (with_reducible refine split_beq (fun h => ?_) (fun h => ?_)) | (with_reducible refine split_bne (fun h => ?_) (fun h => ?_)) | (with_reducible refine split_not (fun h => ?_) (fun h => ?_)) | (with_reducible refine split_beqS (fun h => ?_) (fun h => ?_)) | (with_reducible refine split_intro (fun h => ?_) (fun h => ?_))) <;> conv => whnf)
        · (first | ((with_reducible refine call_by (c_Commit a hl ha0 hs (commitR a commit m) ⟨m.a0, m.a1, (if more > m.a2 then more else m.a2), m.a3, m.a4, m.a5, m.a6⟩) ?_); conv => whnf))
          ((first | (with_reducible refine split_dec (fun h => ?_) (fun h => ?_)) | (with_reducible refine split_beq (fun h => ?_) (fun h => ?_)) | (with_reducible refine split_bne (fun h => ?_) (fun h => ?_)) | (with_reducible refine split_not (fun h => ?_) (fun h => ?_)) | (with_reducible refine split_beqS (fun h => ?_) (fun h => ?_)) | (with_reducible refine split_intro (fun h => ?_) (fun h => ?_))) <;> conv => whnf)
          · (first | ((with_reducible refine call_by (c_wakes17) ?_); conv => whnf))
            exact exit_plain rfl rfl
          · exact absurd g2 h
        · exact absurd g1 h
      · refine ⟨⟨by decide, by decide⟩, ?_⟩
        conv => whnf
        have hle : ∀ j, j < 7 → m.at j ≤ Arr.at ⟨m.a0, m.a1, m.a2, (if more > m.a3 then more else m.a3), m.a4, m.a5, m.a6⟩ j := by
          intro j hj
          rcases (by omega : j = 0 ∨ j = 1 ∨ j = 2 ∨ j = 3 ∨ j = 4 ∨ j = 5 ∨ j = 6) with rfl | rfl | rfl | rfl | rfl | rfl | rfl
          all_goals first | exact Int.le_refl _ | (simp only [Arr.at]; split <;> omega)
        have g1 := commit_more ha0 hs commit hle
        have g2 := down_ge (p := hit a ⟨m.a0, m.a1, m.a2, (if more > m.a3 then more else m.a3), m.a4, m.a5, m.a6⟩) (base := a.base) (commit := commitR a commit m) (a.log.length + 1)
        (first | ((with_reducible refine call_by (c_Commit a hl ha0 hs commit ⟨m.a0, m.a1, m.a2, (if more > m.a3 then more else m.a3), m.a4, m.a5, m.a6⟩) ?_); conv => whnf))
        ((first | (with_reducible refine split_dec (fun h => ?_) (fun h => ?_)) | (with_reducible refine split_beq (fun h => ?_) (fun h => ?_)) | (with_reducible refine split_bne (fun h => ?_) (fun h => ?_)) | (with_reducible refine split_not (fun h => ?_) (fun h => ?_)) | (with_reducible refine split_beqS (fun h => ?_) (fun h => ?_)) | (with_reducible refine split_intro (fun h => ?_) (fun h => ?_))) <;> conv => whnf)
        · (first | ((with_reducible refine call_by (c_Commit a hl ha0 hs (commitR a commit m) ⟨m.a0, m.a1, m.a2, (if more > m.a3 then more else m.a3), m.a4, m.a5, m.a6⟩) ?_); conv => whnf))
          ((first | (with_reducible refine split_dec (fun h => ?_) (fun h => ?_)) | (with_reducible refine split_beq (fun h => ?_) (fun h => ?_)) | (with_reducible refine split_bne (fun h => ?_) (fun h => ?_)) | (with_reducible refine split_not (fun h => ?_) (fun h => ?_)) | (with_reducible refine split_beqS (fun h => ?_) (fun h => ?_)) | (with_reducible refine split_intro (fun h => ?_) (fun h => ?_))) <;> conv => whnf)
          · (first | ((with_reducible refine call_by (c_wakes17) ?_); conv => whnf))
            exact exit_plain rfl rfl
          · exact absurd g2 h
        · exact absurd g1 h
      · refine ⟨⟨by decide, by decide⟩, ?_⟩
        conv => whnf
        have hle : ∀ j, j < 7 → m.at j ≤ Arr.at ⟨m.a0, m.a1, m.a2, m.a3, (if more > m.a4 then more else m.a4), m.a5, m.a6⟩ j := by
          intro j hj
          rcases (by omega : j = 0 ∨ j = 1 ∨ j = 2 ∨ j = 3 ∨ j = 4 ∨ j = 5 ∨ j = 6) with rfl | rfl | rfl | rfl | rfl | rfl | rfl
          all_goals first | exact Int.le_refl _ | (simp only [Arr.at]; split <;> omega)
        have g1 := commit_more ha0 hs commit hle
        have g2 := down_ge (p := hit a ⟨m.a0, m.a1, m.a2, m.a3, (if more > m.a4 then more else m.a4), m.a5, m.a6⟩) (base := a.base) (commit := commitR a commit m) (a.log.length + 1)
        (first | ((with_reducible refine call_by (c_Commit a hl ha0 hs commit ⟨m.a0, m.a1, m.a2, m.a3, (if more > m.a4 then more else m.a4), m.a5, m.a6⟩) ?_); conv => whnf))
        ((first | (with_reducible refine split_dec (fun h => ?_) (fun h => ?_)) | (with_reducible refine split_beq (fun h => ?_) (fun h => ?_)) | (with_reducible refine split_bne (fun h => ?_) (fun h => ?_)) | (with_reducible refine split_not (fun h => ?_) (fun h => ?_)) | (with_reducible refine split_beqS (fun h => ?_) (fun h => ?_)) | (with_reducible refine split_intro (fun h => ?_) (fun h => ?_))) <;> conv => whnf)
        · (first | ((with_reducible refine call_by (c_Commit a hl ha0 hs (commitR a commit m) ⟨m.a0, m.a1, m.a2, m.a3, (if more > m.a4 then more else m.a4), m.a5, m.a6⟩) ?_); conv => whnf))
          ((first | (with_reducible refine split_dec (fun h => ?_) (fun h => ?_)) | (with_reducible refine split_beq (fun h => ?_) (fun h => ?_)) | (with_reducible refine split_bne (fun h => ?_) (fun h => ?_)) | (with_reducible refine split_not (fun h => ?_) (fun h => ?_)) | (with_reducible refine split_beqS (fun h => ?_) (fun h => ?_)) | (with_reducible refine split_intro (fun h => ?_) (fun h => ?_))) <;> conv => whnf)
          · (first | ((with_reducible refine call_by (c_wakes17) ?_); conv => whnf))
            exact exit_plain rfl rfl
          · exact absurd g2 h
        · exact absurd g1 h
      · refine ⟨⟨by decide, by decide⟩, ?_⟩
        conv => whnf
        have hle : ∀ j, j < 7 → m.at j ≤ Arr.at ⟨m.a0, m.a1, m.a2, m.a3, m.a4, (if more > m.a5 then more else m.a5), m.a6⟩ j := by
          intro j hj
          rcases (by omega : j = 0 ∨ j = 1 ∨ j = 2 ∨ j = 3 ∨ j = 4 ∨ j = 5 ∨ j = 6) with rfl | rfl | rfl | rfl | rfl | rfl | rfl
          all_goals first | exact Int.le_refl _ | (simp only [Arr.at]; split <;> omega)
        have g1 := commit_more ha0 hs commit hle
        have g2 := down_ge (p := hit a ⟨m.a0, m.a1, m.a2, m.a3, m.a4, (if more > m.a5 then more else m.a5), m.a6⟩) (base := a.base) (commit := commitR a commit m) (a.log.length + 1)
        (first | ((with_reducible refine call_by (c_Commit a hl ha0 hs commit ⟨m.a0, m.a1, m.a2, m.a3, m.a4, (if more > m.a5 then more else m.a5), m.a6⟩) ?_); conv => whnf))
        ((first | (with_reducible refine split_dec (fun h => ?_) (fun h => ?_)) | (with_reducible refine split_beq (fun h => ?_) (fun h => ?_)) | (with_reducible refine split_bne (fun h => ?_) (fun h => ?_)) | (with_reducible refine split_not (fun h => ?_) (fun h => ?_)) | (with_reducible refine split_beqS (fun h => ?_) (fun h => ?_)) | (with_reducible refine split_intro (fun h => ?_) (fun h => ?_))) <;> conv => whnf)
        · (first | ((with_reducible refine call_by (c_Commit a hl ha0 hs (commitR a commit m) ⟨m.a0, m.a1, m.a2, m.a3, m.a4, (if more > m.a5 then more else m.a5), m.a6⟩) ?_); conv => whnf))
          ((first | (with_reducible refine split_dec (fun h => ?_) (fun h => ?_)) | (with_reducible refine split_beq (fun h => ?_) (fun h => ?_)) | (with_reducible refine split_bne (fun h => ?_) (fun h => ?_)) | (with_reducible refine split_not (fun h => ?_) (fun h => ?_)) | (with_reducible refine split_beqS (fun h => ?_) (fun h => ?_)) | (with_reducible refine split_intro (fun h => ?_) (fun h => ?_))) <;> conv => whnf)
          · (first | ((with_reducible refine call_by (c_wakes17) ?_); conv => whnf))
            exact exit_plain rfl rfl
          · exact absurd g2 h
        · exact absurd g1 h
      · refine ⟨⟨by decide, by decide⟩, ?_⟩
        conv => whnf
        have hle : ∀ j, j < 7 → m.at j ≤ Arr.at ⟨m.a0, m.a1, m.a2, m.a3, m.a4, m.a5, (if more > m.a6 then more else m.a6)⟩ j := by
          intro j hj
          rcases (by omega : j = 0 ∨ j = 1 ∨ j = 2 ∨ j = 3 ∨ j = 4 ∨ j = 5 ∨ j = 6) with rfl | rfl | rfl | rfl | rfl | rfl | rfl
          all_goals first | exact Int.le_refl _ | (simp only [Arr.at]; split <;> omega)
        have g1 := commit_more ha0 hs commit hle
        have g2 := down_ge (p := hit a ⟨m.a0, m.a1, m.a2, m.a3, m.a4, m.a5, (if more > m.a6 then more else m.a6)⟩) (base := a.base) (commit := commitR a commit m) (a.log.length + 1)
        (first | ((with_reducible refine call_by (c_Commit a hl ha0 hs commit ⟨m.a0, m.a1, m.a2, m.a3, m.a4, m.a5, (if more > m.a6 then more else m.a6)⟩) ?_); conv => whnf))
        ((first | (with_reducible refine split_dec (fun h => ?_) (fun h => ?_)) | (with_reducible refine split_beq (fun h => ?_) (fun h => ?_)) | (with_reducible refine split_bne (fun h => ?_) (fun h => ?_)) | (with_reducible refine split_not (fun h => ?_) (fun h => ?_)) | (with_reducible refine split_beqS (fun h => ?_) (fun h => ?_)) | (with_reducible refine split_intro (fun h => ?_) (fun h => ?_))) <;> conv => whnf)
        · (first | ((with_reducible refine call_by (c_Commit a hl ha0 hs (commitR a commit m) ⟨m.a0, m.a1, m.a2, m.a3, m.a4, m.a5, (if more > m.a6 then more else m.a6)⟩) ?_); conv => whnf))
          ((first | (with_reducible refine split_dec (fun h => ?_) (fun h => ?_)) | (with_reducible refine split_beq (fun h => ?_) (fun h => ?_)) | (with_reducible refine split_bne (fun h => ?_) (fun h => ?_)) | (with_reducible refine split_not (fun h => ?_) (fun h => ?_)) | (with_reducible refine split_beqS (fun h => ?_) (fun h => ?_)) | (with_reducible refine split_intro (fun h => ?_) (fun h => ?_))) <;> conv => whnf)
          · (first | ((with_reducible refine call_by (c_wakes17) ?_); conv => whnf))
            exact exit_plain rfl rfl
          · exact absurd g2 h
        · exact absurd g1 h
  · have hgt := h
    ((first | (first | (with_reducible refine split_dt (by assumption) ?_) | (with_reducible refine split_df (by assumption) ?_) | (with_reducible refine split_et (by assumption) ?_) | (with_reducible refine split_ef (by assumption) ?_) | (with_reducible refine split_bt (by assumption) ?_) | (with_reducible refine split_bf (by assumption) ?_) | (with_reducible refine split_nt (by assumption) ?_) | (with_reducible refine split_nf (by assumption) ?_) | (with_reducible refine split_t (by assumption) ?_) | (with_reducible refine split_f (by assumption) ?_)) | (first | (with_reducible refine split_dec (fun h => ?_) (fun h => ?_)) | (with_reducible refine split_beq (fun h => ?_) (fun h => ?_)) | (with_reducible refine split_bne (fun h => ?_) (fun h => ?_)) | (with_reducible refine split_not (fun h => ?_) (fun h => ?_)) | (with_reducible refine split_beqS (fun h => ?_) (fun h => ?_)) | (with_reducible refine split_intro (fun h => ?_) (fun h => ?_)))) <;> conv => whnf)
    refine ⟨⟨by decide, by decide⟩, ?_⟩
    conv => whnf
    generalize hk : IntKind.i64.wrap ((IntKind.u64.wrap i).tmod 7) = k
    have hk7 : 0 ≤ k ∧ k < 7 := by rw [← hk]; exact k7 i
    rcases (by omega : k = 0 ∨ k = 1 ∨ k = 2 ∨ k = 3 ∨ k = 4 ∨ k = 5 ∨ k = 6) with hk0 | hk0 | hk0 | hk0 | hk0 | hk0 | hk0
    all_goals (rw [hk0]; refine ⟨⟨by decide, by decide⟩, ?_⟩; conv => whnf)
    · refine ⟨⟨by decide, by decide⟩, ?_⟩
      conv => whnf
      have hle : ∀ j, j < 7 → m.at j ≤ Arr.at ⟨(if more > m.a0 then more else m.a0), m.a1, m.a2, m.a3, m.a4, m.a5, m.a6⟩ j := by
        intro j hj
        rcases (by omega : j = 0 ∨ j = 1 ∨ j = 2 ∨ j = 3 ∨ j = 4 ∨ j = 5 ∨ j = 6) with rfl | rfl | rfl | rfl | rfl | rfl | rfl
        all_goals first | exact Int.le_refl _ | (simp only [Arr.at]; split <;> omega)
      have g1 := commit_more ha0 hs commit hle
      have g2 := down_ge (p := hit a ⟨(if more > m.a0 then more else m.a0), m.a1, m.a2, m.a3, m.a4, m.a5, m.a6⟩) (base := a.base) (commit := commitR a commit m) (a.log.length + 1)
      (first | ((with_reducible refine call_by (c_Commit a hl ha0 hs commit ⟨(if more > m.a0 then more else m.a0), m.a1, m.a2, m.a3, m.a4, m.a5, m.a6⟩) ?_); conv => whnf))
      ((first | (with_reducible refine split_dec (fun h => ?_) (fun h => ?_)) | (with_reducible refine split_beq (fun h => ?_) (fun h => ?_)) | (with_reducible refine split_bne (fun h => ?_) (fun h => ?_)) | (with_reducible refine split_not (fun h => ?_) (fun h => ?_)) | (with_reducible refine split_beqS (fun h => ?_) (fun h => ?_)) | (with_reducible refine split_intro (fun h => ?_) (fun h => ?_))) <;> conv => whnf)
      · (first | ((with_reducible refine call_by (c_Commit a hl ha0 hs (commitR a commit m) ⟨(if more > m.a0 then more else m.a0), m.a1, m.a2, m.a3, m.a4, m.a5, m.a6⟩) ?_); conv => whnf))
        ((first | (with_reducible refine split_dec (fun h => ?_) (fun h => ?_)) | (with_reducible refine split_beq (fun h => ?_) (fun h => ?_)) | (with_reducible refine split_bne (fun h => ?_) (fun h => ?_)) | (with_reducible refine split_not (fun h => ?_) (fun h => ?_)) | (with_reducible refine split_beqS (fun h => ?_) (fun h => ?_)) | (with_reducible refine split_intro (fun h => ?_) (fun h => ?_))) <;> conv => whnf)
        · (first | ((with_reducible refine call_by (c_wakes17) ?_); conv => whnf))
          exact exit_plain rfl rfl
        · exact absurd g2 h
      · exact absurd g1 h
    · refine ⟨⟨by decide, by decide⟩, ?_⟩
      conv => whnf
      have hle : ∀ j, j < 7 → m.at j ≤ Arr.at ⟨m.a0, (if more > m.a1 then more else m.a1), m.a2, m.a3, m.a4, m.a5, m.a6⟩ j := by
        intro j hj
        rcases (by omega : j = 0 ∨ j = 1 ∨ j = 2 ∨ j = 3 ∨ j = 4 ∨ j = 5 ∨ j = 6) with rfl | rfl | rfl | rfl | rfl | rfl | rfl
        all_goals first | exact Int.le_refl _ | (simp only [Arr.at]; split <;> omega)
      have g1 := commit_more ha0 hs commit hle
      have g2 := down_ge (p := hit a ⟨m.a0, (if more > m.a1 then more else m.a1), m.a2, m.a3, m.a4, m.a5, m.a6⟩) (base := a.base) (commit := commitR a commit m) (a.log.length + 1)
      (first | ((with_reducible refine call_by (c_Commit a hl ha0 hs commit ⟨m.a0, (if more > m.a1 then more else m.a1), m.a2, m.a3, m.a4, m.a5, m.a6⟩) ?_); conv => whnf))
      ((first | (with_reducible refine split_dec (fun h => ?_) (fun h => ?_)) | (with_reducible refine split_beq (fun h => ?_) (fun h => ?_)) | (with_reducible refine split_bne (fun h => ?_) (fun h => ?_)) | (with_reducible refine split_not (fun h => ?_) (fun h => ?_)) | (with_reducible refine split_beqS (fun h => ?_) (fun h => ?_)) | (with_reducible refine split_intro (fun h => ?_) (fun h => ?_))) <;> conv => whnf)
      · (first | ((with_reducible refine call_by (c_Commit a hl ha0 hs (commitR a commit m) ⟨m.a0, (if more > m.a1 then more else m.a1), m.a2, m.a3, m.a4, m.a5, m.a6⟩) ?_); conv => whnf))
        ((first | (with_reducible refine split_dec (fun h => ?_) (fun h => ?_)) | (with_reducible refine split_beq (fun h => ?_) (fun h => ?_)) | (with_reducible refine split_bne (fun h => ?_) (fun h => ?_)) | (with_reducible refine split_not (fun h => ?_) (fun h => ?_)) | (with_reducible refine split_beqS (fun h => ?_) (fun h => ?_)) | (with_reducible refine split_intro (fun h => ?_) (fun h => ?_))) <;> conv => whnf)
        · (first | ((with_reducible refine call_by (c_wakes17) ?_); conv => whnf))
          exact exit_plain rfl rfl
        · exact absurd g2 h
      · exact absurd g1 h
    · refine ⟨⟨by decide, by decide⟩, ?_⟩
      conv => whnf
      have hle : ∀ j, j < 7 → m.at j ≤ Arr.at ⟨m.a0, m.a1, (if more > m.a2 then more else m.a2), m.a3, m.a4, m.a5, m.a6⟩ j := by
        intro j hj
        rcases (by omega : j = 0 ∨ j = 1 ∨ j = 2 ∨ j = 3 ∨ j = 4 ∨ j = 5 ∨ j = 6) with rfl | rfl | rfl | rfl | rfl | rfl | rfl
        all_goals first | exact Int.le_refl _ | (simp only [Arr.at]; split <;> omega)
      have g1 := commit_more ha0 hs commit hle
      have g2 := down_ge (p := hit a ⟨m.a0, m.a1, (if more > m.a2 then more else m.a2), m.a3, m.a4, m.a5, m.a6⟩) (base := a.base) (commit := commitR a commit m) (a.log.length + 1)
      (first | ((with_reducible refine call_by (c_Commit a hl ha0 hs commit ⟨m.a0, m.a1, (if more > m.a2 then more else m.a2), m.a3, m.a4, m.a5, m.a6⟩) ?_); conv => whnf))
      ((first | (with_reducible refine split_dec (fun h => ?_) (fun h => ?_)) | (with_reducible refine split_beq (fun h => ?_) (fun h => ?_)) | (with_reducible refine split_bne (fun h => ?_) (fun h => ?_)) | (with_reducible refine split_not (fun h => ?_) (fun h => ?_)) | (with_reducible refine split_beqS (fun h => ?_) (fun h => ?_)) | (with_reducible refine split_intro (fun h => ?_) (fun h => ?_))) <;> conv => whnf)
      · (first | ((with_reducible refine call_by (c_Commit a hl ha0 hs (commitR a commit m) ⟨m.a0, m.a1, (if more > m.a2 then more else m.a2), m.a3, m.a4, m.a5, m.a6⟩) ?_); conv => whnf))
        ((first | (with_reducible refine split_dec (fun h => ?_) (fun h => ?_)) | (with_reducible refine split_beq (fun h => ?_) (fun h => ?_)) | (with_reducible refine split_bne (fun h => ?_) (fun h => ?_)) | (with_reducible refine split_not (fun h => ?_) (fun h => ?_)) | (with_reducible refine split_beqS (fun h => ?_) (fun h => ?_)) | (with_reducible refine split_intro (fun h => ?_) (fun h => ?_))) <;> conv => whnf)
        · (first | ((with_reducible refine call_by (c_wakes17) ?_); conv => whnf))
          exact exit_plain rfl rfl
        · exact absurd g2 h
      · exact absurd g1 h
    · refine ⟨⟨by decide, by decide⟩, ?_⟩
      conv => whnf
      have hle : ∀ j, j < 7 → m.at j ≤ Arr.at ⟨m.a0, m.a1, m.a2, (if more > m.a3 then more else m.a3), m.a4, m.a5, m.a6⟩ j := by
        intro j hj
        rcases (by omega : j = 0 ∨ j = 1 ∨ j = 2 ∨ j = 3 ∨ j = 4 ∨ j = 5 ∨ j = 6) with rfl | rfl | rfl | rfl | rfl | rfl | rfl
        all_goals first | exact Int.le_refl _ | (simp only [Arr.at]; split <;> omega)
      have g1 := commit_more ha0 hs commit hle
      have g2 := down_ge (p := hit a ⟨m.a0, m.a1, m.a2, (if more > m.a3 then more else m.a3), m.a4, m.a5, m.a6⟩) (base := a.base) (commit := commitR a commit m) (a.log.length + 1)
      (first | ((with_reducible refine call_by (c_Commit a hl ha0 hs commit ⟨m.a0, m.a1, m.a2, (if more > m.a3 then more else m.a3), m.a4, m.a5, m.a6⟩) ?_); conv => whnf))
      ((first | (with_reducible refine split_dec (fun h => ?_) (fun h => ?_)) | (with_reducible refine split_beq (fun h => ?_) (fun h => ?_)) | (with_reducible refine split_bne (fun h => ?_) (fun h => ?_)) | (with_reducible refine split_not (fun h => ?_) (fun h => ?_)) | (with_reducible refine split_beqS (fun h => ?_) (fun h => ?_)) | (with_reducible refine split_intro (fun h => ?_) (fun h => ?_))) <;> conv => whnf)
      · (first | ((with_reducible refine call_by (c_Commit a hl ha0 hs (commitR a commit m) ⟨m.a0, m.a1, m.a2, (if more > m.a3 then more else m.a3), m.a4, m.a5, m.a6⟩) ?_); conv => whnf))
        ((first | (with_reducible refine split_dec (fun h => ?_) (fun h => ?_)) | (with_reducible refine split_beq (fun h => ?_) (fun h => ?_)) | (with_reducible refine split_bne (fun h => ?_) (fun h => ?_)) | (with_reducible refine split_not (fun h => ?_) (fun h => ?_)) | (with_reducible refine split_beqS (fun h => ?_) (fun h => ?_)) | (with_reducible refine split_intro (fun h => ?_) (fun h => ?_))) <;> conv => whnf)
        · (first | ((with_reducible refine call_by (c_wakes17) ?_); conv => whnf))
          exact exit_plain rfl rfl
        · exact absurd g2 h
      · exact absurd g1 h
    · refine ⟨⟨by decide, by decide⟩, ?_⟩
      conv => whnf
      have hle : ∀ j, j < 7 → m.at j ≤ Arr.at ⟨m.a0, m.a1, m.a2, m.a3, (if more > m.a4 then more else m.a4), m.a5, m.a6⟩ j := by
        intro j hj
        rcases (by omega : j = 0 ∨ j = 1 ∨ j = 2 ∨ j = 3 ∨ j = 4 ∨ j = 5 ∨ j = 6) with rfl | rfl | rfl | rfl | rfl | rfl | rfl
        all_goals first | exact Int.le_refl _ | (simp only [Arr.at]; split <;> omega)
      have g1 := commit_more ha0 hs commit hle
      have g2 := down_ge (p := hit a ⟨m.a0, m.a1, m.a2, m.a3, (if more > m.a4 then more else m.a4), m.a5, m.a6⟩) (base := a.base) (commit := commitR a commit m) (a.log.length + 1)
      (first | ((with_reducible refine call_by (c_Commit a hl ha0 hs commit ⟨m.a0, m.a1, m.a2, m.a3, (if more > m.a4 then more else m.a4), m.a5, m.a6⟩) ?_); conv => whnf))
      ((first | (with_reducible refine split_dec (fun h => ?_) (fun h => ?_)) | (with_reducible refine split_beq (fun h => ?_) (fun h => ?_)) | (with_reducible refine split_bne (fun h => ?_) (fun h => ?_)) | (with_reducible refine split_not (fun h => ?_) (fun h => ?_)) | (with_reducible refine split_beqS (fun h => ?_) (fun h => ?_)) | (with_reducible refine split_intro (fun h => ?_) (fun h => ?_))) <;> conv => whnf)
      · (first | ((with_reducible refine call_by (c_Commit a hl ha0 hs (commitR a commit m) ⟨m.a0, m.a1, m.a2, m.a3, (if more > m.a4 then more else m.a4), m.a5, m.a6⟩) ?_); conv => whnf))
        ((first | (with_reducible refine split_dec (fun h => ?_) (fun h => ?_)) | (with_reducible refine split_beq (fun h => ?_) (fun h => ?_)) | (with_reducible refine split_bne (fun h => ?_) (fun h => ?_)) | (with_reducible refine split_not (fun h => ?_) (fun h => ?_)) | (with_reducible refine split_beqS (fun h => ?_) (fun h => ?_)) | (with_reducible refine split_intro (fun h => ?_) (fun h => ?_))) <;> conv => whnf)
        · (first | ((with_reducible refine call_by (c_wakes17) ?_); conv => whnf))
          exact exit_plain rfl rfl
        · exact absurd g2 h
      · exact absurd g1 h
    · refine ⟨⟨by decide, by decide⟩, ?_⟩
      conv => whnf
      have hle : ∀ j, j < 7 → m.at j ≤ Arr.at ⟨m.a0, m.a1, m.a2, m.a3, m.a4, (if more > m.a5 then more else m.a5), m.a6⟩ j := by
        intro j hj
        rcases (by omega : j = 0 ∨ j = 1 ∨ j = 2 ∨ j = 3 ∨ j = 4 ∨ j = 5 ∨ j = 6) with rfl | rfl | rfl | rfl | rfl | rfl | rfl
        all_goals first | exact Int.le_refl _ | (simp only [Arr.at]; split <;> omega)
      have g1 := commit_more ha0 hs commit hle
      have g2 := down_ge (p := hit a ⟨m.a0, m.a1, m.a2, m.a3, m.a4, (if more > m.a5 then more else m.a5), m.a6⟩) (base := a.base) (commit := commitR a commit m) (a.log.length + 1)
      (first | ((with_reducible refine call_by (c_Commit a hl ha0 hs commit ⟨m.a0, m.a1, m.a2, m.a3, m.a4, (if more > m.a5 then more else m.a5), m.a6⟩) ?_); conv => whnf))
      ((first | (with_reducible refine split_dec (fun h => ?_) (fun h => ?_)) | (with_reducible refine split_beq (fun h => ?_) (fun h => ?_)) | (with_reducible refine split_bne (fun h => ?_) (fun h => ?_)) | (with_reducible refine split_not (fun h => ?_) (fun h => ?_)) | (with_reducible refine split_beqS (fun h => ?_) (fun h => ?_)) | (with_reducible refine split_intro (fun h => ?_) (fun h => ?_))) <;> conv => whnf)
      · (first | ((with_reducible refine call_by (c_Commit a hl ha0 hs (commitR a commit m) ⟨m.a0, m.a1, m.a2, m.a3, m.a4, (if more > m.a5 then more else m.a5), m.a6⟩) ?_); conv => whnf))
        ((first | (with_reducible refine split_dec (fun h => ?_) (fun h => ?_)) | (with_reducible refine split_beq (fun h => ?_) (fun h => ?_)) | (with_reducible refine split_bne (fun h => ?_) (fun h => ?_)) | (with_reducible refine split_not (fun h => ?_) (fun h => ?_)) | (with_reducible refine split_beqS (fun h => ?_) (fun h => ?_)) | (with_reducible refine split_intro (fun h => ?_) (fun h => ?_))) <;> conv => whnf)
        · (first | ((with_reducible refine call_by (c_wakes17) ?_); conv => whnf))
          exact exit_plain rfl rfl
        · exact absurd g2 h
      · exact absurd g1 h
    · refine ⟨⟨by decide, by decide⟩, ?_⟩
      conv => whnf
      have hle : ∀ j, j < 7 → m.at j ≤ Arr.at ⟨m.a0, m.a1, m.a2, m.a3, m.a4, m.a5, (if more > m.a6 then more else m.a6)⟩ j := by
        intro j hj
        rcases (by omega : j = 0 ∨ j = 1 ∨ j = 2 ∨ j = 3 ∨ j = 4 ∨ j = 5 ∨ j = 6) with rfl | rfl | rfl | rfl | rfl | rfl | rfl
        all_goals first | exact Int.le_refl _ | (simp only [Arr.at]; split <;> omega)
      have g1 := commit_more ha0 hs commit hle
      have g2 := down_ge (p := hit a ⟨m.a0, m.a1, m.a2, m.a3, m.a4, m.a5, (if more > m.a6 then more else m.a6)⟩) (base := a.base) (commit := commitR a commit m) (a.log.length + 1)
      (first | ((with_reducible refine call_by (c_Commit a hl ha0 hs commit ⟨m.a0, m.a1, m.a2, m.a3, m.a4, m.a5, (if more > m.a6 then more else m.a6)⟩) ?_); conv => whnf))
      ((first | (with_reducible refine split_dec (fun h => ?_) (fun h => ?_)) | (with_reducible refine split_beq (fun h => ?_) (fun h => ?_)) | (with_reducible refine split_bne (fun h => ?_) (fun h => ?_)) | (with_reducible refine split_not (fun h => ?_) (fun h => ?_)) | (with_reducible refine split_beqS (fun h => ?_) (fun h => ?_)) | (with_reducible refine split_intro (fun h => ?_) (fun h => ?_))) <;> conv => whnf)
      · (first | ((with_reducible refine call_by (c_Commit a hl ha0 hs (commitR a commit m) ⟨m.a0, m.a1, m.a2, m.a3, m.a4, m.a5, (if more > m.a6 then more else m.a6)⟩) ?_); conv => whnf))
        ((first | (with_reducible refine split_dec (fun h => ?_) (fun h => ?_)) | (with_reducible refine split_beq (fun h => ?_) (fun h => ?_)) | (with_reducible refine split_bne (fun h => ?_) (fun h => ?_)) | (with_reducible refine split_not (fun h => ?_) (fun h => ?_)) | (with_reducible refine split_beqS (fun h => ?_) (fun h => ?_)) | (with_reducible refine split_intro (fun h => ?_) (fun h => ?_))) <;> conv => whnf)
        · (first | ((with_reducible refine call_by (c_wakes17) ?_); conv => whnf))
          exact exit_plain rfl rfl
        · exact absurd g2 h
      · exact absurd g1 h

theorem told_TurnCommits (qs : List PV) (h : ArgsOf Try.prog [32, 3, 33, 3, 3] qs) : Ctr Try.prog 9 qs (bv true) [] := by
  obtain ⟨p1, qs, rfl, h1, h⟩ := argsOf_cons h
  obtain ⟨p2, qs, rfl, h2, h⟩ := argsOf_cons h
  obtain ⟨p3, qs, rfl, h3, h⟩ := argsOf_cons h
  obtain ⟨p4, qs, rfl, h4, h⟩ := argsOf_cons h
  obtain ⟨p5, qs, rfl, h5, h⟩ := argsOf_cons h
  obtain rfl := argsOf_nil h
  obtain ⟨r, rfl, hr⟩ := arg_Hrd h1
  obtain ⟨m, rfl, hm⟩ := arg_i h2
  obtain ⟨n, rfl, hn⟩ := arg_Arr h3
  obtain ⟨i, rfl, _⟩ := arg_i h4
  obtain ⟨k, rfl, _⟩ := arg_i h5
  exact l_TurnCommits r m n i k hr hm
end Go.Proofs
