/- Contracts of functions: messages compared with themselves; what is more than is played. -/
import Derived.Test.YtjgcblmkejnijaaE8
import Derived.Test.YtjgcblmkejnijaaC56
set_option linter.unusedSimpArgs false
set_option linter.unusedVariables false
namespace Go.Proofs
open Go.Pv
set_option maxRecDepth 100000

theorem s_flatS (m : Mg) (h : MgS m) : Ctr Try.prog 77 [.ag m.enc, .ag m.enc] (bv true) [] := by
  obtain ⟨hz, _⟩ := h.ok2
  have h1 : m.snap.length ≤ maxLen := leMax (by have := hz.sn; omega)
  have h2 : m.entries.length ≤ maxLen := leMax (by have := hz.es; omega)
  exact s_flat m m.inner m.inner rfl h1 h2
theorem s_MsgS (m : Mg) (h : MgS m) : Ctr Try.prog 37 [.ag m.enc, .ag m.enc] (bv true) [] := by
  obtain ⟨zs, e, hl, hz⟩ := h.ok
  have hlen : m.inner.length = zs.length := by rw [e, List.length_map]
  refine spec_of_body mixed Try.func37 rfl (by kernel_rfl) (by kernel_rfl) ?_; conv => whnf
  ((try ((refine Exists.intro none ?_); (conv => whnf))); first | ((with_reducible refine call_by (s_flatS m h) ?_); conv => whnf))
  refine tri_for0 mixed (by kernel_rfl) (fun j : Nat => j ≤ zs.length) (fun j => [(5, iv j)]) [] (fun j => zs.length - j) 0 (Nat.zero_le _) ?_ ?_
  · conv => whnf
    (refine And.intro (And.intro (by with_unfolding_all rfl) (by intro q h; cases h)) ?_; refine And.intro ?_ (And.intro ?_ ?_) <;> (conv => whnf) <;> (repeat' (first | exact True.intro | (with_reducible exact rfl) | exact (rfl : List.replicate 0 PV.bad = []) | ((with_reducible refine And.intro ?_ ?_) <;> (first | (with_reducible exact wkV_same _ rfl) | exact wkV_pt rfl rfl | exact wkV_ow rfl rfl rfl | (refine wkV_ow rfl rfl ?_) | (refine wkV_sc (congrArg (Value.int .i64) ?_)) | (refine wkV_sc (congrArg Value.bool ?_)) | exact wkV_ls rfl | ((refine wkV_cl ?_); conv => whnf) | ((refine wkV_tu ?_); conv => whnf) | ((refine wkV_ag ?_); conv => whnf) | (conv => whnf))))))
    all_goals rfl
  intro j hj
  conv => whnf
  ((first | (with_reducible refine split_dec (fun h => ?_) (fun h => ?_)) | (with_reducible refine split_beq (fun h => ?_) (fun h => ?_)) | (with_reducible refine split_bne (fun h => ?_) (fun h => ?_)) | (with_reducible refine split_not (fun h => ?_) (fun h => ?_)) | (with_reducible refine split_beqS (fun h => ?_) (fun h => ?_)) | (with_reducible refine split_intro (fun h => ?_) (fun h => ?_))) <;> conv => whnf)
  · rw [hlen] at h
    have hlt : j < zs.length := by omega
    have hrow : m.inner[((j : Nat) : Int).toNat]? = some (zs[j]'hlt).enc := by rw [e]; exact row_at hlt
    refine ⟨by omega, _, hrow, ?_⟩
    conv => whnf
    refine ⟨by omega, _, hrow, ?_⟩
    conv => whnf
    ((try ((refine Exists.intro none ?_); (conv => whnf))); first | ((with_reducible refine call_by (s_flatS _ (hz _ (List.getElem_mem hlt))) ?_); conv => whnf))
    refine ⟨j + 1, ⟨by omega, by omega⟩, ?_⟩
    conv => whnf
    (refine And.intro (And.intro (by with_unfolding_all rfl) (by intro q h; cases h)) ?_; refine And.intro ?_ (And.intro ?_ ?_) <;> (conv => whnf) <;> (repeat' (first | exact True.intro | (with_reducible exact rfl) | exact (rfl : List.replicate 0 PV.bad = []) | ((with_reducible refine And.intro ?_ ?_) <;> (first | (with_reducible exact wkV_same _ rfl) | exact wkV_pt rfl rfl | exact wkV_ow rfl rfl rfl | (refine wkV_ow rfl rfl ?_) | (refine wkV_sc (congrArg (Value.int .i64) ?_)) | (refine wkV_sc (congrArg Value.bool ?_)) | exact wkV_ls rfl | ((refine wkV_cl ?_); conv => whnf) | ((refine wkV_tu ?_); conv => whnf) | ((refine wkV_ag ?_); conv => whnf) | (conv => whnf))))))
    all_goals first | exact w1 (by omega) | rfl
  · exact exit_plain rfl rfl
theorem c_heavyS (m : Mg) (h : MgS m) : ∃ b, Ctr Try.prog 36 [.ag m.enc] (bv b) [] := by
  obtain ⟨_, y, hy, hok⟩ := h.ok2
  rw [hy]
  exact ⟨_, c_HeavyMsg y hok⟩
/-- Rows that are messages, compared with themselves. -/
theorem s_MsgsR (rows : List (List PV)) (hm : rows.length ≤ 4294967) (hs : ∀ r ∈ rows, Ctr Try.prog 37 [.ag r, .ag r] (bv true) [] ∧ ∃ x : Mg, r = x.enc) : Ctr Try.prog 31 [.sl 16 rows, .sl 16 rows] (bv true) [] := by
  refine spec_of_body mixed Try.func31 rfl (by kernel_rfl) (by kernel_rfl) ?_; conv => whnf
  ((first | (with_reducible refine split_et rfl ?_) | (with_reducible refine split_bf rfl ?_) | (with_reducible refine split_t (beq_self_eq_true _) ?_) | (with_reducible refine split_f (bne_self_eq_false _) ?_)); conv => whnf)
  refine tri_for0 mixed (by kernel_rfl) (fun j : Nat => j ≤ rows.length) (fun j => [(5, iv j)]) [] (fun j => rows.length - j) 0 (Nat.zero_le _) ?_ ?_
  · conv => whnf
    (refine And.intro (And.intro (by with_unfolding_all rfl) (by intro q h; cases h)) ?_; refine And.intro ?_ (And.intro ?_ ?_) <;> (conv => whnf) <;> (repeat' (first | exact True.intro | (with_reducible exact rfl) | exact (rfl : List.replicate 0 PV.bad = []) | ((with_reducible refine And.intro ?_ ?_) <;> (first | (with_reducible exact wkV_same _ rfl) | exact wkV_pt rfl rfl | exact wkV_ow rfl rfl rfl | (refine wkV_ow rfl rfl ?_) | (refine wkV_sc (congrArg (Value.int .i64) ?_)) | (refine wkV_sc (congrArg Value.bool ?_)) | exact wkV_ls rfl | ((refine wkV_cl ?_); conv => whnf) | ((refine wkV_tu ?_); conv => whnf) | ((refine wkV_ag ?_); conv => whnf) | (conv => whnf))))))
    all_goals rfl
  intro j hj
  conv => whnf
  ((first | (with_reducible refine split_dec (fun h => ?_) (fun h => ?_)) | (with_reducible refine split_beq (fun h => ?_) (fun h => ?_)) | (with_reducible refine split_bne (fun h => ?_) (fun h => ?_)) | (with_reducible refine split_not (fun h => ?_) (fun h => ?_)) | (with_reducible refine split_beqS (fun h => ?_) (fun h => ?_)) | (with_reducible refine split_intro (fun h => ?_) (fun h => ?_))) <;> conv => whnf)
  · have hlt : j < rows.length := by omega
    have hrow : rows[((j : Nat) : Int).toNat]? = some (rows[j]'hlt) := by rw [Int.toNat_natCast, List.getElem?_eq_getElem hlt]
    obtain ⟨hc, x, hx⟩ := hs _ (List.getElem_mem hlt)
    generalize rows[j]'hlt = r at *
    subst hx
    refine ⟨by omega, _, hrow, ?_⟩
    conv => whnf
    refine ⟨by omega, _, hrow, ?_⟩
    conv => whnf
    ((try ((refine Exists.intro none ?_); (conv => whnf))); first | ((with_reducible refine call_by (hc) ?_); conv => whnf))
    refine ⟨j + 1, ⟨by omega, by omega⟩, ?_⟩
    conv => whnf
    (refine And.intro (And.intro (by with_unfolding_all rfl) (by intro q h; cases h)) ?_; refine And.intro ?_ (And.intro ?_ ?_) <;> (conv => whnf) <;> (repeat' (first | exact True.intro | (with_reducible exact rfl) | exact (rfl : List.replicate 0 PV.bad = []) | ((with_reducible refine And.intro ?_ ?_) <;> (first | (with_reducible exact wkV_same _ rfl) | exact wkV_pt rfl rfl | exact wkV_ow rfl rfl rfl | (refine wkV_ow rfl rfl ?_) | (refine wkV_sc (congrArg (Value.int .i64) ?_)) | (refine wkV_sc (congrArg Value.bool ?_)) | exact wkV_ls rfl | ((refine wkV_cl ?_); conv => whnf) | ((refine wkV_tu ?_); conv => whnf) | ((refine wkV_ag ?_); conv => whnf) | (conv => whnf))))))
    all_goals first | exact w1 (by omega) | rfl
  · exact exit_plain rfl rfl
theorem c_heavy19 (l : List Mg) (hs : ∀ m ∈ l, MgS m) : Ctr Try.prog 29 [.sl 16 (l.map Mg.enc)] (bv true) [] ∨ (Ctr Try.prog 29 [.sl 16 (l.map Mg.enc)] (bv false) [] ∧ l.length ≤ 60) := by
  by_cases h60 : 60 < l.length
  · left
    refine spec_of_body mixed Try.func29 rfl (by kernel_rfl) (by kernel_rfl) ?_; conv => whnf
    ((first | (with_reducible refine split_dec (fun h => ?_) (fun h => ?_)) | (with_reducible refine split_beq (fun h => ?_) (fun h => ?_)) | (with_reducible refine split_bne (fun h => ?_) (fun h => ?_)) | (with_reducible refine split_not (fun h => ?_) (fun h => ?_)) | (with_reducible refine split_beqS (fun h => ?_) (fun h => ?_)) | (with_reducible refine split_intro (fun h => ?_) (fun h => ?_))) <;> conv => whnf)
    · exact exit_plain rfl rfl
    · exfalso; simp only [List.length_map] at h; omega
  by_cases hall : ∀ m ∈ l, Ctr Try.prog 36 [.ag m.enc] (bv false) []
  · right
    refine ⟨?_, by omega⟩
    refine spec_of_body mixed Try.func29 rfl (by kernel_rfl) (by kernel_rfl) ?_; conv => whnf
    ((first | (with_reducible refine split_dec (fun h => ?_) (fun h => ?_)) | (with_reducible refine split_beq (fun h => ?_) (fun h => ?_)) | (with_reducible refine split_bne (fun h => ?_) (fun h => ?_)) | (with_reducible refine split_not (fun h => ?_) (fun h => ?_)) | (with_reducible refine split_beqS (fun h => ?_) (fun h => ?_)) | (with_reducible refine split_intro (fun h => ?_) (fun h => ?_))) <;> conv => whnf)
    · exfalso; simp only [List.length_map] at h; omega
    clear h
    refine tri_for0 mixed (by kernel_rfl) (fun j : Nat => j ≤ l.length) (fun j => [(3, iv j)]) [] (fun j => l.length - j) 0 (Nat.zero_le _) ?_ ?_
    · conv => whnf
      (refine And.intro (And.intro (by with_unfolding_all rfl) (by intro q h; cases h)) ?_; refine And.intro ?_ (And.intro ?_ ?_) <;> (conv => whnf) <;> (repeat' (first | exact True.intro | (with_reducible exact rfl) | exact (rfl : List.replicate 0 PV.bad = []) | ((with_reducible refine And.intro ?_ ?_) <;> (first | (with_reducible exact wkV_same _ rfl) | exact wkV_pt rfl rfl | exact wkV_ow rfl rfl rfl | (refine wkV_ow rfl rfl ?_) | (refine wkV_sc (congrArg (Value.int .i64) ?_)) | (refine wkV_sc (congrArg Value.bool ?_)) | exact wkV_ls rfl | ((refine wkV_cl ?_); conv => whnf) | ((refine wkV_tu ?_); conv => whnf) | ((refine wkV_ag ?_); conv => whnf) | (conv => whnf))))))
      all_goals rfl
    intro j hj
    conv => whnf
    ((first | (with_reducible refine split_dec (fun h => ?_) (fun h => ?_)) | (with_reducible refine split_beq (fun h => ?_) (fun h => ?_)) | (with_reducible refine split_bne (fun h => ?_) (fun h => ?_)) | (with_reducible refine split_not (fun h => ?_) (fun h => ?_)) | (with_reducible refine split_beqS (fun h => ?_) (fun h => ?_)) | (with_reducible refine split_intro (fun h => ?_) (fun h => ?_))) <;> conv => whnf)
    · have hlt : j < l.length := by simp only [List.length_map] at h; omega
      (first | ((with_reducible refine And.intro (by omega) (Exists.intro _ (And.intro (row_at hlt) ?_))); conv => whnf))
      have hc := hall _ (List.getElem_mem hlt)
      ((try ((refine Exists.intro none ?_); (conv => whnf))); first | ((with_reducible refine call_by (hc) ?_); conv => whnf))
      refine ⟨j + 1, ⟨by omega, by omega⟩, ?_⟩
      conv => whnf
      (refine And.intro (And.intro (by with_unfolding_all rfl) (by intro q h; cases h)) ?_; refine And.intro ?_ (And.intro ?_ ?_) <;> (conv => whnf) <;> (repeat' (first | exact True.intro | (with_reducible exact rfl) | exact (rfl : List.replicate 0 PV.bad = []) | ((with_reducible refine And.intro ?_ ?_) <;> (first | (with_reducible exact wkV_same _ rfl) | exact wkV_pt rfl rfl | exact wkV_ow rfl rfl rfl | (refine wkV_ow rfl rfl ?_) | (refine wkV_sc (congrArg (Value.int .i64) ?_)) | (refine wkV_sc (congrArg Value.bool ?_)) | exact wkV_ls rfl | ((refine wkV_cl ?_); conv => whnf) | ((refine wkV_tu ?_); conv => whnf) | ((refine wkV_ag ?_); conv => whnf) | (conv => whnf))))))
      all_goals first | exact w1 (by omega) | rfl
    · exact exit_plain rfl rfl
  · left
    have hex : ∃ i, ∃ hi : i < l.length, Ctr Try.prog 36 [.ag (l[i]'hi).enc] (bv true) [] ∧ ∀ j (hj : j < l.length), j < i → Ctr Try.prog 36 [.ag (l[j]'hj).enc] (bv false) [] := by
      have hb : ∀ m ∈ l, Ctr Try.prog 36 [.ag m.enc] (bv true) [] ∨ Ctr Try.prog 36 [.ag m.enc] (bv false) [] := fun m hm => by
        obtain ⟨b, hb⟩ := c_heavyS m (hs m hm)
        cases b
        · exact .inr hb
        · exact .inl hb
      clear hs h60
      induction l with
      | nil => exact absurd (fun m hm => by cases hm) hall
      | cons x l ih =>
        by_cases hx : Ctr Try.prog 36 [.ag x.enc] (bv false) []
        · obtain ⟨i, hi, h1, h2⟩ := ih (fun hh => hall fun m hm => by
            rcases List.mem_cons.1 hm with rfl | hm
            · exact hx
            · exact hh m hm) (fun m hm => hb m (List.mem_cons_of_mem _ hm))
          refine ⟨i + 1, by simp only [List.length_cons]; omega, h1, fun j hj hji => ?_⟩
          cases j with
          | zero => exact hx
          | succ j => exact h2 j (by simp only [List.length_cons] at hj; omega) (by omega)
        · refine ⟨0, by simp, ?_, fun j hj h => absurd h (Nat.not_lt_zero _)⟩
          rcases hb x (List.mem_cons_self ..) with h | h
          · exact h
          · exact absurd h hx
    obtain ⟨i, hi, h1, h2⟩ := hex
    refine spec_of_body mixed Try.func29 rfl (by kernel_rfl) (by kernel_rfl) ?_; conv => whnf
    ((first | (with_reducible refine split_dec (fun h => ?_) (fun h => ?_)) | (with_reducible refine split_beq (fun h => ?_) (fun h => ?_)) | (with_reducible refine split_bne (fun h => ?_) (fun h => ?_)) | (with_reducible refine split_not (fun h => ?_) (fun h => ?_)) | (with_reducible refine split_beqS (fun h => ?_) (fun h => ?_)) | (with_reducible refine split_intro (fun h => ?_) (fun h => ?_))) <;> conv => whnf)
    · exact exit_plain rfl rfl
    clear h
    refine tri_for0 mixed (by kernel_rfl) (fun j : Nat => j ≤ i) (fun j => [(3, iv j)]) [] (fun j => i - j) 0 (Nat.zero_le _) ?_ ?_
    · conv => whnf
      (refine And.intro (And.intro (by with_unfolding_all rfl) (by intro q h; cases h)) ?_; refine And.intro ?_ (And.intro ?_ ?_) <;> (conv => whnf) <;> (repeat' (first | exact True.intro | (with_reducible exact rfl) | exact (rfl : List.replicate 0 PV.bad = []) | ((with_reducible refine And.intro ?_ ?_) <;> (first | (with_reducible exact wkV_same _ rfl) | exact wkV_pt rfl rfl | exact wkV_ow rfl rfl rfl | (refine wkV_ow rfl rfl ?_) | (refine wkV_sc (congrArg (Value.int .i64) ?_)) | (refine wkV_sc (congrArg Value.bool ?_)) | exact wkV_ls rfl | ((refine wkV_cl ?_); conv => whnf) | ((refine wkV_tu ?_); conv => whnf) | ((refine wkV_ag ?_); conv => whnf) | (conv => whnf))))))
      all_goals rfl
    intro j hj
    conv => whnf
    ((first | (with_reducible refine split_dec (fun h => ?_) (fun h => ?_)) | (with_reducible refine split_beq (fun h => ?_) (fun h => ?_)) | (with_reducible refine split_bne (fun h => ?_) (fun h => ?_)) | (with_reducible refine split_not (fun h => ?_) (fun h => ?_)) | (with_reducible refine split_beqS (fun h => ?_) (fun h => ?_)) | (with_reducible refine split_intro (fun h => ?_) (fun h => ?_))) <;> conv => whnf)
    · have hlt : j < l.length := by omega
      (first | ((with_reducible refine And.intro (by omega) (Exists.intro _ (And.intro (row_at hlt) ?_))); conv => whnf))
      by_cases e : j = i
      · subst e
        ((try ((refine Exists.intro none ?_); (conv => whnf))); first | ((with_reducible refine call_by (h1) ?_); conv => whnf))
        exact exit_plain rfl rfl
      · have hc := h2 j hlt (by omega)
        ((try ((refine Exists.intro none ?_); (conv => whnf))); first | ((with_reducible refine call_by (hc) ?_); conv => whnf))
        refine ⟨j + 1, ⟨by omega, by omega⟩, ?_⟩
        conv => whnf
        (refine And.intro (And.intro (by with_unfolding_all rfl) (by intro q h; cases h)) ?_; refine And.intro ?_ (And.intro ?_ ?_) <;> (conv => whnf) <;> (repeat' (first | exact True.intro | (with_reducible exact rfl) | exact (rfl : List.replicate 0 PV.bad = []) | ((with_reducible refine And.intro ?_ ?_) <;> (first | (with_reducible exact wkV_same _ rfl) | exact wkV_pt rfl rfl | exact wkV_ow rfl rfl rfl | (refine wkV_ow rfl rfl ?_) | (refine wkV_sc (congrArg (Value.int .i64) ?_)) | (refine wkV_sc (congrArg Value.bool ?_)) | exact wkV_ls rfl | ((refine wkV_cl ?_); conv => whnf) | ((refine wkV_tu ?_); conv => whnf) | ((refine wkV_ag ?_); conv => whnf) | (conv => whnf))))))
        all_goals first | exact w1 (by omega) | rfl
    · exfalso; simp only [List.length_map] at h; omega
end Go.Proofs
