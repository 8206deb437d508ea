/- Contracts of functions: logs that match, that agree, of many (the reference's); what is more than is played; twins as values. -/
import Derived.Test.YtnphfgphajejaaaC25
namespace Go.Proofs
open Go.Pv
set_option maxRecDepth 100000

theorem matchP_comm (a b : Rft) : matchP a b ↔ matchP b a := by
  have one : ∀ a b : Rft, matchP a b → matchP b a := by
    intro a b h ha hb k k1 k2 k3 k4 ⟨n, n1, n2, n3, n4⟩
    exact (h hb ha k k2 k1 k4 k3 ⟨n, n1, n3, n2, n4.symm⟩).symm
  exact ⟨one a b, one b a⟩
theorem agreeP_comm (a b : Rft) : agreeP a b ↔ agreeP b a := by
  have one : ∀ a b : Rft, agreeP a b → agreeP b a := by
    intro a b h ha hb k k1 k2 k3 k4
    have := h hb ha k k2 k1 k4 k3
    simp only [agreeE, Bool.or_eq_true, decide_eq_true_eq] at this ⊢
    rcases this with q | q | q
    · exact .inr (.inl q)
    · exact .inl q
    · exact .inr (.inr q.symm)
  exact ⟨one a b, one b a⟩

theorem c_rMatches (l : List Rft) (hl : l.length ≤ maxLen) (hs : ∀ r ∈ l, r.small) : Ctr Try.prog 85 [.sl 40 (l.map Rft.enc)] (bv (dec (pairsP matchF l))) [] := by
  have hl' : l.length ≤ 9223372036854775807 := Nat.le_trans hl (by decide)
  refine spec_of_body mixed Try.func85 rfl (by kernel_rfl) (by kernel_rfl) ?_; conv => whnf
  refine tri_for0 mixed (by kernel_rfl) (fun i : Nat => i ≤ l.length ∧ ∀ j (hj : j < l.length), j < i → ∀ k (hk : k < j), matchF (l[k]'(Nat.lt_trans hk hj)) (l[j]'hj) = true) (fun i => [(3, iv i)]) [] (fun i => l.length - i) 0 ⟨Nat.zero_le _, fun j _ h => absurd h (Nat.not_lt_zero _)⟩ ?_ ?_
  · conv => whnf
    (refine And.intro (And.intro (by with_unfolding_all rfl) (by intro q h; cases h)) ?_; refine And.intro ?_ (And.intro ?_ ?_) <;> (conv => whnf) <;> (repeat' (first | exact True.intro | (with_reducible exact rfl) | exact (rfl : List.replicate 0 PV.bad = []) | ((with_reducible refine And.intro ?_ ?_) <;> (first | (with_reducible exact wkV_same _ rfl) | exact wkV_pt rfl rfl | exact wkV_ow rfl rfl rfl | (refine wkV_ow rfl rfl ?_) | (refine wkV_sc (congrArg (Value.int .i64) ?_)) | (refine wkV_sc (congrArg Value.bool ?_)) | exact wkV_ls rfl | ((refine wkV_cl ?_); conv => whnf) | ((refine wkV_tu ?_); conv => whnf) | ((refine wkV_ag ?_); conv => whnf) | (conv => whnf))))))
    all_goals rfl
  rintro i ⟨hi, hp⟩
  conv => whnf
  ((first | (with_reducible refine split_dec (fun h => ?_) (fun h => ?_)) | (with_reducible refine split_beq (fun h => ?_) (fun h => ?_)) | (with_reducible refine split_bne (fun h => ?_) (fun h => ?_)) | (with_reducible refine split_not (fun h => ?_) (fun h => ?_)) | (with_reducible refine split_beqS (fun h => ?_) (fun h => ?_)) | (with_reducible refine split_intro (fun h => ?_) (fun h => ?_))) <;> conv => whnf)
  · simp only [List.length_map] at h
    have hlt : i < l.length := by omega
    refine tri_for0 mixed (by kernel_rfl) (fun k : Nat => k ≤ i ∧ ∀ j (hj : j < k) (hjl : j < l.length), matchF (l[j]'hjl) (l[i]'hlt) = true) (fun k => [(4, iv k)]) [] (fun k => i - k) 0 ⟨Nat.zero_le _, fun j h => absurd h (Nat.not_lt_zero _)⟩ ?_ ?_
    · conv => whnf
      (refine And.intro (And.intro (by with_unfolding_all rfl) (by intro q h; cases h)) ?_; refine And.intro ?_ (And.intro ?_ ?_) <;> (conv => whnf) <;> (repeat' (first | exact True.intro | (with_reducible exact rfl) | exact (rfl : List.replicate 0 PV.bad = []) | ((with_reducible refine And.intro ?_ ?_) <;> (first | (with_reducible exact wkV_same _ rfl) | exact wkV_pt rfl rfl | exact wkV_ow rfl rfl rfl | (refine wkV_ow rfl rfl ?_) | (refine wkV_sc (congrArg (Value.int .i64) ?_)) | (refine wkV_sc (congrArg Value.bool ?_)) | exact wkV_ls rfl | ((refine wkV_cl ?_); conv => whnf) | ((refine wkV_tu ?_); conv => whnf) | ((refine wkV_ag ?_); conv => whnf) | (conv => whnf))))))
      all_goals rfl
    rintro k ⟨hk, hq⟩
    conv => whnf
    ((first | (with_reducible refine split_dec (fun h => ?_) (fun h => ?_)) | (with_reducible refine split_beq (fun h => ?_) (fun h => ?_)) | (with_reducible refine split_bne (fun h => ?_) (fun h => ?_)) | (with_reducible refine split_not (fun h => ?_) (fun h => ?_)) | (with_reducible refine split_beqS (fun h => ?_) (fun h => ?_)) | (with_reducible refine split_intro (fun h => ?_) (fun h => ?_))) <;> conv => whnf)
    · have hki : k < i := by omega
      have hkl : k < l.length := by omega
      (first | ((with_reducible refine And.intro (by omega) (Exists.intro _ (And.intro (row_at hlt) ?_))); conv => whnf))
      (first | ((with_reducible refine And.intro (by omega) (Exists.intro _ (And.intro (row_at hkl) ?_))); conv => whnf))
      have hc := c_rPair (l[i]'hlt) (l[k]'hkl) (hs _ (List.getElem_mem hlt)) (hs _ (List.getElem_mem hkl))
      rw [dec_iff (matchP_comm (l[i]'hlt) (l[k]'hkl))] at hc
      ((try ((refine Exists.intro none ?_); (conv => whnf))); first | ((with_reducible refine call_by (hc) ?_); conv => whnf))
      ((first | (with_reducible refine split_dec (fun h => ?_) (fun h => ?_)) | (with_reducible refine split_beq (fun h => ?_) (fun h => ?_)) | (with_reducible refine split_bne (fun h => ?_) (fun h => ?_)) | (with_reducible refine split_not (fun h => ?_) (fun h => ?_)) | (with_reducible refine split_beqS (fun h => ?_) (fun h => ?_)) | (with_reducible refine split_intro (fun h => ?_) (fun h => ?_))) <;> conv => whnf)
      · refine exit_plain rfl ?_
        rw [dec_false]
        intro hh
        have := hh i hlt k hki
        unfold matchF at this
        rw [this] at h; cases h
      · refine ⟨k + 1, ⟨⟨by omega, ?_⟩, by omega⟩, ?_⟩
        · intro j hj hjl
          by_cases e : j = k
          · subst e; exact h
          · exact hq j (by omega) hjl
        · conv => whnf
          (refine And.intro (And.intro (by with_unfolding_all rfl) (by intro q h; cases h)) ?_; refine And.intro ?_ (And.intro ?_ ?_) <;> (conv => whnf) <;> (repeat' (first | exact True.intro | (with_reducible exact rfl) | exact (rfl : List.replicate 0 PV.bad = []) | ((with_reducible refine And.intro ?_ ?_) <;> (first | (with_reducible exact wkV_same _ rfl) | exact wkV_pt rfl rfl | exact wkV_ow rfl rfl rfl | (refine wkV_ow rfl rfl ?_) | (refine wkV_sc (congrArg (Value.int .i64) ?_)) | (refine wkV_sc (congrArg Value.bool ?_)) | exact wkV_ls rfl | ((refine wkV_cl ?_); conv => whnf) | ((refine wkV_tu ?_); conv => whnf) | ((refine wkV_ag ?_); conv => whnf) | (conv => whnf))))))
          all_goals first | exact w1 (by omega) | rfl
    · have : k = i := by omega
      subst this
      refine ⟨k + 1, ⟨⟨by omega, ?_⟩, by omega⟩, ?_⟩
      · intro j hj hji m hm
        by_cases e : j = k
        · subst e; exact hq m hm (by omega)
        · exact hp j hj (by omega) m hm
      · conv => whnf
        (refine And.intro (And.intro (by with_unfolding_all rfl) (by intro q h; cases h)) ?_; refine And.intro ?_ (And.intro ?_ ?_) <;> (conv => whnf) <;> (repeat' (first | exact True.intro | (with_reducible exact rfl) | exact (rfl : List.replicate 0 PV.bad = []) | ((with_reducible refine And.intro ?_ ?_) <;> (first | (with_reducible exact wkV_same _ rfl) | exact wkV_pt rfl rfl | exact wkV_ow rfl rfl rfl | (refine wkV_ow rfl rfl ?_) | (refine wkV_sc (congrArg (Value.int .i64) ?_)) | (refine wkV_sc (congrArg Value.bool ?_)) | exact wkV_ls rfl | ((refine wkV_cl ?_); conv => whnf) | ((refine wkV_tu ?_); conv => whnf) | ((refine wkV_ag ?_); conv => whnf) | (conv => whnf))))))
        all_goals first | exact w1 (by omega) | rfl
  · simp only [List.length_map] at h
    have : i = l.length := by omega
    subst this
    refine exit_plain rfl ?_
    rw [dec_true]
    intro i hi k hk
    exact hp i hi hi k hk

theorem c_rAgrees (l : List Rft) (hl : l.length ≤ maxLen) (hs : ∀ r ∈ l, r.small) : Ctr Try.prog 87 [.sl 40 (l.map Rft.enc)] (bv (dec (pairsP agreeF l))) [] := by
  have hl' : l.length ≤ 9223372036854775807 := Nat.le_trans hl (by decide)
  refine spec_of_body mixed Try.func87 rfl (by kernel_rfl) (by kernel_rfl) ?_; conv => whnf
  refine tri_for0 mixed (by kernel_rfl) (fun i : Nat => i ≤ l.length ∧ ∀ j (hj : j < l.length), j < i → ∀ k (hk : k < j), agreeF (l[k]'(Nat.lt_trans hk hj)) (l[j]'hj) = true) (fun i => [(3, iv i)]) [] (fun i => l.length - i) 0 ⟨Nat.zero_le _, fun j _ h => absurd h (Nat.not_lt_zero _)⟩ ?_ ?_
  · conv => whnf
    (refine And.intro (And.intro (by with_unfolding_all rfl) (by intro q h; cases h)) ?_; refine And.intro ?_ (And.intro ?_ ?_) <;> (conv => whnf) <;> (repeat' (first | exact True.intro | (with_reducible exact rfl) | exact (rfl : List.replicate 0 PV.bad = []) | ((with_reducible refine And.intro ?_ ?_) <;> (first | (with_reducible exact wkV_same _ rfl) | exact wkV_pt rfl rfl | exact wkV_ow rfl rfl rfl | (refine wkV_ow rfl rfl ?_) | (refine wkV_sc (congrArg (Value.int .i64) ?_)) | (refine wkV_sc (congrArg Value.bool ?_)) | exact wkV_ls rfl | ((refine wkV_cl ?_); conv => whnf) | ((refine wkV_tu ?_); conv => whnf) | ((refine wkV_ag ?_); conv => whnf) | (conv => whnf))))))
    all_goals rfl
  rintro i ⟨hi, hp⟩
  conv => whnf
  ((first | (with_reducible refine split_dec (fun h => ?_) (fun h => ?_)) | (with_reducible refine split_beq (fun h => ?_) (fun h => ?_)) | (with_reducible refine split_bne (fun h => ?_) (fun h => ?_)) | (with_reducible refine split_not (fun h => ?_) (fun h => ?_)) | (with_reducible refine split_beqS (fun h => ?_) (fun h => ?_)) | (with_reducible refine split_intro (fun h => ?_) (fun h => ?_))) <;> conv => whnf)
  · simp only [List.length_map] at h
    have hlt : i < l.length := by omega
    refine tri_for0 mixed (by kernel_rfl) (fun k : Nat => k ≤ i ∧ ∀ j (hj : j < k) (hjl : j < l.length), agreeF (l[j]'hjl) (l[i]'hlt) = true) (fun k => [(4, iv k)]) [] (fun k => i - k) 0 ⟨Nat.zero_le _, fun j h => absurd h (Nat.not_lt_zero _)⟩ ?_ ?_
    · conv => whnf
      (refine And.intro (And.intro (by with_unfolding_all rfl) (by intro q h; cases h)) ?_; refine And.intro ?_ (And.intro ?_ ?_) <;> (conv => whnf) <;> (repeat' (first | exact True.intro | (with_reducible exact rfl) | exact (rfl : List.replicate 0 PV.bad = []) | ((with_reducible refine And.intro ?_ ?_) <;> (first | (with_reducible exact wkV_same _ rfl) | exact wkV_pt rfl rfl | exact wkV_ow rfl rfl rfl | (refine wkV_ow rfl rfl ?_) | (refine wkV_sc (congrArg (Value.int .i64) ?_)) | (refine wkV_sc (congrArg Value.bool ?_)) | exact wkV_ls rfl | ((refine wkV_cl ?_); conv => whnf) | ((refine wkV_tu ?_); conv => whnf) | ((refine wkV_ag ?_); conv => whnf) | (conv => whnf))))))
      all_goals rfl
    rintro k ⟨hk, hq⟩
    conv => whnf
    ((first | (with_reducible refine split_dec (fun h => ?_) (fun h => ?_)) | (with_reducible refine split_beq (fun h => ?_) (fun h => ?_)) | (with_reducible refine split_bne (fun h => ?_) (fun h => ?_)) | (with_reducible refine split_not (fun h => ?_) (fun h => ?_)) | (with_reducible refine split_beqS (fun h => ?_) (fun h => ?_)) | (with_reducible refine split_intro (fun h => ?_) (fun h => ?_))) <;> conv => whnf)
    · have hki : k < i := by omega
      have hkl : k < l.length := by omega
      (first | ((with_reducible refine And.intro (by omega) (Exists.intro _ (And.intro (row_at hlt) ?_))); conv => whnf))
      (first | ((with_reducible refine And.intro (by omega) (Exists.intro _ (And.intro (row_at hkl) ?_))); conv => whnf))
      have hc := c_rPair (l[i]'hlt) (l[k]'hkl) (hs _ (List.getElem_mem hlt)) (hs _ (List.getElem_mem hkl))
      rw [dec_iff (agreeP_comm (l[i]'hlt) (l[k]'hkl))] at hc
      ((try ((refine Exists.intro none ?_); (conv => whnf))); first | ((with_reducible refine call_by (hc) ?_); conv => whnf))
      ((first | (with_reducible refine split_dec (fun h => ?_) (fun h => ?_)) | (with_reducible refine split_beq (fun h => ?_) (fun h => ?_)) | (with_reducible refine split_bne (fun h => ?_) (fun h => ?_)) | (with_reducible refine split_not (fun h => ?_) (fun h => ?_)) | (with_reducible refine split_beqS (fun h => ?_) (fun h => ?_)) | (with_reducible refine split_intro (fun h => ?_) (fun h => ?_))) <;> conv => whnf)
      · refine exit_plain rfl ?_
        rw [dec_false]
        intro hh
        have := hh i hlt k hki
        have h2 : dec (agreeP (l[k]'hkl) (l[i]'hlt)) = true := this
        rw [h2] at h; cases h
      · refine ⟨k + 1, ⟨⟨by omega, ?_⟩, by omega⟩, ?_⟩
        · intro j hj hjl
          by_cases e : j = k
          · subst e; exact h
          · exact hq j (by omega) hjl
        · conv => whnf
          (refine And.intro (And.intro (by with_unfolding_all rfl) (by intro q h; cases h)) ?_; refine And.intro ?_ (And.intro ?_ ?_) <;> (conv => whnf) <;> (repeat' (first | exact True.intro | (with_reducible exact rfl) | exact (rfl : List.replicate 0 PV.bad = []) | ((with_reducible refine And.intro ?_ ?_) <;> (first | (with_reducible exact wkV_same _ rfl) | exact wkV_pt rfl rfl | exact wkV_ow rfl rfl rfl | (refine wkV_ow rfl rfl ?_) | (refine wkV_sc (congrArg (Value.int .i64) ?_)) | (refine wkV_sc (congrArg Value.bool ?_)) | exact wkV_ls rfl | ((refine wkV_cl ?_); conv => whnf) | ((refine wkV_tu ?_); conv => whnf) | ((refine wkV_ag ?_); conv => whnf) | (conv => whnf))))))
          all_goals first | exact w1 (by omega) | rfl
    · have : k = i := by omega
      subst this
      refine ⟨k + 1, ⟨⟨by omega, ?_⟩, by omega⟩, ?_⟩
      · intro j hj hji m hm
        by_cases e : j = k
        · subst e; exact hq m hm (by omega)
        · exact hp j hj (by omega) m hm
      · conv => whnf
        (refine And.intro (And.intro (by with_unfolding_all rfl) (by intro q h; cases h)) ?_; refine And.intro ?_ (And.intro ?_ ?_) <;> (conv => whnf) <;> (repeat' (first | exact True.intro | (with_reducible exact rfl) | exact (rfl : List.replicate 0 PV.bad = []) | ((with_reducible refine And.intro ?_ ?_) <;> (first | (with_reducible exact wkV_same _ rfl) | exact wkV_pt rfl rfl | exact wkV_ow rfl rfl rfl | (refine wkV_ow rfl rfl ?_) | (refine wkV_sc (congrArg (Value.int .i64) ?_)) | (refine wkV_sc (congrArg Value.bool ?_)) | exact wkV_ls rfl | ((refine wkV_cl ?_); conv => whnf) | ((refine wkV_tu ?_); conv => whnf) | ((refine wkV_ag ?_); conv => whnf) | (conv => whnf))))))
        all_goals first | exact w1 (by omega) | rfl
  · simp only [List.length_map] at h
    have : i = l.length := by omega
    subst this
    refine exit_plain rfl ?_
    rw [dec_true]
    intro i hi k hk
    exact hp i hi hi k hk

def heavy1 (r : Rft) : Bool := heavyH r.hard || decide (200 < (r.reads.length : Int))
def heavyL (l : List Rft) : Bool := decide (30 < (l.length : Int)) || l.any heavy1
theorem c_heavy26 (l : List Rft) : Ctr Try.prog 81 [.sl 40 (l.map Rft.enc)] (bv (heavyL l)) [] := by
  refine spec_of_body mixed Try.func81 rfl (by kernel_rfl) (by kernel_rfl) ?_; conv => whnf
  ((first | (with_reducible refine split_dec (fun h => ?_) (fun h => ?_)) | (with_reducible refine split_beq (fun h => ?_) (fun h => ?_)) | (with_reducible refine split_bne (fun h => ?_) (fun h => ?_)) | (with_reducible refine split_not (fun h => ?_) (fun h => ?_)) | (with_reducible refine split_beqS (fun h => ?_) (fun h => ?_)) | (with_reducible refine split_intro (fun h => ?_) (fun h => ?_))) <;> conv => whnf)
  · exact exit_plain rfl (by simp at h; simp [heavyL, h])
  · have hl : l.length ≤ 30 := by simp at h; omega
    refine tri_for0 mixed (by kernel_rfl) (fun i : Nat => i ≤ l.length ∧ ∀ j (hj : j < l.length), j < i → heavy1 (l[j]'hj) = false) (fun i => [(3, iv i)]) [] (fun i => l.length - i) 0 ⟨Nat.zero_le _, fun j _ h => absurd h (Nat.not_lt_zero _)⟩ ?_ ?_
    · conv => whnf
      (refine And.intro (And.intro (by with_unfolding_all rfl) (by intro q h; cases h)) ?_; refine And.intro ?_ (And.intro ?_ ?_) <;> (conv => whnf) <;> (repeat' (first | exact True.intro | (with_reducible exact rfl) | exact (rfl : List.replicate 0 PV.bad = []) | ((with_reducible refine And.intro ?_ ?_) <;> (first | (with_reducible exact wkV_same _ rfl) | exact wkV_pt rfl rfl | exact wkV_ow rfl rfl rfl | (refine wkV_ow rfl rfl ?_) | (refine wkV_sc (congrArg (Value.int .i64) ?_)) | (refine wkV_sc (congrArg Value.bool ?_)) | exact wkV_ls rfl | ((refine wkV_cl ?_); conv => whnf) | ((refine wkV_tu ?_); conv => whnf) | ((refine wkV_ag ?_); conv => whnf) | (conv => whnf))))))
      all_goals rfl
    · rintro i ⟨hi, hp⟩
      conv => whnf
      ((first | (with_reducible refine split_dec (fun h => ?_) (fun h => ?_)) | (with_reducible refine split_beq (fun h => ?_) (fun h => ?_)) | (with_reducible refine split_bne (fun h => ?_) (fun h => ?_)) | (with_reducible refine split_not (fun h => ?_) (fun h => ?_)) | (with_reducible refine split_beqS (fun h => ?_) (fun h => ?_)) | (with_reducible refine split_intro (fun h => ?_) (fun h => ?_))) <;> conv => whnf)
      · have hlt : i < l.length := by simp at h; omega
        have stop : heavy1 (l[i]'hlt) = true → heavyL l = true := fun hh => by
          have := any_at (p := heavy1) hlt hh
          simp [heavyL, this]
        (first | ((with_reducible refine And.intro (by omega) (Exists.intro _ (And.intro (row_at hlt) ?_))); conv => whnf))
        ((try ((refine Exists.intro none ?_); (conv => whnf))); first | ((with_reducible refine call_by (c_Heavy09 (l[i]'hlt).hard) ?_); conv => whnf))
        ((first | (with_reducible refine split_dec (fun h => ?_) (fun h => ?_)) | (with_reducible refine split_beq (fun h => ?_) (fun h => ?_)) | (with_reducible refine split_bne (fun h => ?_) (fun h => ?_)) | (with_reducible refine split_not (fun h => ?_) (fun h => ?_)) | (with_reducible refine split_beqS (fun h => ?_) (fun h => ?_)) | (with_reducible refine split_intro (fun h => ?_) (fun h => ?_))) <;> conv => whnf)
        · exact exit_plain rfl (by rw [stop (by simp [heavy1, h])])
        · have h0 := h
          (first | ((with_reducible refine And.intro (by omega) (Exists.intro _ (And.intro (row_at hlt) ?_))); conv => whnf))
          ((first | (with_reducible refine split_dec (fun h => ?_) (fun h => ?_)) | (with_reducible refine split_beq (fun h => ?_) (fun h => ?_)) | (with_reducible refine split_bne (fun h => ?_) (fun h => ?_)) | (with_reducible refine split_not (fun h => ?_) (fun h => ?_)) | (with_reducible refine split_beqS (fun h => ?_) (fun h => ?_)) | (with_reducible refine split_intro (fun h => ?_) (fun h => ?_))) <;> conv => whnf)
          · simp only [List.length_map] at h
            exact exit_plain rfl (by rw [stop (by simp [heavy1, h])])
          · simp only [List.length_map] at h
            refine ⟨i + 1, ⟨⟨by omega, ?_⟩, by omega⟩, ?_⟩
            · intro j hj hji
              by_cases e : j = i
              · subst e; unfold heavy1; rw [h0, decide_eq_false h]; rfl
              · exact hp j hj (by omega)
            · conv => whnf
              (refine And.intro (And.intro (by with_unfolding_all rfl) (by intro q h; cases h)) ?_; refine And.intro ?_ (And.intro ?_ ?_) <;> (conv => whnf) <;> (repeat' (first | exact True.intro | (with_reducible exact rfl) | exact (rfl : List.replicate 0 PV.bad = []) | ((with_reducible refine And.intro ?_ ?_) <;> (first | (with_reducible exact wkV_same _ rfl) | exact wkV_pt rfl rfl | exact wkV_ow rfl rfl rfl | (refine wkV_ow rfl rfl ?_) | (refine wkV_sc (congrArg (Value.int .i64) ?_)) | (refine wkV_sc (congrArg Value.bool ?_)) | exact wkV_ls rfl | ((refine wkV_cl ?_); conv => whnf) | ((refine wkV_tu ?_); conv => whnf) | ((refine wkV_ag ?_); conv => whnf) | (conv => whnf))))))
              all_goals first | exact w1 (by omega) | rfl
      · have : i = l.length := by simp at h; omega
        subst this
        refine exit_plain rfl ?_
        have := any_none (p := heavy1) fun j hj => hp j hj hj
        simp only [heavyL, this, Bool.or_false]
        rw [decide_eq_false (by omega)]

theorem heavyL_small {l : List Rft} (h : heavyL l = false) (hok : ∀ r ∈ l, r.ok) : l.length ≤ 30 ∧ ∀ r ∈ l, r.small := by
  unfold heavyL at h
  simp only [Bool.or_eq_false_iff, decide_eq_false_iff_not, List.any_eq_false] at h
  refine ⟨by omega, fun r hr => ?_⟩
  have h1 := h.2 r hr
  simp only [heavy1, heavyH, heavyEs, Bool.not_eq_true, Bool.or_eq_false_iff, decide_eq_false_iff_not] at h1
  obtain ⟨⟨⟨h1, _⟩, h2⟩, h3⟩ := h1
  exact ⟨by omega, (hok r hr).2.1.2.2.1, by omega, by omega⟩

theorem wkV_fz {kb : List Nat} {rn : List (Nat × Nat)} {fz : List (Nat × Bool × Nat × List (List PV))} {k n : Nat} {b : Bool} {sz : Nat} {rows : List (List PV)} (h : (k, b, sz, rows) ∈ fz) (hn : n = rows.length) : WkV kb rn fz (.ow k 0 n) (.sl sz rows) := by
  subst hn
  simp only [WkV]
  exact .inr (.inr ⟨k, 0, _, b, rows, rfl, h, by omega, by simp⟩)

/-- A twin, as a value. -/
theorem c_TwinRaftV (r : Rft) (h : r.small) : Ctr Try.prog 55 [.ag r.enc] (.ag r.enc) [] := by
  refine Ctr.frz (c_TwinRaft r h.snap h.log h.reads) (wkV_ag ?_)
  conv => whnf
  repeat' (first | exact rfl | ((with_reducible refine And.intro ?_ ?_) <;> (first | (with_reducible exact wkV_same _ rfl) | exact wkV_fz (b := false) (List.Mem.head _) rfl | exact wkV_fz (b := false) (List.Mem.tail _ (List.Mem.head _)) rfl | exact wkV_fz (b := false) (List.Mem.tail _ (List.Mem.tail _ (List.Mem.head _))) rfl | (conv => whnf))))
end Go.Proofs
