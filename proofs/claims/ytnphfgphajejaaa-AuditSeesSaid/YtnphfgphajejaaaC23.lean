/- Contracts of functions: what holds of any two replicas; leaders. -/
import Derived.Test.YtnphfgphajejaaaC22
import Derived.Test.YtnphfgphajejaaaC14
import Derived.Test.YtnphfgphajejaaaC9
import Derived.Test.YtnphfgphajejaaaPvV
namespace Go.Proofs
open Go.Pv
set_option maxRecDepth 100000

noncomputable def dec (p : Prop) : Bool := @decide p (Classical.propDecidable p)
theorem dec_true {p : Prop} (h : p) : dec p = true := by unfold dec; simp [h]
theorem dec_false {p : Prop} (h : ¬ p) : dec p = false := by unfold dec; simp [h]
theorem dec_iff {p q : Prop} (h : p ↔ q) : dec p = dec q := by rw [propext h]
theorem dec_eq_true {p : Prop} : dec p = true ↔ p := by unfold dec; simp
theorem dec_eq_false {p : Prop} : dec p = false ↔ ¬ p := by unfold dec; simp
theorem dec_bool (b : Bool) : dec (b = true) = b := by cases b; exact dec_false (by simp); exact dec_true rfl

/-- Of any two, the earlier one first. -/
def pairsP (f : Rft → Rft → Bool) (l : List Rft) : Prop := ∀ i (hi : i < l.length) k (hk : k < i), f (l[k]'(Nat.lt_trans hk hi)) (l[i]'hi) = true

theorem c_pairs (l : List Rft) (hl : l.length ≤ maxLen) (g : Nat) (f : Rft → Rft → Bool) (hg : ∀ a ∈ l, ∀ b ∈ l, Ctr Try.prog g [.ag a.enc, .ag b.enc] (bv (f a b)) []) : Ctr Try.prog 175 [.sl 40 (l.map Rft.enc), .cl g []] (bv (dec (pairsP f l))) [] := by
  have hl' : l.length ≤ 9223372036854775807 := Nat.le_trans hl (by decide)
  refine spec_of_body mixed Try.func175 rfl (by kernel_rfl) (by kernel_rfl) ?_; conv => whnf
  refine tri_for0 mixed (by kernel_rfl) (fun i : Nat => i ≤ l.length ∧ ∀ j (hj : j < l.length), j < i → ∀ k (hk : k < j), f (l[k]'(Nat.lt_trans hk hj)) (l[j]'hj) = true) (fun i => [(9, iv i)]) [] (fun i => l.length - i) 0 ⟨Nat.zero_le _, fun j _ h => absurd h (Nat.not_lt_zero _)⟩ ?_ ?_
  · conv => whnf
    (refine And.intro (And.intro (by with_unfolding_all rfl) (by intro q h; cases h)) ?_; refine And.intro ?_ (And.intro ?_ ?_) <;> (conv => whnf) <;> (repeat' (first | exact True.intro | (with_reducible exact rfl) | exact (rfl : List.replicate 0 PV.bad = []) | ((with_reducible refine And.intro ?_ ?_) <;> (first | (with_reducible exact wkV_same _ rfl) | exact wkV_pt rfl rfl | exact wkV_ow rfl rfl rfl | (refine wkV_ow rfl rfl ?_) | (refine wkV_sc (congrArg (Value.int .i64) ?_)) | (refine wkV_sc (congrArg Value.bool ?_)) | exact wkV_ls rfl | ((refine wkV_cl ?_); conv => whnf) | ((refine wkV_tu ?_); conv => whnf) | ((refine wkV_ag ?_); conv => whnf) | (conv => whnf))))))
    all_goals rfl
  rintro i ⟨hi, hp⟩
  conv => whnf
  ((first | (with_reducible refine split_dec (fun h => ?_) (fun h => ?_)) | (with_reducible refine split_beq (fun h => ?_) (fun h => ?_)) | (with_reducible refine split_bne (fun h => ?_) (fun h => ?_)) | (with_reducible refine split_not (fun h => ?_) (fun h => ?_)) | (with_reducible refine split_beqS (fun h => ?_) (fun h => ?_)) | (with_reducible refine split_intro (fun h => ?_) (fun h => ?_))) <;> conv => whnf)
  · simp only [List.length_map] at h
    have hlt : i < l.length := by omega
    refine tri_for0 mixed (by kernel_rfl) (fun k : Nat => k ≤ i ∧ ∀ j (hj : j < k) (hjl : j < l.length), f (l[j]'hjl) (l[i]'hlt) = true) (fun k => [(13, iv k)]) [] (fun k => i - k) 0 ⟨Nat.zero_le _, fun j h => absurd h (Nat.not_lt_zero _)⟩ ?_ ?_
    · conv => whnf
      (refine And.intro (And.intro (by with_unfolding_all rfl) (by intro q h; cases h)) ?_; refine And.intro ?_ (And.intro ?_ ?_) <;> (conv => whnf) <;> (repeat' (first | exact True.intro | (with_reducible exact rfl) | exact (rfl : List.replicate 0 PV.bad = []) | ((with_reducible refine And.intro ?_ ?_) <;> (first | (with_reducible exact wkV_same _ rfl) | exact wkV_pt rfl rfl | exact wkV_ow rfl rfl rfl | (refine wkV_ow rfl rfl ?_) | (refine wkV_sc (congrArg (Value.int .i64) ?_)) | (refine wkV_sc (congrArg Value.bool ?_)) | exact wkV_ls rfl | ((refine wkV_cl ?_); conv => whnf) | ((refine wkV_tu ?_); conv => whnf) | ((refine wkV_ag ?_); conv => whnf) | (conv => whnf))))))
      all_goals rfl
    rintro k ⟨hk, hq⟩
    conv => whnf
    ((first | (with_reducible refine split_dec (fun h => ?_) (fun h => ?_)) | (with_reducible refine split_beq (fun h => ?_) (fun h => ?_)) | (with_reducible refine split_bne (fun h => ?_) (fun h => ?_)) | (with_reducible refine split_not (fun h => ?_) (fun h => ?_)) | (with_reducible refine split_beqS (fun h => ?_) (fun h => ?_)) | (with_reducible refine split_intro (fun h => ?_) (fun h => ?_))) <;> conv => whnf)
    · have hki : k < i := by omega
      have hkl : k < l.length := by omega
      refine ⟨by omega, _, row_at hkl, ?_⟩
      conv => whnf
      refine ⟨by omega, _, row_at hlt, ?_⟩
      conv => whnf
      have hc := hg _ (List.getElem_mem hkl) _ (List.getElem_mem hlt)
      ((try ((refine Exists.intro none ?_); (conv => whnf))); first | ((with_reducible refine call_by (hc) ?_); conv => whnf))
      ((first | (with_reducible refine split_dec (fun h => ?_) (fun h => ?_)) | (with_reducible refine split_beq (fun h => ?_) (fun h => ?_)) | (with_reducible refine split_bne (fun h => ?_) (fun h => ?_)) | (with_reducible refine split_not (fun h => ?_) (fun h => ?_)) | (with_reducible refine split_beqS (fun h => ?_) (fun h => ?_)) | (with_reducible refine split_intro (fun h => ?_) (fun h => ?_))) <;> conv => whnf)
      · refine exit_plain rfl ?_
        rw [dec_false]
        intro hh
        have := hh i hlt k hki
        rw [this] at h; cases h
      · refine ⟨k + 1, ⟨⟨by omega, ?_⟩, by omega⟩, ?_⟩
        · intro j hj hjl
          by_cases e : j = k
          · subst e; exact h
          · exact hq j (by omega) hjl
        · conv => whnf
          (refine And.intro (And.intro (by with_unfolding_all rfl) (by intro q h; cases h)) ?_; refine And.intro ?_ (And.intro ?_ ?_) <;> (conv => whnf) <;> (repeat' (first | exact True.intro | (with_reducible exact rfl) | exact (rfl : List.replicate 0 PV.bad = []) | ((with_reducible refine And.intro ?_ ?_) <;> (first | (with_reducible exact wkV_same _ rfl) | exact wkV_pt rfl rfl | exact wkV_ow rfl rfl rfl | (refine wkV_ow rfl rfl ?_) | (refine wkV_sc (congrArg (Value.int .i64) ?_)) | (refine wkV_sc (congrArg Value.bool ?_)) | exact wkV_ls rfl | ((refine wkV_cl ?_); conv => whnf) | ((refine wkV_tu ?_); conv => whnf) | ((refine wkV_ag ?_); conv => whnf) | (conv => whnf))))))
          all_goals first | exact w1 (by omega) | rfl
    · have : k = i := by omega
      subst this
      refine ⟨k + 1, ⟨⟨by omega, ?_⟩, by omega⟩, ?_⟩
      · intro j hj hji m hm
        by_cases e : j = k
        · subst e; exact hq m hm (by omega)
        · exact hp j hj (by omega) m hm
      · conv => whnf
        (refine And.intro (And.intro (by with_unfolding_all rfl) (by intro q h; cases h)) ?_; refine And.intro ?_ (And.intro ?_ ?_) <;> (conv => whnf) <;> (repeat' (first | exact True.intro | (with_reducible exact rfl) | exact (rfl : List.replicate 0 PV.bad = []) | ((with_reducible refine And.intro ?_ ?_) <;> (first | (with_reducible exact wkV_same _ rfl) | exact wkV_pt rfl rfl | exact wkV_ow rfl rfl rfl | (refine wkV_ow rfl rfl ?_) | (refine wkV_sc (congrArg (Value.int .i64) ?_)) | (refine wkV_sc (congrArg Value.bool ?_)) | exact wkV_ls rfl | ((refine wkV_cl ?_); conv => whnf) | ((refine wkV_tu ?_); conv => whnf) | ((refine wkV_ag ?_); conv => whnf) | (conv => whnf))))))
        all_goals first | exact w1 (by omega) | rfl
  · simp only [List.length_map] at h
    have : i = l.length := by omega
    subst this
    refine exit_plain rfl ?_
    rw [dec_true]
    intro i hi k hk
    exact hp i hi hi k hk

def leadF (a b : Rft) : Bool := !(a.role == 3 && b.role == 3 && a.hard.term == b.hard.term)
theorem c_Leaders1 (a b : Rft) : Ctr Try.prog 176 [.ag a.enc, .ag b.enc] (bv (leadF a b)) [] := by
  refine spec_of_body mixed Try.func176 rfl (by kernel_rfl) (by kernel_rfl) ?_; conv => whnf
  repeat' ((first | (with_reducible refine split_dec (fun h => ?_) (fun h => ?_)) | (with_reducible refine split_beq (fun h => ?_) (fun h => ?_)) | (with_reducible refine split_bne (fun h => ?_) (fun h => ?_)) | (with_reducible refine split_not (fun h => ?_) (fun h => ?_)) | (with_reducible refine split_beqS (fun h => ?_) (fun h => ?_)) | (with_reducible refine split_intro (fun h => ?_) (fun h => ?_))) <;> conv => whnf)
  all_goals (refine exit_plain rfl ?_)
  all_goals simp_all [leadF]
  all_goals rfl
theorem c_Leaders (l : List Rft) (hl : l.length ≤ maxLen) : Ctr Try.prog 82 [.sl 40 (l.map Rft.enc)] (bv (dec (pairsP leadF l))) [] := by
  refine spec_of_body mixed Try.func82 rfl (by kernel_rfl) (by kernel_rfl) ?_; conv => whnf
  ((try ((refine Exists.intro none ?_); (conv => whnf))); first | ((with_reducible refine call_by (c_pairs l hl 176 leadF (fun a _ b _ => c_Leaders1 a b)) ?_); conv => whnf))
  exact exit_plain rfl rfl

theorem leadF_comm (a b : Rft) : leadF a b = leadF b a := by
  unfold leadF
  rw [Bool.and_comm (a.role == 3), show (a.hard.term == b.hard.term) = (b.hard.term == a.hard.term) from by rw [Bool.eq_iff_iff, beq_iff_eq, beq_iff_eq]; exact ⟨Eq.symm, Eq.symm⟩]
end Go.Proofs
