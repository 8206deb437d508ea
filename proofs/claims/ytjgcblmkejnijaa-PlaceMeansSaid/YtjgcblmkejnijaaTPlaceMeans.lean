/- PlaceMeans: a region without places has no mean; one of one place has its score. -/
import Derived.Test.YtjgcblmkejnijaaD9
import Derived.Test.YtjgcblmkejnijaaPvZ2
set_option linter.unusedSimpArgs false
set_option linter.unusedVariables false
namespace Go.Proofs
open Go.Pv
set_option maxRecDepth 100000

theorem c_NMean0 : Ctr Try.prog 69 [.nl] (.sc (.float .f64 9221120237041090561)) [] := by
  refine spec_of_body mixed Try.func69 rfl (by kernel_rfl) (by kernel_rfl) ?_; conv => whnf
  ((try ((refine Exists.intro none ?_); (conv => whnf))); first | ((with_reducible refine call_by (c_nanW) ?_); conv => whnf))
  exact exit_plain rfl rfl
theorem near_one : FloatKind.f64.nearest (1 : Int) = oneF := by kernel_rfl
theorem c_NMean1 (x : Nat) (hx : fnanB x = false) : ∃ r, fnanB r = false ∧ fv r = fv x ∧ Ctr Try.prog 69 [.sl 1 [[.sc (.float .f64 x)]]] (.sc (.float .f64 r)) [] := by
  obtain ⟨a, a1, a2, a3⟩ := zero_add_f hx
  obtain ⟨b, b1, b2, b3⟩ := div_one_f a2
  refine ⟨b, b2, b3.trans a3, ?_⟩
  have hc : canonW b = b := by unfold canonW; rw [b2]; rfl
  have kc := c_CanonF b
  rw [hc] at kc
  refine spec_of_body mixed Try.func69 rfl (by kernel_rfl) (by kernel_rfl) ?_; conv => whnf
  refine tri_rounds mixed (by kernel_rfl) 2 ?_
  conv => whnf
  ((with_reducible refine And.intro (by with_unfolding_all decide) ?_); refine Exists.intro _ (And.intro (by with_unfolding_all rfl) ?_); conv => whnf)
  refine split_opt (fun h => by rw [a1] at h; cases h) (fun r h => ?_)
  obtain rfl : r = a := by rw [a1] at h; injection h with h; exact h.symm
  conv => whnf
  rw [show FloatKind.f64.nearest (([[PV.sc (Value.float .f64 x)]].length : Nat) : Int) = oneF from near_one]
  refine split_opt (fun h => ?_) (fun r2 h => ?_)
  · rw [b1] at h; cases h
  obtain rfl : r2 = b := by
    rw [b1] at h; injection h with h; exact h.symm
  conv => whnf
  ((try ((refine Exists.intro none ?_); (conv => whnf))); refine call_eq (kc) (by kernel_rfl) ?_; conv => whnf)
  exact exit_plain rfl rfl
theorem one_le {p : Pl} : [p].length ≤ 4294967 := by show 1 ≤ 4294967; decide
theorem c_MeanN (p : Pl) (h : plsB [p] = true) (rg : Int) (hr : ¬ (0 ≤ rg ∧ rg < 3)) : Ctr Try.prog 28 [.sl 4 [p.enc], iv rg] (.tu [.sc (.float .f64 0), iv 1]) [] := by
  have k : Ctr Try.prog 67 [.sl 4 [p.enc], iv rg] (.tu [.nl, iv 1]) [] := c_withinN [p] one_le h rg hr
  refine spec_of_body mixed Try.func28 rfl (by kernel_rfl) (by kernel_rfl) ?_; conv => whnf
  ((try ((refine Exists.intro none ?_); (conv => whnf))); first | ((with_reducible refine call_by (k) ?_); conv => whnf))
  exact exit_plain rfl rfl
theorem c_Mean0 (p : Pl) (h : plsB [p] = true) (rg : Int) (hr : 0 ≤ rg ∧ rg < 3) (hn : ¬ p.region = rg) : Ctr Try.prog 28 [.sl 4 [p.enc], iv rg] (.tu [.sc (.float .f64 9221120237041090561), iv 0]) [] := by
  have k : Ctr Try.prog 67 [.sl 4 [p.enc], iv rg] (.tu [.sl 4 ((regL [p] rg).map Pl.enc), iv 0]) [] := c_within14 [p] one_le h rg hr
  have e : regL [p] rg = [] := by unfold regL; simp [hn]
  rw [e] at k
  refine spec_of_body mixed Try.func28 rfl (by kernel_rfl) (by kernel_rfl) ?_; conv => whnf
  ((try ((refine Exists.intro none ?_); (conv => whnf))); first | ((with_reducible refine call_by (k) ?_); conv => whnf))
  (refine Exists.intro _ (And.intro rfl (And.intro (by intro q _; simp only [List.length_nil]; omega) (And.intro (by intro i hi; exact absurd hi (Nat.not_lt_zero i)) ?_))); conv => whnf)
  refine tri_rounds mixed (by kernel_rfl) 1 ?_
  conv => whnf
  ((try ((refine Exists.intro none ?_); (conv => whnf))); first | ((with_reducible refine call_by (c_NMean0) ?_); conv => whnf))
  exact exit_plain rfl rfl
theorem c_Mean1 (p : Pl) (h : plsB [p] = true) (hr : 0 ≤ p.region ∧ p.region < 3) : ∃ r, fnanB r = false ∧ fv r = fv (scoreW p) ∧ Ctr Try.prog 28 [.sl 4 [p.enc], iv p.region] (.tu [.sc (.float .f64 r), iv 0]) [] := by
  obtain ⟨r, r1, r2, kr⟩ := c_NMean1 (scoreW p) (scoreW_num p)
  refine ⟨r, r1, r2, ?_⟩
  have k : Ctr Try.prog 67 [.sl 4 [p.enc], iv p.region] (.tu [.sl 4 ((regL [p] p.region).map Pl.enc), iv 0]) [] := c_within14 [p] one_le h p.region hr
  have e : regL [p] p.region = [p] := by unfold regL; simp
  rw [e] at k
  refine spec_of_body mixed Try.func28 rfl (by kernel_rfl) (by kernel_rfl) ?_; conv => whnf
  ((try ((refine Exists.intro none ?_); (conv => whnf))); first | ((with_reducible refine call_by (k) ?_); conv => whnf))
  (refine Exists.intro _ (And.intro rfl (And.intro (by intro q _; simp only [List.length_nil]; omega) (And.intro (by intro i hi; exact absurd hi (Nat.not_lt_zero i)) ?_))); conv => whnf)
  refine tri_rounds mixed (by kernel_rfl) 2 ?_
  conv => whnf
  ((with_reducible refine And.intro (by with_unfolding_all decide) ?_); refine Exists.intro _ (And.intro (by with_unfolding_all rfl) ?_); conv => whnf)
  ((try ((refine Exists.intro none ?_); (conv => whnf))); first | ((with_reducible refine call_by (c_Score p) ?_); conv => whnf))
  refine ⟨rfl, ?_⟩
  conv => whnf
  have h1 : [[PV.sc (Value.float .f64 (scoreW p))]].length ≤ 4294967296 := by show 1 ≤ 4294967296; decide
  refine ⟨⟨⟨small h1 (by kernel_rfl), smallM h1⟩, rfl⟩, ?_⟩
  conv => whnf
  refine Exists.intro none ?_
  conv => whnf
  refine And.intro (by simp) ?_
  conv => whnf
  ((try ((refine Exists.intro none ?_); (conv => whnf))); refine call_eq (kr) (by kernel_rfl) ?_; conv => whnf)
  exact exit_plain rfl rfl
theorem one_iff {p : Pl} : plsB [p] = true → 0 ≤ p.region ∧ p.region < 3 := fun h => (chkP_in [p] 0 h p (by simp)).2
theorem l_PlaceMeans (p : Pl) (rg : Int) : Ctr Try.prog 7 [.ag p.enc, iv rg] (bv true) [] := by
  have kc : Ctr Try.prog 18 [.sl 4 [p.enc]] (iv (if plsB [p] = true then 0 else 1)) [] := c_PCheck [p] one_le
  cases hok : plsB [p] with
  | false =>
    rw [hok, if_neg (by decide)] at kc
    refine spec_of_body mixed Try.func7 rfl (by kernel_rfl) (by kernel_rfl) ?_; conv => whnf
    ((try ((refine Exists.intro none ?_); (conv => whnf))); refine call_eq (kc) (by kernel_rfl) ?_; conv => whnf)
    ((try ((refine Exists.intro none ?_); (conv => whnf))); first | ((with_reducible refine call_by (c_wakes14) ?_); conv => whnf))
    exact exit_plain rfl rfl
  | true =>
    rw [if_pos hok] at kc
    by_cases hr : 0 ≤ rg ∧ rg < 3
    · have f1 : decide (rg < 0) = false := decide_eq_false (by omega)
      have f2 : decide (3 ≤ rg) = false := decide_eq_false (by omega)
      by_cases he : p.region = rg
      · subst he
        obtain ⟨r, r1, r2, kr⟩ := c_Mean1 p hok hr
        have o1 := ord_eq r1 (scoreW_num p)
        refine spec_of_body mixed Try.func7 rfl (by kernel_rfl) (by kernel_rfl) ?_; conv => whnf
        ((try ((refine Exists.intro none ?_); (conv => whnf))); refine call_eq (kc) (by kernel_rfl) ?_; conv => whnf)
        ((try ((refine Exists.intro none ?_); (conv => whnf))); refine call_eq (kr) (by kernel_rfl) ?_; conv => whnf)
        rw [f1]
        conv => whnf
        rw [f2]
        conv => whnf
        ((first | (with_reducible refine split_et rfl ?_) | (with_reducible refine split_bf rfl ?_) | (with_reducible refine split_t (beq_self_eq_true _) ?_) | (with_reducible refine split_f (bne_self_eq_false _) ?_)); conv => whnf)
        ((try ((refine Exists.intro none ?_); (conv => whnf))); first | ((with_reducible refine call_by (c_Score p) ?_); conv => whnf))
        rw [o1, decide_eq_true r2]
        conv => whnf
        ((try ((refine Exists.intro none ?_); (conv => whnf))); first | ((with_reducible refine call_by (c_wakes14) ?_); conv => whnf))
        exact exit_plain rfl rfl
      · have kr := c_Mean0 p hok rg hr he
        refine spec_of_body mixed Try.func7 rfl (by kernel_rfl) (by kernel_rfl) ?_; conv => whnf
        ((try ((refine Exists.intro none ?_); (conv => whnf))); refine call_eq (kc) (by kernel_rfl) ?_; conv => whnf)
        ((try ((refine Exists.intro none ?_); (conv => whnf))); refine call_eq (kr) (by kernel_rfl) ?_; conv => whnf)
        rw [f1]
        conv => whnf
        rw [f2]
        conv => whnf
        ((first | (with_reducible refine split_dec (fun h => ?_) (fun h => ?_)) | (with_reducible refine split_beq (fun h => ?_) (fun h => ?_)) | (with_reducible refine split_bne (fun h => ?_) (fun h => ?_)) | (with_reducible refine split_not (fun h => ?_) (fun h => ?_)) | (with_reducible refine split_beqS (fun h => ?_) (fun h => ?_)) | (with_reducible refine split_intro (fun h => ?_) (fun h => ?_))) <;> conv => whnf)
        · rw [show (FloatKind.f64.format.order 9221120237041090561 9221120237041090561 != some .eq) = true by kernel_rfl]
          conv => whnf
          ((try ((refine Exists.intro none ?_); (conv => whnf))); first | ((with_reducible refine call_by (c_wakes14) ?_); conv => whnf))
          exact exit_plain rfl rfl
        · exact absurd (by first | exact h.symm | exact (Classical.byContradiction h).symm) he
    · have kr := c_MeanN p hok rg hr
      refine spec_of_body mixed Try.func7 rfl (by kernel_rfl) (by kernel_rfl) ?_; conv => whnf
      ((try ((refine Exists.intro none ?_); (conv => whnf))); refine call_eq (kc) (by kernel_rfl) ?_; conv => whnf)
      ((try ((refine Exists.intro none ?_); (conv => whnf))); refine call_eq (kr) (by kernel_rfl) ?_; conv => whnf)
      by_cases h0 : rg < 0
      · rw [decide_eq_true h0]
        conv => whnf
        ((try ((refine Exists.intro none ?_); (conv => whnf))); first | ((with_reducible refine call_by (c_wakes14) ?_); conv => whnf))
        exact exit_plain rfl rfl
      · rw [decide_eq_false h0]
        conv => whnf
        rw [decide_eq_true (show (3 : Int) ≤ rg by omega)]
        conv => whnf
        ((try ((refine Exists.intro none ?_); (conv => whnf))); first | ((with_reducible refine call_by (c_wakes14) ?_); conv => whnf))
        exact exit_plain rfl rfl
theorem told_PlaceMeans (qs : List PV) (h : ArgsOf Try.prog [30, 3] qs) : Ctr Try.prog 7 qs (bv true) [] := by
  obtain ⟨p1, qs, rfl, h1, h⟩ := argsOf_cons h
  obtain ⟨p2, qs, rfl, h2, h⟩ := argsOf_cons h
  obtain rfl := argsOf_nil h
  obtain ⟨p, rfl, _⟩ := arg_Pl h1
  obtain ⟨rg, rfl, _⟩ := arg_i h2
  exact l_PlaceMeans p rg
end Go.Proofs
