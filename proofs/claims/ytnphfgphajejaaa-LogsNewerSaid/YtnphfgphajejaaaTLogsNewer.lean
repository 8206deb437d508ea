import Derived.Test.YtnphfgphajejaaaC41
import Derived.Test.YtnphfgphajejaaaTLogsPuts
set_option linter.unusedSimpArgs false
set_option linter.unusedVariables false
namespace Go.Proofs
open Go.Pv
set_option maxRecDepth 100000

theorem lastT_behind (h : Hrd) : lastT h = behind h.log h.baseTerm h.log.length := by
  unfold lastT behind
  rw [List.take_length]
  cases h.log.getLast? <;> rfl
theorem behind_append : ∀ (g l : List Ent) (b : Int), behind (g ++ l) b (g ++ l).length = behind l (behind g b g.length) l.length
  | [], l, b => by simp [behind]
  | x :: g, l, b => by rw [List.cons_append, List.length_cons, behind_cons, List.length_cons, behind_cons, behind_append g l]
theorem rowB_ge : ∀ (l : List Ent) (b t : Int), rowB l b t = true → b ≤ behind l b l.length
  | [], b, t, _ => by simp [behind]
  | x :: l, b, t, h => by
    simp only [rowB, Bool.and_eq_true, decide_eq_true_eq] at h
    have := rowB_ge l x.term t h.2
    rw [List.length_cons, behind_cons]
    omega
theorem newer_iff {h : Hrd} {i t : Int} : newer h i t = true ↔ lastT h < t ∨ t = lastT h ∧ lastI h ≤ i := by
  simp [newer]
theorem newer_not {h : Hrd} {i t : Int} : newer h i t = false ↔ ¬ (lastT h < t ∨ t = lastT h ∧ lastI h ≤ i) := by
  rw [← newer_iff, Bool.not_eq_true]

/-- What is put behind the last one. -/
theorem putOk_behind {h : Hrd} {l : List Ent} {n : Nat} (k : PutOk h (lastI h) l n) (hl : h.log.length ≤ 4294967) (hll : l.length ≤ 4294967) : lastI (putH h (lastI h) l) = lastI h + l.length ∧ lastT h ≤ lastT (putH h (lastI h) l) := by
  have hA := (hardB_A k.hard).1.b
  have he : lastI h = h.base + h.log.length := lastI_sum hA.1 (by omega)
  have hn : n = h.log.length := by have := k.at'; omega
  have hlog := k.log
  subst hn
  have e1 : putG h.log h.log.length l = h.log ++ l := by
    unfold putG; rw [List.take_length, List.drop_length, putM_none]
  rw [hlog, e1]
  refine ⟨?_, ?_⟩
  · rw [he, lastI_sum (h := { h with log := h.log ++ l }) hA.1 (by simp only [List.length_append]; omega)]
    simp only [List.length_append]; omega
  · rw [lastT_behind, lastT_behind]
    show _ ≤ behind (h.log ++ l) h.baseTerm (h.log ++ l).length
    rw [behind_append]
    exact rowB_ge _ _ _ k.row

set_option maxHeartbeats 4000000 in
theorem l_LogsNewer (g a : Hrd) (hbI : isI a.base) (l : List Ent) : Ctr Try.prog 24 [.ag g.enc, .ag a.enc, .sl 16 (l.map Ent.enc)] (bv true) [] := by
  refine spec_of_body mixed Try.func24 rfl (by kernel_rfl) (by kernel_rfl) ?_; conv => whnf
  ((try ((refine Exists.intro none ?_); (conv => whnf))); first | ((with_reducible refine call_by (c_Heavy09 g) ?_); conv => whnf))
  ((first | (with_reducible refine split_dec (fun h => ?_) (fun h => ?_)) | (with_reducible refine split_beq (fun h => ?_) (fun h => ?_)) | (with_reducible refine split_bne (fun h => ?_) (fun h => ?_)) | (with_reducible refine split_not (fun h => ?_) (fun h => ?_)) | (with_reducible refine split_beqS (fun h => ?_) (fun h => ?_)) | (with_reducible refine split_intro (fun h => ?_) (fun h => ?_))) <;> conv => whnf)
  · exact exit_plain rfl rfl
  obtain ⟨hgl, hgs⟩ := heavyH_len h
  ((try ((refine Exists.intro none ?_); (conv => whnf))); first | ((with_reducible refine call_by (c_Heavy09 a) ?_); conv => whnf))
  ((first | (with_reducible refine split_dec (fun h => ?_) (fun h => ?_)) | (with_reducible refine split_beq (fun h => ?_) (fun h => ?_)) | (with_reducible refine split_bne (fun h => ?_) (fun h => ?_)) | (with_reducible refine split_not (fun h => ?_) (fun h => ?_)) | (with_reducible refine split_beqS (fun h => ?_) (fun h => ?_)) | (with_reducible refine split_intro (fun h => ?_) (fun h => ?_))) <;> conv => whnf)
  · exact exit_plain rfl rfl
  obtain ⟨hal, has⟩ := heavyH_len h
  ((try ((refine Exists.intro none ?_); (conv => whnf))); first | ((with_reducible refine call_by (c_HeavyEntries l) ?_); conv => whnf))
  ((first | (with_reducible refine split_dec (fun h => ?_) (fun h => ?_)) | (with_reducible refine split_beq (fun h => ?_) (fun h => ?_)) | (with_reducible refine split_bne (fun h => ?_) (fun h => ?_)) | (with_reducible refine split_not (fun h => ?_) (fun h => ?_)) | (with_reducible refine split_beqS (fun h => ?_) (fun h => ?_)) | (with_reducible refine split_intro (fun h => ?_) (fun h => ?_))) <;> conv => whnf)
  · exact exit_plain rfl rfl
  have hll := heavyEs_len h
  clear h
  ((try ((refine Exists.intro none ?_); (conv => whnf))); first | ((with_reducible refine call_by (c_looked09 g) ?_); conv => whnf))
  cases hL : lookedB g with
  | false =>
    conv => whnf
    exact exit_plain rfl rfl
  | true =>
  conv => whnf
  ((try ((refine Exists.intro none ?_); (conv => whnf))); first | ((with_reducible refine call_by (c_looked09 a) ?_); conv => whnf))
  cases hM : lookedB a with
  | false =>
    conv => whnf
    exact exit_plain rfl rfl
  | true =>
  conv => whnf
  simp only [lookedB, decide_eq_true_eq] at hL hM
  have mg : g.log.length ≤ maxLen := smallM (by omega)
  have ma : a.log.length ≤ maxLen := smallM (by omega)
  have hiI : isI (lastI a) := by rw [lastI_sum hM.1 (by omega)]; unfold isI; omega
  have n1 := c_Newer g mg (lastI g) (lastT g)
  rw [show newer g (lastI g) (lastT g) = true from newer_iff.2 (.inr ⟨rfl, Int.le_refl _⟩)] at n1
  ((try ((refine Exists.intro none ?_); (conv => whnf))); first | ((with_reducible refine call_by (c_Last g mg) ?_); conv => whnf))
  ((try ((refine Exists.intro none ?_); (conv => whnf))); first | ((with_reducible refine call_by (c_Last a ma) ?_); conv => whnf))
  ((try ((refine Exists.intro none ?_); (conv => whnf))); first | ((with_reducible refine call_by (n1) ?_); conv => whnf))
  have k1 := ctr_res (c_lPut a (by omega) (by omega) hbI (lastI a) hiI l (by omega))
  have n2 := c_Newer g mg (lastI a) (lastT a)
  have n3 : newer g (lastI a) (lastT a) = false → newer a (lastI g) (lastT g) = true := by
    intro hq
    rw [newer_not] at hq
    rw [newer_iff]
    omega
  have n4 := c_Newer a ma (lastI g) (lastT g)
  cases hq : newer g (lastI a) (lastT a)
  all_goals (rw [hq] at n2)
  all_goals first
    | (rw [n3 hq] at n4
       ((try ((refine Exists.intro none ?_); (conv => whnf))); first | ((with_reducible refine call_by (n2) ?_); conv => whnf))
       ((try ((refine Exists.intro none ?_); (conv => whnf))); first | ((with_reducible refine call_by (n4) ?_); conv => whnf)))
    | ((try ((refine Exists.intro none ?_); (conv => whnf))); first | ((with_reducible refine call_by (n2) ?_); conv => whnf))
  all_goals (
    by_cases e : putHE a (lastI a) l = 0
    · rw [(res_ok e).2.2] at k1
      obtain ⟨n, ko⟩ := putOk e (by omega)
      obtain ⟨b1, b2⟩ := putOk_behind ko (by omega) (by omega)
      have hxl : (putH a (lastI a) l).log.length ≤ 400 := by
        rw [ko.log]
        have := putG_le a.log l ko.le
        show (putG a.log n l).length ≤ 400
        omega
      have mx : (putH a (lastI a) l).log.length ≤ maxLen := smallM (by omega)
      generalize putH a (lastI a) l = x at *
      have m1 := c_Newer a ma (lastI x) (lastT x)
      rw [show newer a (lastI x) (lastT x) = true from newer_iff.2 (by omega)] at m1
      ((try ((refine Exists.intro none ?_); (conv => whnf))); first | ((with_reducible refine call_by (k1) ?_); conv => whnf))
      (refine Exists.intro _ (And.intro rfl (And.intro (by intro q _; simp only [List.length_nil]; omega) (And.intro (by intro i hi; exact absurd hi (Nat.not_lt_zero i)) ?_))); conv => whnf)
      ((try ((refine Exists.intro none ?_); (conv => whnf))); first | ((with_reducible refine call_by (c_Last x mx) ?_); conv => whnf))
      ((try ((refine Exists.intro none ?_); (conv => whnf))); first | ((with_reducible refine call_by (m1) ?_); conv => whnf))
      ((first | (with_reducible refine split_dec (fun h => ?_) (fun h => ?_)) | (with_reducible refine split_beq (fun h => ?_) (fun h => ?_)) | (with_reducible refine split_bne (fun h => ?_) (fun h => ?_)) | (with_reducible refine split_not (fun h => ?_) (fun h => ?_)) | (with_reducible refine split_beqS (fun h => ?_) (fun h => ?_)) | (with_reducible refine split_intro (fun h => ?_) (fun h => ?_))) <;> conv => whnf)
      · ((try ((refine Exists.intro none ?_); (conv => whnf))); first | ((with_reducible refine call_by (c_wakes09) ?_); conv => whnf))
        exact exit_plain rfl rfl
      · simp only [List.length_map] at h
        have m2 := c_Newer x mx (lastI a) (lastT a)
        rw [show newer x (lastI a) (lastT a) = false from newer_not.2 (by omega)] at m2
        ((try ((refine Exists.intro none ?_); (conv => whnf))); first | ((with_reducible refine call_by (m2) ?_); conv => whnf))
        ((try ((refine Exists.intro none ?_); (conv => whnf))); first | ((with_reducible refine call_by (c_wakes09) ?_); conv => whnf))
        exact exit_plain rfl rfl
    · rw [(res_no e).2.2] at k1
      ((try ((refine Exists.intro none ?_); (conv => whnf))); first | ((with_reducible refine call_by (k1) ?_); conv => whnf))
      ((first | (first | (with_reducible refine split_dt (by assumption) ?_) | (with_reducible refine split_df (by assumption) ?_) | (with_reducible refine split_et (by assumption) ?_) | (with_reducible refine split_ef (by assumption) ?_) | (with_reducible refine split_bt (by assumption) ?_) | (with_reducible refine split_bf (by assumption) ?_) | (with_reducible refine split_nt (by assumption) ?_) | (with_reducible refine split_nf (by assumption) ?_) | (with_reducible refine split_t (by assumption) ?_) | (with_reducible refine split_f (by assumption) ?_)) | (first | (with_reducible refine split_dec (fun h => ?_) (fun h => ?_)) | (with_reducible refine split_beq (fun h => ?_) (fun h => ?_)) | (with_reducible refine split_bne (fun h => ?_) (fun h => ?_)) | (with_reducible refine split_not (fun h => ?_) (fun h => ?_)) | (with_reducible refine split_beqS (fun h => ?_) (fun h => ?_)) | (with_reducible refine split_intro (fun h => ?_) (fun h => ?_)))) <;> conv => whnf)
      ((try ((refine Exists.intro none ?_); (conv => whnf))); first | ((with_reducible refine call_by (c_wakes09) ?_); conv => whnf))
      exact exit_plain rfl rfl)

theorem told_LogsNewer (qs : List PV) (h : ArgsOf Try.prog [32, 32, 30] qs) : Ctr Try.prog 24 qs (bv true) [] := by
  obtain ⟨p1, qs, rfl, h1, h⟩ := argsOf_cons h
  obtain ⟨p2, qs, rfl, h2, h⟩ := argsOf_cons h
  obtain ⟨p3, qs, rfl, h3, h⟩ := argsOf_cons h
  obtain rfl := argsOf_nil h
  obtain ⟨g, rfl, _⟩ := arg_Hrd h1
  obtain ⟨a, rfl, ha⟩ := arg_Hrd h2
  obtain ⟨l, rfl, _⟩ := arg_Ents h3
  exact l_LogsNewer g a ha.2.2.1 l
end Go.Proofs
