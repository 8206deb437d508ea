/- PlanRests: where nobody is silent, nobody learns, and there are as many as there should be, nothing is wanted. -/
import Derived.Test.YtjgcblmkejnijaaF5
set_option linter.unusedSimpArgs false
set_option linter.unusedVariables false
namespace Go.Proofs
open Go.Pv
set_option maxRecDepth 100000

theorem cok_rest {c : Conf} (h : Cok c) : Cok ⟨c.full, c.wit, 0, 0⟩ := ⟨h.f, h.w, ⟨Int.le_refl 0, by show (0 : Int) ≤ 127; decide⟩, ⟨Int.le_refl 0, by show (0 : Int) ≤ 127; decide⟩, h.ne, h.fw, fun i => by simp [tb_zero], fun i => by simp [tb_zero], fun i => by simp [tb_zero], fun i => by simp [tb_zero], fun i => by simp [tb_zero]⟩
theorem count_pos {b : Int} (h : Bits7 b) (hne : b ≠ 0) : 1 ≤ count b := by
  have hex : ∃ i, i < 7 ∧ tb b i = true := by
    apply Classical.byContradiction
    intro hn
    refine hne (ext0 h.isI fun i hi => ?_)
    by_cases h7 : i < 7
    · cases ht : tb b i with
      | false => rfl
      | true => exact absurd ⟨i, h7, ht⟩ hn
    · exact tb_high h (by omega)
  obtain ⟨i, hi, ht⟩ := hex
  have key : ∀ n, i < n → 1 ≤ cnt b n := by
    intro n
    induction n with
    | zero => intro h; omega
    | succ n ih =>
      intro h
      show 1 ≤ cnt b n + nb (tb b n)
      by_cases e : i = n
      · subst e; rw [ht]; have := (cnt_le b i).1; simp only [nb_true]; omega
      · have := ih (by omega); rcases nb_cases (tb b n) with e | e <;> rw [e] <;> omega
  exact key 7 hi
theorem rest_none {c : Conf} (hc : Cok ⟨c.full, c.wit, 0, 0⟩) (p : List Pl) (s1 s2 sil cau : Int) : nextS ⟨c.full, c.wit, 0, 0⟩ (count c.full) (count c.wit) p s1 s2 (band (bandn sil (bor c.full c.wit)) 127) cau = none := by
  have e0 : lowB (band (bor 0 0) (band (bandn sil (bor c.full c.wit)) 127)) = -1 := low_none fun n _ => by rw [tb_and, tb_or, tb_zero]; rfl
  have e1 : lowB (readyB ⟨c.full, c.wit, 0, 0⟩ (count c.full) (count c.wit) cau) = -1 := low_none fun n _ => by
    unfold readyB
    rw [if_pos (Int.le_refl _), if_pos (Int.le_refl _), tb_or, tb_or, tb_and, tb_zero]; rfl
  have n1 : band c.full (band (bandn sil (bor c.full c.wit)) 127) = 0 := and0.2 fun i => by
    rw [tb_and, tb_andn', tb_or]
    cases tb c.full i <;> simp
  have n2 : band c.wit (band (bandn sil (bor c.full c.wit)) 127) = 0 := and0.2 fun i => by
    rw [tb_and, tb_andn', tb_or]
    cases tb c.wit i <;> simp
  unfold nextS
  rw [e0, remove_no, Option.none_or, e1, promote_no, Option.none_or]
  unfold tooS
  rw [if_pos (Int.le_refl _), Option.none_or, if_pos (Int.le_refl _), Option.none_or]
  unfold lrnS
  rw [if_pos (.inr (.inr ⟨rfl, n1⟩)), if_pos (.inr (.inr ⟨rfl, n2⟩))]; rfl
theorem rest_done (c : Conf) (sil : Int) : doneB ⟨c.full, c.wit, 0, 0⟩ (count c.full) (count c.wit) (bandn sil (bor c.full c.wit)) = true := by
  unfold doneB
  rw [if_pos rfl, if_pos rfl, if_pos (by
    refine and0.2 fun i => ?_
    rw [tb_or, tb_zero]; rfl)]
  refine decide_eq_true (and0.2 fun i => ?_)
  rw [tb_and, tb_andn', tb_or]
  cases tb c.full i <;> cases tb c.wit i <;> simp
theorem l_PlanRests (c : Conf) (p : List Pl) (s1 s2 sil cau : Int) : Ctr Try.prog 16 [.ag c.enc, .sl 4 (p.map Pl.enc), iv s1, iv s2, iv sil, iv cau] (bv true) [] := by
  by_cases h60 : 60 < p.length
  · refine spec_of_body mixed Try.func16 rfl (by kernel_rfl) (by kernel_rfl) ?_; conv => whnf
    ((first | (with_reducible refine split_dec (fun h => ?_) (fun h => ?_)) | (with_reducible refine split_beq (fun h => ?_) (fun h => ?_)) | (with_reducible refine split_bne (fun h => ?_) (fun h => ?_)) | (with_reducible refine split_not (fun h => ?_) (fun h => ?_)) | (with_reducible refine split_beqS (fun h => ?_) (fun h => ?_)) | (with_reducible refine split_intro (fun h => ?_) (fun h => ?_))) <;> conv => whnf)
    · exact exit_plain rfl rfl
    · exfalso; simp only [List.length_map] at h; omega
  have kp := c_rPlaces p (by omega)
  have kc := c_rConf c
  cases hp : plsB p with
  | false =>
    rw [hp] at kp
    refine spec_of_body mixed Try.func16 rfl (by kernel_rfl) (by kernel_rfl) ?_; conv => whnf
    ((first | (with_reducible refine split_dec (fun h => ?_) (fun h => ?_)) | (with_reducible refine split_beq (fun h => ?_) (fun h => ?_)) | (with_reducible refine split_bne (fun h => ?_) (fun h => ?_)) | (with_reducible refine split_not (fun h => ?_) (fun h => ?_)) | (with_reducible refine split_beqS (fun h => ?_) (fun h => ?_)) | (with_reducible refine split_intro (fun h => ?_) (fun h => ?_))) <;> conv => whnf)
    · exact exit_plain rfl rfl
    clear h
    ((try ((refine Exists.intro none ?_); (conv => whnf))); first | ((with_reducible refine call_by (kp) ?_); conv => whnf))
    exact exit_plain rfl rfl
  | true =>
  rw [hp] at kp
  cases hc : confB c with
  | false =>
    rw [hc] at kc
    refine spec_of_body mixed Try.func16 rfl (by kernel_rfl) (by kernel_rfl) ?_; conv => whnf
    ((first | (with_reducible refine split_dec (fun h => ?_) (fun h => ?_)) | (with_reducible refine split_beq (fun h => ?_) (fun h => ?_)) | (with_reducible refine split_bne (fun h => ?_) (fun h => ?_)) | (with_reducible refine split_not (fun h => ?_) (fun h => ?_)) | (with_reducible refine split_beqS (fun h => ?_) (fun h => ?_)) | (with_reducible refine split_intro (fun h => ?_) (fun h => ?_))) <;> conv => whnf)
    · exact exit_plain rfl rfl
    clear h
    ((try ((refine Exists.intro none ?_); (conv => whnf))); first | ((with_reducible refine call_by (kp) ?_); conv => whnf))
    ((try ((refine Exists.intro none ?_); (conv => whnf))); first | ((with_reducible refine call_by (kc) ?_); conv => whnf))
    exact exit_plain rfl rfl
  | true =>
  rw [hc] at kc
  have hk := (confB_iff c).1 hc
  have hr := cok_rest hk
  have c1 := count_le c.full
  have c2 := count_le c.wit
  have c3 := count_pos hk.f hk.ne
  have kn := c_pNext ⟨c.full, c.wit, 0, 0⟩ ((confB_iff _).2 hr) (count c.full) (count c.wit) p (by omega) hp s1 s2 (bandn sil (bor c.full c.wit)) cau (by omega)
  rw [rest_none hr] at kn
  have kd := c_Done ⟨c.full, c.wit, 0, 0⟩ (count c.full) (count c.wit) (bandn sil (bor c.full c.wit))
  rw [rest_done] at kd
  have kd1 := c_Done ⟨c.full, c.wit, 0, 0⟩ (count c.full + 1) (count c.wit) 0
  rw [show doneB ⟨c.full, c.wit, 0, 0⟩ (count c.full + 1) (count c.wit) 0 = false by unfold doneB; rw [if_neg (by show ¬ count c.full = count c.full + 1; omega)]] at kd1
  have kd2 := c_Done ⟨c.full, c.wit, 0, 0⟩ (count c.full) (count c.wit + 1) 0
  rw [show doneB ⟨c.full, c.wit, 0, 0⟩ (count c.full) (count c.wit + 1) 0 = false by unfold doneB; rw [if_pos rfl, if_neg (by show ¬ count c.wit = count c.wit + 1; omega)]] at kd2
  have kv := c_rVoters ⟨c.full, c.wit, 0, 0⟩
  have w1 : IntKind.i64.wrap (count c.full + 1) = count c.full + 1 := wrap_id (by omega) (by omega)
  have w2 : IntKind.i64.wrap (count c.wit + 1) = count c.wit + 1 := wrap_id (by omega) (by omega)
  have k1 := c_rCount c.full
  have k2 := c_rCount c.wit
  unfold bandn at kn kd
  refine spec_of_body mixed Try.func16 rfl (by kernel_rfl) (by kernel_rfl) ?_; conv => whnf
  ((first | (with_reducible refine split_dec (fun h => ?_) (fun h => ?_)) | (with_reducible refine split_beq (fun h => ?_) (fun h => ?_)) | (with_reducible refine split_bne (fun h => ?_) (fun h => ?_)) | (with_reducible refine split_not (fun h => ?_) (fun h => ?_)) | (with_reducible refine split_beqS (fun h => ?_) (fun h => ?_)) | (with_reducible refine split_intro (fun h => ?_) (fun h => ?_))) <;> conv => whnf)
  · exfalso; simp only [List.length_map] at h; omega
  clear h
  ((try ((refine Exists.intro none ?_); (conv => whnf))); first | ((with_reducible refine call_by (kp) ?_); conv => whnf))
  ((try ((refine Exists.intro none ?_); (conv => whnf))); first | ((with_reducible refine call_by (kc) ?_); conv => whnf))
  ((try ((refine Exists.intro none ?_); (conv => whnf))); first | ((with_reducible refine call_by (k1) ?_); conv => whnf))
  ((try ((refine Exists.intro none ?_); (conv => whnf))); first | ((with_reducible refine call_by (k2) ?_); conv => whnf))
  ((try ((refine Exists.intro none ?_); (conv => whnf))); first | ((with_reducible refine call_by (kv) ?_); conv => whnf))
  ((try ((refine Exists.intro none ?_); (conv => whnf))); first | ((with_reducible refine call_by (kn) ?_); conv => whnf))
  ((try ((refine Exists.intro none ?_); (conv => whnf))); first | ((with_reducible refine call_by (kv) ?_); conv => whnf))
  ((try ((refine Exists.intro none ?_); (conv => whnf))); first | ((with_reducible refine call_by (kd) ?_); conv => whnf))
  rw [w1]
  ((try ((refine Exists.intro none ?_); (conv => whnf))); first | ((with_reducible refine call_by (kd1) ?_); conv => whnf))
  rw [w2]
  ((try ((refine Exists.intro none ?_); (conv => whnf))); first | ((with_reducible refine call_by (kd2) ?_); conv => whnf))
  ((try ((refine Exists.intro none ?_); (conv => whnf))); first | ((with_reducible refine call_by (c_wakes20) ?_); conv => whnf))
  exact exit_plain rfl rfl
theorem told_PlanRests (qs : List PV) (h : ArgsOf Try.prog [55, 22, 3, 3, 3, 3] qs) : Ctr Try.prog 16 qs (bv true) [] := by
  obtain ⟨p1, qs, rfl, h1, h⟩ := argsOf_cons h
  obtain ⟨p2, qs, rfl, h2, h⟩ := argsOf_cons h
  obtain ⟨p3, qs, rfl, h3, h⟩ := argsOf_cons h
  obtain ⟨p4, qs, rfl, h4, h⟩ := argsOf_cons h
  obtain ⟨p5, qs, rfl, h5, h⟩ := argsOf_cons h
  obtain ⟨p6, qs, rfl, h6, h⟩ := argsOf_cons h
  obtain rfl := argsOf_nil h
  obtain ⟨c, rfl, _⟩ := arg_Conf h1
  obtain ⟨p, rfl, _⟩ := arg_Pls h2
  obtain ⟨s1, rfl, _⟩ := arg_i h3
  obtain ⟨s2, rfl, _⟩ := arg_i h4
  obtain ⟨sil, rfl, _⟩ := arg_i h5
  obtain ⟨cau, rfl, _⟩ := arg_i h6
  exact l_PlanRests c p s1 s2 sil cau
end Go.Proofs
