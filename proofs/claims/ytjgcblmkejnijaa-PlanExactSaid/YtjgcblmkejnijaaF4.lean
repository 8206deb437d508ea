/- The planner's wake; its arguments; what it answers, whatever comes in. -/
import Derived.Test.YtjgcblmkejnijaaF3
set_option linter.unusedSimpArgs false
set_option linter.unusedVariables false
namespace Go.Proofs
open Go.Pv
set_option maxRecDepth 100000

theorem tb_seven (i : Nat) : tb 7 i = decide (i < 3) := by
  rcases i with _ | _ | _ | _ | _ | _ | _ | i
  all_goals first | rfl | skip
  rw [tb_high (by unfold Bits7; omega) (by omega)]; simp
theorem tb_eight (i : Nat) : tb 8 i = decide (i = 3) := by
  rcases i with _ | _ | _ | _ | _ | _ | _ | i
  all_goals first | rfl | skip
  rw [tb_high (by unfold Bits7; omega) (by omega)]; simp
theorem tb_four (i : Nat) : tb 4 i = decide (i = 2) := by
  rcases i with _ | _ | _ | _ | _ | _ | _ | i
  all_goals first | rfl | skip
  rw [tb_high (by unfold Bits7; omega) (by omega)]; simp
theorem w20_ok : plsB [⟨3, 0, 0, 0⟩] = true := by
  simp [plsB, chkP, PlIn, tb_zero]
theorem remove_no (c : Conf) : okS (removeR c (-1)) = none := by
  unfold okS removeR wrongR
  cases confB c <;> simp [withinB]
theorem promote_no (c : Conf) : okS (promoteR c (-1)) = none := by
  unfold okS promoteR wrongR
  cases confB c <;> simp [withinB]
theorem learn_no (c : Conf) (w : Bool) : okS (learnR c (-1) w) = none := by
  unfold okS learnR wrongR
  cases confB c <;> simp [withinB]
theorem w20_conf : confB ⟨7, 0, 0, 0⟩ = true := by
  rw [confB_iff]
  exact ⟨⟨by decide, by decide⟩, ⟨by decide, by decide⟩, ⟨by decide, by decide⟩, ⟨by decide, by decide⟩, by decide, fun i => by simp [tb_zero], fun i => by simp [tb_zero], fun i => by simp [tb_zero], fun i => by simp [tb_zero], fun i => by simp [tb_zero], fun i => by simp [tb_zero]⟩
theorem w20_cnt : count 7 = 3 := by simp [count, cnt, tb_seven]
theorem cnt_0 : count 0 = 0 := by simp [count, cnt, tb_zero]
theorem w20_next : nextS ⟨7, 0, 0, 0⟩ 3 0 [⟨3, 0, 0, 0⟩] 8 0 (band 4 127) (band 0 127) = some ⟨7, 0, 8, 0⟩ := by
  have hk := (confB_iff _).1 w20_conf
  have e0 : lowB (band (bor 0 0) (band 4 127)) = -1 := low_none fun n _ => by rw [tb_and, tb_or, tb_zero]; rfl
  have e1 : lowB (readyB ⟨7, 0, 0, 0⟩ 3 0 (band 0 127)) = -1 := low_none fun n _ => by
    unfold readyB
    rw [w20_cnt, cnt_0, if_pos (by decide), if_pos (by decide), tb_or, tb_or, tb_and, tb_and, tb_zero]; rfl
  have hb : bestP [⟨3, 0, 0, 0⟩] (lrnBits ⟨7, 0, 0, 0⟩ 8 (band 4 127)) = ((3 : Nat) : Int) := by
    refine best_is (q := ⟨3, 0, 0, 0⟩) ⟨List.Mem.head _, ?_, fun y hy _ => ?_⟩ fun a ha b hb _ => by rw [List.mem_singleton.1 ha, List.mem_singleton.1 hb]
    · unfold lrnBits allB
      rw [tb_andn', tb_andn', tb_and, tb_or, tb_or, tb_or, tb_and]
      simp only [tb_eight, tb_four, tb_seven, tb_127, tb_zero]
      decide
    · rw [List.mem_singleton.1 hy]; unfold keyLt; omega
  have hf : free (⟨7, 0, 0, 0⟩ : Conf) 3 := ⟨by simp [tb_seven], tb_zero _, tb_zero _, tb_zero _⟩
  unfold nextS
  rw [e0, remove_no, Option.none_or, e1, promote_no, Option.none_or]
  unfold tooS
  rw [if_pos (by rw [w20_cnt]; decide), Option.none_or, if_pos (by rw [cnt_0]; decide), Option.none_or]
  unfold lrnS
  rw [if_neg (by
    unfold fullB
    rintro (h | h | ⟨_, h⟩)
    · exact h rfl
    · rw [w20_cnt] at h; omega
    · have := and0.1 h 2
      rw [tb_and, tb_seven, tb_four, tb_127] at this
      exact absurd this (by decide)), hb, learnR_ok hk (by decide) hf]
  have : bor 0 (shl 1 3) = 8 := by
    refine ext64 (isI_bor _ _) (by unfold isI; omega) fun i hi => ?_
    rw [tb_or, tb_zero, show shl 1 3 = shl 1 ((3 : Nat) : Int) from rfl, tb_shl 3 i (by decide), tb_eight]
    simp only [Bool.false_or]
    exact decide_eq_decide.2 (by omega)
  show some (⟨7, 0, bor 0 (shl 1 3), 0⟩ : Conf) = _
  rw [this]
theorem c_wakes20 : Ctr Try.prog 42 [] (bv true) [] := by
  have k := c_pNext ⟨7, 0, 0, 0⟩ w20_conf 3 0 [⟨3, 0, 0, 0⟩] (by decide) w20_ok 8 0 4 0 (by omega)
  rw [w20_next] at k
  refine spec_of_body mixed Try.func42 rfl (by kernel_rfl) (by kernel_rfl) ?_; conv => whnf
  ((try ((refine Exists.intro none ?_); (conv => whnf))); refine call_deep (k) (by (repeat' (first | exact subVL_nil | exact subVR_nil | refine subVL_cons ?_ ?_ | refine subVR_cons ?_ ?_ | exact SubV.refl _ | exact subV_nl | (with_reducible exact subV_tk rfl) | refine subV_ag ?_ | refine subV_sl ?_ | refine subV_ep ?_))) ?_; conv => whnf)
  exact exit_plain rfl rfl
theorem arg_B4 {p : PV} (h : ArgOf Try.prog 70 p) : ∃ a b c d : Int, p = .ag [iv a, iv b, iv c, iv d] ∧ isI a ∧ isI b ∧ isI c ∧ isI d := by
  obtain ⟨ls, rfl, hh⟩ := argOf_agg (by kernel_rfl) h
  obtain ⟨ps, rfl, h0⟩ := ty_array 4 3 (by kernel_rfl) hh
  obtain ⟨p0, ps, rfl, h1, h0⟩ := tyParts_cons h0
  obtain ⟨p1, ps, rfl, h2, h0⟩ := tyParts_cons h0
  obtain ⟨p2, ps, rfl, h3, h0⟩ := tyParts_cons h0
  obtain ⟨p3, ps, rfl, h4, h0⟩ := tyParts_cons h0
  obtain rfl := tyParts_nil h0
  obtain ⟨x0, rfl, w0⟩ := ty_i h1
  obtain ⟨x1, rfl, w1⟩ := ty_i h2
  obtain ⟨x2, rfl, w2⟩ := ty_i h3
  obtain ⟨x3, rfl, w3⟩ := ty_i h4
  exact ⟨x0, x1, x2, x3, rfl, w0, w1, w2, w3⟩
/-- Whatever comes in: an error, and nothing; or nothing is wanted; or a step. -/
theorem c_next_any (c : Conf) (full wit : Int) (p : List Pl) (hl : p.length ≤ 4294967) (s1 s2 sil cau : Int) :
    (∃ e : Int, e ≠ 0 ∧ Ctr Try.prog 40 [.ag c.enc, iv full, iv wit, .sl 4 (p.map Pl.enc), iv s1, iv s2, iv sil, iv cau] (.tu [.ag stepZ, iv e]) []) ∨
    Ctr Try.prog 40 [.ag c.enc, iv full, iv wit, .sl 4 (p.map Pl.enc), iv s1, iv s2, iv sil, iv cau] (.tu [.ag stepZ, iv 0]) [] ∨
    ∃ d n, IsStep c (band sil 127) s1 s2 d n ∧ Ctr Try.prog 40 [.ag c.enc, iv full, iv wit, .sl 4 (p.map Pl.enc), iv s1, iv s2, iv sil, iv cau] (.tu [.ag (stepV d), iv 0]) [] := by
  cases hc : confB c with
  | false => exact .inl ⟨14, by decide, c_pNextC c hc full wit p s1 s2 sil cau⟩
  | true =>
    cases hp : plsB p with
    | false => exact .inl ⟨1, by decide, c_pNextP c hc full wit p hl hp s1 s2 sil cau⟩
    | true =>
      by_cases hr : (1 ≤ full ∧ full ≤ 7) ∧ 0 ≤ wit ∧ wit ≤ 7
      · have k := c_pNext c hc full wit p hl hp s1 s2 sil cau hr
        cases hn : nextS c full wit p s1 s2 (band sil 127) (band cau 127) with
        | none => rw [hn] at k; exact .inr (.inl k)
        | some d =>
          rw [hn] at k
          obtain ⟨n, hs⟩ := next_is hp hn
          exact .inr (.inr ⟨d, n, hs, k⟩)
      · exact .inl ⟨1, by decide, c_pNextA c hc full wit p hl hp s1 s2 sil cau hr⟩
end Go.Proofs
