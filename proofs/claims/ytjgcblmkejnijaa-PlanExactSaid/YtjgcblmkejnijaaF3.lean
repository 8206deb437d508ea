/- Plain law: what the planner wants, line by line; it ends. -/
import Derived.Test.YtjgcblmkejnijaaF2
import Derived.Test.YtjgcblmkejnijaaD7
set_option linter.unusedSimpArgs false
set_option linter.unusedVariables false
namespace Go.Proofs
open Go.Pv
set_option maxRecDepth 100000

theorem low_cases (b : Int) : lowB b = -1 ∨ ∃ n : Nat, lowB b = n ∧ n < 7 ∧ tb b n = true := by
  unfold lowB
  split
  · rename_i i h
    have hm := List.mem_of_find?_eq_some h
    have hp := List.find?_some h
    exact .inr ⟨i, rfl, List.mem_range.1 hm, hp⟩
  · exact .inl rfl
theorem low_none {b : Int} (h : ∀ n : Nat, n < 7 → tb b n = false) : lowB b = -1 := by
  rcases low_cases b with e | ⟨n, _, h7, ht⟩
  · exact e
  · rw [h n h7] at ht; cases ht
theorem okS_some {r : Conf × Int} {d : Conf} (h : okS r = some d) : r.2 = 0 ∧ r.1 = d := by
  unfold okS at h
  split at h
  · rename_i h0; exact ⟨h0, Option.some.inj h⟩
  · cases h
theorem ok_hit {r : Conf × Int} {d : Conf} (h : okS r = some d) : hitS r d = true := by
  obtain ⟨h1, h2⟩ := okS_some h
  rw [← h2]; exact hit_self h1
/-- How a step is one. -/
structure IsStep (c : Conf) (sil spare spareW : Int) (d : Conf) (n : Nat) : Prop where
  lt : n < 7
  ok : Cok c
  ok' : Cok d
  hit : ∃ k, hitS (stp c n k) d = true
  how : (tb sil n = true ∧ ¬ free c n ∧ d = dele c n) ∨ (tb c.learn n = true ∧ d = proL c n) ∨ (tb c.lwit n = true ∧ d = proX c n) ∨ (free c n ∧ tb sil n = false ∧ tb spare n = true ∧ d = addL c n) ∨ (free c n ∧ tb sil n = false ∧ tb spareW n = true ∧ d = addX c n)
theorem remove_is {c d : Conf} {b sil s1 s2 : Int} (hb : ∀ n : Nat, tb b n = true → tb sil n = true) (h : okS (removeR c (lowB b)) = some d) : ∃ n, IsStep c sil s1 s2 d n := by
  have hh : hitS (stp c (lowB b) 3) d = true := ok_hit h
  obtain ⟨n, e, h7, h1, h2, _⟩ := step_inv hh
  rw [e] at hh h
  refine ⟨n, h7, h1, h2, ⟨3, hh⟩, .inl ?_⟩
  have ht : tb b n = true := by
    rcases low_cases b with e1 | ⟨m, e1, _, ht⟩
    · rw [e1] at e; omega
    · rw [e1] at e; obtain rfl : m = n := by omega
      exact ht
  obtain ⟨h3, h4⟩ := okS_some h
  unfold removeR at h3 h4
  rw [if_pos (wrongR_ok h1 h7)] at h3 h4
  by_cases hf : band (allB c) (shl 1 n) = 0
  · rw [if_pos hf] at h3; cases h3
  · rw [if_neg hf] at h3 h4
    refine ⟨hb n ht, fun hh => hf ((free_iff h7).2 hh), ?_⟩
    unfold steppedR at h3 h4
    split at h4
    · exact h4.symm
    · rename_i hc; rw [if_neg hc] at h3; cases h3
theorem promote_is {c d : Conf} {b sil s1 s2 : Int} (h : okS (promoteR c (lowB b)) = some d) : ∃ n, IsStep c sil s1 s2 d n := by
  have hh : hitS (stp c (lowB b) 2) d = true := ok_hit h
  obtain ⟨n, e, h7, h1, h2, _⟩ := step_inv hh
  rw [e] at hh h
  refine ⟨n, h7, h1, h2, ⟨2, hh⟩, ?_⟩
  obtain ⟨h3, h4⟩ := okS_some h
  cases hl : tb c.learn n with
  | true => rw [promoteR_okL h1 h7 hl] at h4; exact .inr (.inl ⟨rfl, h4.symm⟩)
  | false =>
    cases hx : tb c.lwit n with
    | true => rw [promoteR_okX h1 h7 hx] at h4; exact .inr (.inr (.inl ⟨rfl, h4.symm⟩))
    | false =>
      exfalso
      unfold promoteR at h3
      rw [if_pos (wrongR_ok h1 h7), if_pos (by rw [bit0_iff h7]; exact hl), if_pos (by rw [bit0_iff h7]; exact hx)] at h3
      cases h3
theorem best_bit {p : List Pl} (hp : plsB p = true) {bits : Int} {n : Nat} (h : bestP p bits = n) : tb bits n = true := by
  by_cases hex : ∃ y ∈ p, tb bits y.node.toNat = true
  · obtain ⟨y, hy, hb⟩ := hex
    obtain ⟨q, hq, e⟩ := best_some hy hb
    have := hq.bit
    rw [show q.node.toNat = n by omega] at this
    exact this
  · have := best_none (l := p) (bits := bits) fun y hy => by
      cases ht : tb bits y.node.toNat with
      | false => rfl
      | true => exact absurd ⟨y, hy, ht⟩ hex
    omega
theorem lrn_bit {c : Conf} {spare sil : Int} {n : Nat} (h : tb (lrnBits c spare sil) n = true) : tb spare n = true ∧ tb sil n = false ∧ free c n := by
  unfold lrnBits at h
  rw [tb_andn', tb_andn', tb_and, tb_all] at h
  unfold any4 at h
  unfold free
  revert h
  cases tb spare n <;> cases tb sil n <;> cases tb c.full n <;> cases tb c.wit n <;> cases tb c.learn n <;> cases tb c.lwit n <;> simp
theorem next_is {c d : Conf} {full wit : Int} {p : List Pl} (hp : plsB p = true) {spare spareW sil cau : Int} (h : nextS c full wit p spare spareW sil cau = some d) : ∃ n, IsStep c sil spare spareW d n := by
  have hb : ∀ a : Int, ∀ n : Nat, tb (band a sil) n = true → tb sil n = true := fun a n h => by
    rw [tb_and] at h; revert h; cases tb sil n <;> simp
  unfold nextS at h
  rcases Option.or_eq_some_iff.1 h with h | ⟨_, h⟩
  · exact remove_is (hb _) h
  rcases Option.or_eq_some_iff.1 h with h | ⟨_, h⟩
  · exact promote_is h
  rcases Option.or_eq_some_iff.1 h with h | ⟨_, h⟩
  · unfold tooS at h
    split at h
    · cases h
    · exact remove_is (hb _) h
  rcases Option.or_eq_some_iff.1 h with h | ⟨_, h⟩
  · unfold tooS at h
    split at h
    · cases h
    · exact remove_is (hb _) h
  rcases Option.or_eq_some_iff.1 h with h | ⟨_, h⟩
  · unfold lrnS at h
    split at h
    · cases h
    · have hh := ok_hit h
      have hh : hitS (stp c (bestP p (lrnBits c spare sil)) 0) d = true := hh
      obtain ⟨n, e, h7, h1, h2, _⟩ := step_inv hh
      obtain ⟨b1, b2, b3⟩ := lrn_bit (best_bit hp e)
      rw [e] at hh h
      refine ⟨n, h7, h1, h2, ⟨0, hh⟩, .inr (.inr (.inr (.inl ⟨b3, b2, b1, ?_⟩)))⟩
      have h4 := (okS_some h).2
      rw [learnR_ok h1 h7 b3] at h4
      exact h4.symm
  · unfold lrnS at h
    split at h
    · cases h
    · have hh := ok_hit h
      have hh : hitS (stp c (bestP p (lrnBits c spareW sil)) 1) d = true := hh
      obtain ⟨n, e, h7, h1, h2, _⟩ := step_inv hh
      obtain ⟨b1, b2, b3⟩ := lrn_bit (best_bit hp e)
      rw [e] at hh h
      refine ⟨n, h7, h1, h2, ⟨1, hh⟩, .inr (.inr (.inr (.inr ⟨b3, b2, b1, ?_⟩)))⟩
      have h4 := (okS_some h).2
      rw [learnR_ok h1 h7 b3] at h4
      exact h4.symm

/-! It ends. -/
def wtP (c : Conf) (sil : Int) (j : Nat) : Nat := if tb c.full j = true ∨ tb c.wit j = true then 1 else if tb c.learn j = true ∨ tb c.lwit j = true then 2 else if tb sil j = true then 0 else 3
def muP (c : Conf) (sil : Int) : Nat → Nat
  | 0 => 0
  | m + 1 => muP c sil m + wtP c sil m
theorem wtP_le (c : Conf) (sil : Int) (j : Nat) : wtP c sil j ≤ 3 := by
  unfold wtP; repeat' split
  all_goals omega
theorem muP_le (c : Conf) (sil : Int) : ∀ m, muP c sil m ≤ 3 * m
  | 0 => Nat.le_refl _
  | m + 1 => by
    have := muP_le c sil m
    have := wtP_le c sil m
    unfold muP; omega
theorem muP_lt {c d : Conf} {sil : Int} {n : Nat} (ho : ∀ j, j ≠ n → wtP d sil j = wtP c sil j) (hn : wtP d sil n < wtP c sil n) : ∀ m, muP d sil m ≤ muP c sil m ∧ (n < m → muP d sil m < muP c sil m)
  | 0 => ⟨Nat.le_refl _, fun h => absurd h (Nat.not_lt_zero _)⟩
  | m + 1 => by
    obtain ⟨h1, h2⟩ := muP_lt ho hn m
    unfold muP
    by_cases e : m = n
    · subst e; exact ⟨by omega, fun _ => by omega⟩
    · rw [ho m e]
      exact ⟨by omega, fun h => by have := h2 (by omega); omega⟩
theorem step_mu {c d : Conf} {sil s1 s2 : Int} {n : Nat} (h : IsStep c sil s1 s2 d n) : muP d sil 7 < muP c sil 7 := by
  have h7 := h.lt
  have hs : ∀ j, tb (shl 1 n) j = decide (n = j) := fun j => tb_shl n j (by omega)
  have one := h.ok.one n
  refine (muP_lt (n := n) ?_ ?_ 7).2 h7
  · intro j hj
    have hd : decide (n = j) = false := by simp; omega
    rcases h.how with ⟨_, _, e⟩ | ⟨_, e⟩ | ⟨_, e⟩ | ⟨_, _, _, e⟩ | ⟨_, _, _, e⟩ <;> subst e <;> simp only [wtP, dele, proL, proX, addL, addX, tb_or, tb_andn', hs, hd] <;> simp
  · have hd : decide (n = n) = true := by simp
    have hw := h.how
    unfold free at hw
    clear h
    rcases hw with ⟨b, f, e⟩ | ⟨b, e⟩ | ⟨b, e⟩ | ⟨f, b, _, e⟩ | ⟨f, b, _, e⟩ <;> subst e <;> simp only [wtP, dele, proL, proX, addL, addX, tb_or, tb_andn', hs, hd] <;> revert one b
    all_goals first | revert f | skip
    all_goals cases tb c.full n <;> cases tb c.wit n <;> cases tb c.learn n <;> cases tb c.lwit n <;> cases tb sil n <;> simp [one4]
theorem step_near {c d : Conf} {sil s1 s2 : Int} {n : Nat} (h : IsStep c sil s1 s2 d n) : nearR c d = true ∧ c ≠ d := by
  obtain ⟨k, hk⟩ := h.hit
  have hk2 := hk
  refine ⟨?_, fun e => ?_⟩
  · simp only [nearR, (confB_iff c).2 h.ok, (confB_iff d).2 h.ok', Bool.true_and, Bool.or_eq_true, List.any_eq_true]
    refine .inr ⟨n, List.mem_range.2 h.lt, ?_⟩
    unfold stp at hk
    unfold nearI
    split at hk <;> simp [hk]
  · have := step_kind h.lt hk2
    rw [e] at this
    exact this rfl
theorem all_high {c : Conf} (h : Cok c) {i : Nat} (hi : 7 ≤ i) : any4 (tb c.full i) (tb c.wit i) (tb c.learn i) (tb c.lwit i) = false := by
  rw [tb_high h.f hi, tb_high h.w hi, tb_high h.l hi, tb_high h.x hi]; rfl
theorem step_silent {c d : Conf} {sil s1 s2 : Int} {n : Nat} (h : IsStep c (band sil 127) s1 s2 d n) : bandn (bandn (allB c) (allB d)) sil = 0 ∧ band (bandn (allB d) (allB c)) sil = 0 ∧ bandn (bandn (allB d) (allB c)) (bor s1 s2) = 0 := by
  have h7 := h.lt
  have hs : ∀ j, tb (shl 1 n) j = decide (n = j) := fun j => tb_shl n j (by omega)
  have one := h.ok.one n
  have key : ∀ i, i < 64 → (any4 (tb c.full i) (tb c.wit i) (tb c.learn i) (tb c.lwit i) && !any4 (tb d.full i) (tb d.wit i) (tb d.learn i) (tb d.lwit i) && !tb sil i) = false ∧ (any4 (tb d.full i) (tb d.wit i) (tb d.learn i) (tb d.lwit i) && !any4 (tb c.full i) (tb c.wit i) (tb c.learn i) (tb c.lwit i) && tb sil i) = false ∧ (any4 (tb d.full i) (tb d.wit i) (tb d.learn i) (tb d.lwit i) && !any4 (tb c.full i) (tb c.wit i) (tb c.learn i) (tb c.lwit i) && !(tb s1 i || tb s2 i)) = false := by
    intro i hi
    by_cases hi7 : 7 ≤ i
    · rw [all_high h.ok hi7, all_high h.ok' hi7]; simp
    have h127 : tb 127 n = true := by rw [tb_127]; simp; omega
    by_cases e : n = i
    · subst e
      have hd : decide (n = n) = true := by simp
      have hw := h.how
      unfold free at hw
      clear h
      rcases hw with ⟨b, f, e⟩ | ⟨b, e⟩ | ⟨b, e⟩ | ⟨f, b, g, e⟩ | ⟨f, b, g, e⟩ <;> subst e <;> simp only [dele, proL, proX, addL, addX, tb_or, tb_andn', tb_and, hs, hd, h127, Bool.and_true] at * <;> revert one b
      all_goals first | (revert f g) | (revert f) | skip
      all_goals cases tb c.full n <;> cases tb c.wit n <;> cases tb c.learn n <;> cases tb c.lwit n <;> cases tb sil n <;> cases tb s1 n <;> cases tb s2 n <;> simp [one4, any4]
    · have hd : decide (n = i) = false := by simp; omega
      rcases h.how with ⟨_, _, e⟩ | ⟨_, e⟩ | ⟨_, e⟩ | ⟨_, _, _, e⟩ | ⟨_, _, _, e⟩ <;> subst e <;> simp only [dele, proL, proX, addL, addX, tb_or, tb_andn', hs, hd] <;> simp
  refine ⟨ext0 (isI_bandn _ _) fun i hi => ?_, ext0 (isI_band _ _) fun i hi => ?_, ext0 (isI_bandn _ _) fun i hi => ?_⟩
  · rw [tb_andn', tb_andn', tb_all, tb_all]; exact (key i hi).1
  · rw [tb_and, tb_andn', tb_all, tb_all]; exact (key i hi).2.1
  · rw [tb_andn', tb_andn', tb_or, tb_all, tb_all]; exact (key i hi).2.2
end Go.Proofs
