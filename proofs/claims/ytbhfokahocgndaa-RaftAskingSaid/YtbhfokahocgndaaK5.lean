/- Plain law: a replica that is apart asks, again and again. -/
import Derived.Test.YtbhfokahocgndaaK1
set_option linter.unusedSimpArgs false
set_option linter.unusedVariables false
namespace Go.Proofs
open Go.Pv
set_option maxRecDepth 100000

theorem bitB_tb {n : Nat} (hn : n < 7) (b : Int) : bitB b n = tb b n := by
  rw [← hasB_eq (by simp [withinB]; omega), hasB_nat b n (by omega)]
theorem delay_v {c : Conf} {n : Nat} (hn : n < 7) (hv : bitB (bor c.full c.wit) n = true) : 6 ≤ delay c n ∧ delay c n ≤ 32 := by
  rw [bitB_tb hn, tb_or] at hv
  rw [delay_eq, bitB_tb hn, bitB_tb hn]
  cases h1 : tb c.full n with
  | true => rw [if_pos rfl]; omega
  | false =>
    rw [h1, Bool.false_or] at hv
    rw [if_neg (by decide), if_pos hv]; omega
theorem delay_n {c : Conf} {n : Nat} (hn : n < 7) (hv : bitB (bor c.full c.wit) n = false) : delay c n = 0 := by
  rw [bitB_tb hn, tb_or, Bool.or_eq_false_iff] at hv
  rw [delay_eq, bitB_tb hn, bitB_tb hn, hv.1, hv.2, if_neg (by decide), if_neg (by decide)]
theorem othN_cnt (n : Nat) (bits : Int) : ∀ k : Nat, ((othN n bits k).length : Int) = cnt bits k - (if n < k ∧ tb bits n = true then 1 else 0)
  | 0 => by
    rw [if_neg (by omega)]; rfl
  | k + 1 => by
    have ih := othN_cnt n bits k
    show _ = cnt bits k + nb (tb bits k) - _
    by_cases hk : k = n
    · subst hk
      rw [othN_no (.inl rfl), ih, if_neg (by omega)]
      cases ht : tb bits k with
      | true => rw [if_pos ⟨by omega, rfl⟩]; show _ = cnt bits k + 1 - 1; omega
      | false => rw [if_neg (by intro h; cases h.2)]; show _ = cnt bits k + 0 - 0; omega
    · have e : (n < k + 1 ∧ tb bits n = true) ↔ (n < k ∧ tb bits n = true) := ⟨fun h => ⟨by omega, h.2⟩, fun h => ⟨by omega, h.2⟩⟩
      simp only [e]
      cases ht : tb bits k with
      | true =>
        rw [othN_yes (by omega) ht, List.length_append]
        show ((((othN n bits k).length + 1 : Nat)) : Int) = cnt bits k + 1 - _
        omega
      | false =>
        rw [othN_no (.inr ht), ih]
        show _ = cnt bits k + 0 - _
        omega
theorem othN_tb {id bits v : Int} (h : v ∈ othN id bits 7) : ∃ k : Nat, v = k ∧ k < 7 ∧ tb bits k = true := by
  unfold othN at h
  obtain ⟨k, hk, rfl⟩ := List.mem_map.1 h
  obtain ⟨h1, h2⟩ := List.mem_filter.1 hk
  simp only [Bool.and_eq_true] at h2
  exact ⟨k, rfl, List.mem_range.1 h1, h2.2⟩
theorem cnt_one (x : Int) {n : Nat} (hn : n < 7) : ∀ k : Nat, cnt (band x (shl 1 n)) k ≤ if n < k then 1 else 0
  | 0 => by rw [if_neg (by omega)]; exact Int.le_refl _
  | k + 1 => by
    have ih := cnt_one x hn k
    show cnt _ k + nb (tb (band x (shl 1 n)) k) ≤ _
    rw [tb_and, tb_shl n k (by omega)]
    by_cases hk : n = k
    · subst hk
      rw [if_neg (by omega)] at ih
      rw [if_pos (by omega)]
      rcases nb_cases (tb x n && decide (n = n)) with h | h <;> rw [h] <;> omega
    · rw [decide_eq_false hk, Bool.and_false]
      show cnt _ k + 0 ≤ _
      by_cases h : n < k
      · rw [if_pos h] at ih; rw [if_pos (by omega)]; omega
      · rw [if_neg h] at ih; rw [if_neg (by omega)]; omega
theorem quorum_alone {c : Conf} {n : Nat} (hn : n < 7) (h2 : 2 ≤ count (bor c.full c.wit)) : quorum c (shl 1 n) = false := by
  have h := cnt_one (bor c.full c.wit) hn 7
  rw [if_pos hn] at h
  unfold quorum count at *
  exact decide_eq_false (by omega)
theorem step_dm (i d : Nat) (hd : 0 < d) : (i % d + 1 < d ∧ (i + 1) % d = i % d + 1 ∧ (i + 1) / d = i / d) ∨ (i % d + 1 = d ∧ (i + 1) % d = 0 ∧ (i + 1) / d = i / d + 1) := by
  have h1 := Nat.div_add_mod i d
  have h2 := Nat.mod_lt i hd
  by_cases h : i % d + 1 < d
  · left
    have e : i + 1 = (i % d + 1) + d * (i / d) := by omega
    refine ⟨h, ?_, ?_⟩
    · exact (congrArg (· % d) e).trans ((Nat.add_mul_mod_self_left _ _ _).trans (Nat.mod_eq_of_lt h))
    · exact (congrArg (· / d) e).trans ((Nat.add_mul_div_left _ _ hd).trans (by rw [Nat.div_eq_of_lt h, Nat.zero_add]))
  · right
    have e : i + 1 = d * (i / d + 1) := by rw [Nat.mul_add, Nat.mul_one]; omega
    refine ⟨by omega, ?_, ?_⟩
    · exact (congrArg (· % d) e).trans (Nat.mul_mod_right _ _)
    · exact (congrArg (· / d) e).trans (Nat.mul_div_cancel_left _ hd)
abbrev roI (d i : Nat) : Int := if i / d = 0 then 0 else 1
noncomputable abbrev voI (id : Int) (d i : Nat) : Int := if i / d = 0 then 0 else shl 1 id
abbrev wI (d i : Nat) : Int := (d : Int) - ((i % d : Nat) : Int)
noncomputable abbrev oI (c : Conf) (id : Int) (d i : Nat) : List Int := if i % d + 1 = d then othN id (bor c.full c.wit) 7 else []
theorem shl_fit {n : Nat} (hn : n < 7) : 0 ≤ shl 1 n ∧ shl 1 n ≤ 127 := by
  rw [shl_one n (by omega)]
  rcases (by omega : n = 0 ∨ n = 1 ∨ n = 2 ∨ n = 3 ∨ n = 4 ∨ n = 5 ∨ n = 6) with rfl | rfl | rfl | rfl | rfl | rfl | rfl <;> decide
/-- A tick of a voter that is apart. -/
theorem apart_v {c : Conf} {n : Nat} (hn : n < 7) (h2 : 2 ≤ count (bor c.full c.wit)) (hv : bitB (bor c.full c.wit) n = true) {d : Nat} (hd : delay c n = d) (i : Nat) :
    tickR (ak c n (roI d i) (voI n d i) (wI d i) i) = ak c n (roI d (i + 1)) (voI n d (i + 1)) (wI d (i + 1)) (farM ((i : Int) + 1)) ∧ tickO (ak c n (roI d i) (voI n d i) (wI d i) i) = (oI c n d i).map (askG n) := by
  have hdv := delay_v hn hv
  rw [hd] at hdv
  have hq := quorum_alone (c := c) hn h2
  rcases step_dm i d (by omega) with ⟨e1, e2, e3⟩ | ⟨e1, e2, e3⟩
  · have hw : (1 : Int) < wI d i := by
      clear e2 e3
      show (1 : Int) < (d : Int) - ((i % d : Nat) : Int)
      generalize i % d = q at *
      omega
    obtain ⟨k1, k2⟩ := tick_w hv (roI d i) (voI n d i) (w := wI d i) hw i
    rw [k1, k2]
    unfold roI voI wI oI
    rw [e2, e3, if_neg (show ¬ i % d + 1 = d by omega)]
    exact ⟨by rw [show (d : Int) - ((i % d : Nat) : Int) - 1 = (d : Int) - ((i % d + 1 : Nat) : Int) by omega], rfl⟩
  · obtain ⟨k1, k2⟩ := tick_a hv (roI d i) (voI n d i) i hq
    have ew : wI d i = 1 := by unfold wI; omega
    rw [ew, k1, k2, hd]
    unfold roI voI wI oI
    rw [e2, e3, if_pos e1, if_neg (Nat.succ_ne_zero (i / d)), if_neg (Nat.succ_ne_zero (i / d))]
    exact ⟨by rw [show (d : Int) - ((0 : Nat) : Int) = d by omega], rfl⟩
theorem apart_right {c : Conf} (hc' : confB c = true) {n : Nat} (hn : n < 7) {d : Nat} (hd : 6 ≤ d ∧ d ≤ 32) {i : Nat} (hi : i ≤ 1000) : rightB (ak c n (roI d i) (voI n d i) (wI d i) i) = true := by
  have hs := shl_fit hn
  have hm := Nat.mod_lt i (show 0 < d by omega)
  refine ak_right hc' (by omega) ?_ ?_ ?_ (by unfold wI; omega) (by omega)
  · unfold roI; split <;> omega
  · unfold roI; split <;> omega
  · unfold voI; split <;> omega
end Go.Proofs
