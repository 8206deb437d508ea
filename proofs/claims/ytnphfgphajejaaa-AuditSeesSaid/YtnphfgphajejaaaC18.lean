/- Plain facts: near configurations. -/
import Derived.Test.YtnphfgphajejaaaC17
namespace Go.Proofs
open Go.Pv
set_option maxRecDepth 100000

/-- The same, but for one node. -/
def but (a b : Conf) (n : Nat) : Prop := ∀ j, j ≠ n → tb b.full j = tb a.full j ∧ tb b.wit j = tb a.wit j ∧ tb b.learn j = tb a.learn j ∧ tb b.lwit j = tb a.lwit j

theorem stepped_inv {x c : Conf} (h : hitS (steppedR x) c = true) : Cok x ∧ x = c := by
  unfold hitS steppedR at h
  split at h
  · rename_i hc
    simp at h
    exact ⟨(confB_iff x).1 hc, h⟩
  · simp at h

theorem tb_sh {n j : Nat} (hn : n < 7) (h : j ≠ n) : tb (shl 1 n) j = false := by
  rw [tb_shl n j (by omega)]; simp; omega

theorem step_inv {a b : Conf} {i : Int} {k : Nat} (h : hitS (stp a i k) b = true) : ∃ n : Nat, i = n ∧ n < 7 ∧ Cok a ∧ Cok b ∧ but a b n := by
  have hw : ∀ e : Int, e ≠ 0 → hitS (cz, e) b = true → False := by
    intro e he hh; simp [hitS] at hh; exact he hh.1
  have fin : ∀ (x : Conf) (n : Nat), n < 7 → wrongR a n = 0 → hitS (steppedR x) b = true → but a x n → ∃ m : Nat, (n : Int) = m ∧ m < 7 ∧ Cok a ∧ Cok b ∧ but a b m := by
    intro x n hn hw0 hh hb
    obtain ⟨h1, rfl⟩ := stepped_inv hh
    exact ⟨n, rfl, hn, (confB_iff a).1 (wrongR0 hw0).1, h1, hb⟩
  have start : wrongR a i = 0 → ∃ n : Nat, i = n ∧ n < 7 := fun h0 => nat_of (wrongR0 h0).2
  unfold stp at h
  split at h
  · unfold learnR at h
    split at h
    · rename_i h0
      obtain ⟨n, rfl, hn⟩ := start h0
      split at h
      · simp only [Bool.false_eq_true, if_false] at h
        exact fin _ n hn h0 h fun j hj => by simp [tb_or, tb_sh hn hj]
      · exact (hw 14 (by decide) h).elim
    · rename_i h0; exact (hw _ h0 h).elim
  · unfold learnR at h
    split at h
    · rename_i h0
      obtain ⟨n, rfl, hn⟩ := start h0
      split at h
      · simp only [if_true] at h
        exact fin _ n hn h0 h fun j hj => by simp [tb_or, tb_sh hn hj]
      · exact (hw 14 (by decide) h).elim
    · rename_i h0; exact (hw _ h0 h).elim
  · unfold promoteR at h
    split at h
    · rename_i h0
      obtain ⟨n, rfl, hn⟩ := start h0
      split at h
      · split at h
        · exact (hw 14 (by decide) h).elim
        · exact fin _ n hn h0 h fun j hj => by simp [tb_or, tb_andn', tb_sh hn hj]
      · exact fin _ n hn h0 h fun j hj => by simp [tb_or, tb_andn', tb_sh hn hj]
    · rename_i h0; exact (hw _ h0 h).elim
  · unfold removeR at h
    split at h
    · rename_i h0
      obtain ⟨n, rfl, hn⟩ := start h0
      split at h
      · exact (hw 14 (by decide) h).elim
      · exact fin _ n hn h0 h fun j hj => by simp [tb_andn', tb_sh hn hj]
    · rename_i h0; exact (hw _ h0 h).elim

theorem near_inv {a b : Conf} (h : nearR a b = true) : Cok a ∧ Cok b ∧ ∃ n : Nat, n < 7 ∧ but a b n := by
  simp only [nearR, Bool.and_eq_true, Bool.or_eq_true, decide_eq_true_eq, List.any_eq_true] at h
  obtain ⟨ha, hb, h | ⟨i, _, h⟩⟩ := h
  · subst h
    exact ⟨(confB_iff a).1 ha, (confB_iff a).1 hb, 0, by decide, fun j _ => ⟨rfl, rfl, rfl, rfl⟩⟩
  · refine ⟨(confB_iff a).1 ha, (confB_iff b).1 hb, ?_⟩
    simp only [nearI, Bool.or_eq_true] at h
    rcases h with h | h | h | h
    · obtain ⟨n, _, h1, _, _, h2⟩ := step_inv (k := 0) h; exact ⟨n, h1, h2⟩
    · obtain ⟨n, _, h1, _, _, h2⟩ := step_inv (k := 1) h; exact ⟨n, h1, h2⟩
    · obtain ⟨n, _, h1, _, _, h2⟩ := step_inv (k := 2) h; exact ⟨n, h1, h2⟩
    · obtain ⟨n, _, h1, _, _, h2⟩ := step_inv (k := 3) h; exact ⟨n, h1, h2⟩
theorem cnt_union {u v : Int} {n : Nat} (h : ∀ j, j ≠ n → tb u j = tb v j) : ∀ m, 2 * cnt (bor u v) m ≤ cnt u m + cnt v m + nb (decide (n < m))
  | 0 => by simp [cnt]
  | m + 1 => by
    have ih := cnt_union h m
    simp only [cnt]
    rw [tb_or]
    by_cases e : m = n
    · subst e
      rw [show decide (m < m) = false by simp] at ih
      rw [show decide (m < m + 1) = true by simp]
      simp only [nb_false, nb_true] at *
      rcases nb_cases (tb u m) with e1 | e1 <;> rcases nb_cases (tb v m) with e2 | e2 <;> cases hu : tb u m <;> cases hv : tb v m <;> simp [hu, hv] at * <;> omega
    · rw [h m e]
      have : nb (decide (n < m)) = nb (decide (n < m + 1)) := by
        congr 1; exact decide_eq_decide.2 (by omega)
      rw [← this]
      cases tb v m <;> simp <;> omega

/-- Quorums of near configurations have a node in common. -/
theorem near_meet {a b : Conf} {x y : Int} (h : nearR a b = true) (hx : quorum a x = true) (hy : quorum b y = true) : ∃ i, i < 7 ∧ tb x i = true ∧ tb y i = true := by
  apply Classical.byContradiction
  intro hn
  obtain ⟨_, _, n, hn7, hb⟩ := near_inv h
  rw [quorum_iff] at hx hy
  have hv : ∀ j, j ≠ n → tb (voters a) j = tb (voters b) j := fun j hj => by
    obtain ⟨h1, h2, _, _⟩ := hb j hj
    rw [tb_or, tb_or, h1, h2]
  have h1 := cnt_split (x := band (voters a) x) (y := band (voters b) y) (z := bor (voters a) (voters b)) 7 (by
    intro i hi
    rw [tb_and, tb_and, tb_or (voters a) (voters b)]
    have : ¬ (tb x i = true ∧ tb y i = true) := fun h => hn ⟨i, hi, h⟩
    revert this
    cases tb (voters a) i <;> cases tb (voters b) i <;> cases tb x i <;> cases tb y i <;> simp)
  have h2 := cnt_union hv 7
  rcases nb_cases (decide (n < 7)) with e | e <;> rw [e] at h2 <;> unfold count at * <;> omega
end Go.Proofs
