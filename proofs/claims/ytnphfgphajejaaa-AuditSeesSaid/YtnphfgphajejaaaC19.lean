/- Plain facts: what a step changes. -/
import Derived.Test.YtnphfgphajejaaaC18
namespace Go.Proofs
open Go.Pv
set_option maxRecDepth 100000

theorem stepped_err' {c : Conf} (h : (steppedR c).2 ≠ 0) : (steppedR c).1 = cz := by
  unfold steppedR at *; split <;> simp_all
theorem learn_err {a : Conf} {i : Int} {w : Bool} (h : (learnR a i w).2 ≠ 0) : (learnR a i w).1 = cz := by
  unfold learnR at *
  repeat' split
  all_goals first | rfl | skip
  all_goals (simp_all; exact stepped_err' h)
theorem promote_err {a : Conf} {i : Int} (h : (promoteR a i).2 ≠ 0) : (promoteR a i).1 = cz := by
  unfold promoteR at *
  repeat' split
  all_goals first | rfl | skip
  all_goals (simp_all; exact stepped_err' h)
theorem remove_err {a : Conf} {i : Int} (h : (removeR a i).2 ≠ 0) : (removeR a i).1 = cz := by
  unfold removeR at *
  repeat' split
  all_goals first | rfl | skip
  all_goals (simp_all; exact stepped_err' h)

theorem hit_self {s : Conf × Int} (h : s.2 = 0) : hitS s s.1 = true := by simp [hitS, h]

theorem cnt_diff {u v : Int} {n : Nat} (h : ∀ j, j ≠ n → tb u j = tb v j) : ∀ m, cnt (bandn u v) m + cnt (bandn v u) m ≤ nb (decide (n < m))
  | 0 => by simp [cnt]
  | m + 1 => by
    have ih := cnt_diff h m
    simp only [cnt]
    rw [tb_andn', tb_andn']
    by_cases e : m = n
    · subst e
      rw [show decide (m < m) = false by simp] at ih
      rw [show decide (m < m + 1) = true by simp]
      simp only [nb_false, nb_true] at *
      cases tb u m <;> cases tb v m <;> simp <;> omega
    · rw [h m e]
      have : nb (decide (n < m)) = nb (decide (n < m + 1)) := by
        congr 1; exact decide_eq_decide.2 (by omega)
      rw [← this]
      cases tb v m <;> simp <;> omega

def kind4 (f w l x : Bool) : ByteArray := if f then sFull else if w then sWit else if l then sLearn else if x then sLwit else sE
theorem kindR_4 (c : Conf) {n : Nat} (hn : n < 7) : kindR c n = kind4 (tb c.full n) (tb c.wit n) (tb c.learn n) (tb c.lwit n) := kindR_eq c hn

/-- What a node is behind a step is not what it was. -/
theorem step_kind {a b : Conf} {n k : Nat} (hn : n < 7) (hs : hitS (stp a n k) b = true) : ¬ (kindR a n).toList = (kindR b n).toList := by
  rw [kindR_4 a hn, kindR_4 b hn]
  have hw : ∀ e : Int, e ≠ 0 → hitS (cz, e) b = true → False := by
    intro e he hh; simp [hitS] at hh; exact he hh.1
  have hnn : tb (shl 1 n) n = true := by rw [tb_shl n n (by omega)]; simp
  have h := hs
  have ha : Cok a := by obtain ⟨_, _, _, h, _⟩ := step_inv hs; exact h
  have one := ha.one n
  unfold stp at h
  split at h
  · unfold learnR at h
    split at h
    · split at h
      · rename_i hf
        simp only [Bool.false_eq_true, if_false] at h
        obtain ⟨_, rfl⟩ := stepped_inv h
        obtain ⟨f1, f2, f3, f4⟩ := (free_iff hn).1 hf
        simp only [tb_or, hnn, f1, f2, f3, f4]; decide +kernel
      · exact (hw 14 (by decide) h).elim
    · rename_i h0; exact (hw _ h0 h).elim
  · unfold learnR at h
    split at h
    · split at h
      · rename_i hf
        simp only [if_true] at h
        obtain ⟨_, rfl⟩ := stepped_inv h
        obtain ⟨f1, f2, f3, f4⟩ := (free_iff hn).1 hf
        simp only [tb_or, hnn, f1, f2, f3, f4]; decide +kernel
      · exact (hw 14 (by decide) h).elim
    · rename_i h0; exact (hw _ h0 h).elim
  · unfold promoteR at h
    split at h
    · split at h
      · split at h
        · exact (hw 14 (by decide) h).elim
        · rename_i _ hl hx
          rw [bit0_iff hn] at hl hx
          obtain ⟨_, rfl⟩ := stepped_inv h
          simp only [tb_or, tb_andn', hnn]
          revert one hl hx
          cases tb a.full n <;> cases tb a.wit n <;> cases tb a.learn n <;> cases tb a.lwit n <;> simp [one4] <;> decide +kernel
      · rename_i _ hl
        rw [bit0_iff hn] at hl
        obtain ⟨_, rfl⟩ := stepped_inv h
        simp only [tb_or, tb_andn', hnn]
        revert one hl
        cases tb a.full n <;> cases tb a.wit n <;> cases tb a.learn n <;> cases tb a.lwit n <;> simp [one4] <;> decide +kernel
    · rename_i h0; exact (hw _ h0 h).elim
  · unfold removeR at h
    split at h
    · split at h
      · exact (hw 14 (by decide) h).elim
      · rename_i _ hf
        rw [free_iff hn] at hf
        obtain ⟨_, rfl⟩ := stepped_inv h
        unfold free at hf
        simp only [tb_andn', hnn]
        revert one hf
        cases tb a.full n <;> cases tb a.wit n <;> cases tb a.learn n <;> cases tb a.lwit n <;> simp [one4] <;> decide +kernel
    · rename_i h0; exact (hw _ h0 h).elim
end Go.Proofs
