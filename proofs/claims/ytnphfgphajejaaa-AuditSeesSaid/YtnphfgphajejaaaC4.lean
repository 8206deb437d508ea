/- Plain facts: quorums and steps, bit by bit; the first wake. -/
import Derived.Test.YtnphfgphajejaaaC3
namespace Go.Proofs
open Go.Pv
set_option maxRecDepth 100000

theorem c_wakes08 : Ctr Try.prog 51 [] (bv true) [] := by
  have h1 := c_Remove ⟨1, 2, 0, 0⟩ 0
  rw [show removeR ⟨1, 2, 0, 0⟩ 0 = (cz, 14) from by
    simp only [removeR, wrongR, confB, steppedR, allB, band, bor, bandn, iand_eq, ior_eq, iandn_eq]; kernel_rfl] at h1
  have h2 := c_Quorum ⟨3, 4, 0, 0⟩ 5
  have e2 : count (bor 3 4) = 3 := by simp only [count, cnt, bor, ior_eq]; kernel_rfl
  have e3 : count (band (bor 3 4) 5) = 2 := by simp only [count, cnt, bor, band, ior_eq, iand_eq]; kernel_rfl
  rw [show quorum ⟨3, 4, 0, 0⟩ 5 = true from by unfold quorum; rw [e2, e3]; rfl] at h2
  have h3 := c_Count 7
  rw [show count 7 = 3 from by kernel_rfl] at h3
  refine spec_of_body mixed Try.func51 rfl (by kernel_rfl) (by kernel_rfl) ?_; conv => whnf
  ((try ((refine Exists.intro none ?_); (conv => whnf))); first | ((with_reducible refine call_by (h1) ?_); conv => whnf))
  ((try ((refine Exists.intro none ?_); (conv => whnf))); first | ((with_reducible refine call_by (h2) ?_); conv => whnf))
  ((try ((refine Exists.intro none ?_); (conv => whnf))); first | ((with_reducible refine call_by (h3) ?_); conv => whnf))
  exact exit_plain rfl rfl

def Nat7 (i : Int) : Prop := 0 ≤ i ∧ i < 7

theorem bit0_iff {x : Int} {n : Nat} (hn : n < 7) : band x (shl 1 n) = 0 ↔ tb x n = false := by
  rw [and0]
  constructor
  · intro h; have := h n; rw [tb_shl n n (by omega)] at this; simpa using this
  · intro h j
    rw [tb_shl n j (by omega)]
    by_cases e : n = j
    · subst e; rw [h]; rfl
    · simp [e]

theorem count_ext {x y : Int} (h : ∀ i, i < 7 → tb x i = tb y i) : count x = count y := by
  simp only [count, cnt, h 0 (by decide), h 1 (by decide), h 2 (by decide), h 3 (by decide), h 4 (by decide), h 5 (by decide), h 6 (by decide)]

theorem cnt_mono {x y : Int} : ∀ n, (∀ i, i < n → tb x i = true → tb y i = true) → cnt x n ≤ cnt y n
  | 0, _ => by simp [cnt]
  | n + 1, h => by
    have := cnt_mono (x := x) (y := y) n fun i hi => h i (by omega)
    simp only [cnt]
    have h2 := h n (by omega)
    cases hx : tb x n
    · rcases nb_cases (tb y n) with e | e <;> rw [e] <;> simp <;> omega
    · rw [h2 hx]; simp; omega
theorem count_mono {x y : Int} (h : ∀ i, i < 7 → tb x i = true → tb y i = true) : count x ≤ count y := cnt_mono 7 h

/-- Of parts. -/
theorem cnt_split {x y z : Int} : ∀ n, (∀ i, i < n → nb (tb x i) + nb (tb y i) ≤ nb (tb z i)) → cnt x n + cnt y n ≤ cnt z n
  | 0, _ => by simp [cnt]
  | n + 1, h => by
    have := cnt_split (x := x) (y := y) (z := z) n fun i hi => h i (by omega)
    have := h n (by omega)
    simp only [cnt]; omega
theorem cnt_split' {x y z : Int} : ∀ n, (∀ i, i < n → nb (tb x i) + nb (tb y i) = nb (tb z i)) → cnt x n + cnt y n = cnt z n
  | 0, _ => by simp [cnt]
  | n + 1, h => by
    have := cnt_split' (x := x) (y := y) (z := z) n fun i hi => h i (by omega)
    have := h n (by omega)
    simp only [cnt]; omega

theorem cnt_pos {x : Int} : ∀ n i, i < n → tb x i = true → 0 < cnt x n
  | 0, i, h, _ => by omega
  | n + 1, i, h, hb => by
    simp only [cnt]
    by_cases e : i = n
    · subst e; rw [hb]; have := cnt_le x i; simp; omega
    · have := cnt_pos n i (by omega) hb
      rcases nb_cases (tb x n) with e | e <;> omega

noncomputable abbrev voters (c : Conf) : Int := bor c.full c.wit

theorem Cok.some {c : Conf} (h : Cok c) : ∃ i, i < 7 ∧ tb c.full i = true := by
  apply Classical.byContradiction
  intro hn
  apply h.ne
  refine ext7 h.f (by unfold Bits7; omega) fun i hi => ?_
  rw [tb_zero]
  cases hb : tb c.full i
  · rfl
  · exact absurd ⟨i, hi, hb⟩ hn

theorem Cok.pos {c : Conf} (h : Cok c) : 0 < count (voters c) := by
  obtain ⟨i, hi, hb⟩ := h.some
  exact cnt_pos 7 i hi (by rw [tb_or, hb]; rfl)

theorem quorum_iff {c : Conf} {b : Int} : quorum c b = true ↔ count (voters c) < 2 * count (band (voters c) b) := by simp [quorum]

theorem quorum_mono {c : Conf} {a b : Int} (h : ∀ i, i < 7 → tb (voters c) i = true → tb a i = true → tb b i = true) (hq : quorum c a = true) : quorum c b = true := by
  rw [quorum_iff] at *
  have := count_mono (x := band (voters c) a) (y := band (voters c) b) (by
    intro i hi; rw [tb_and, tb_and]
    have := h i hi
    revert this
    cases tb (voters c) i <;> cases tb a i <;> simp)
  omega

/-- Two quorums of one configuration have a voter in common. -/
theorem quorum_meet {c : Conf} {a b : Int} (ha : quorum c a = true) (hb : quorum c b = true) : ∃ i, i < 7 ∧ tb (voters c) i = true ∧ tb a i = true ∧ tb b i = true := by
  apply Classical.byContradiction
  intro hn
  rw [quorum_iff] at ha hb
  have := cnt_split (x := band (voters c) a) (y := band (voters c) b) (z := voters c) 7 (by
    intro i hi
    rw [tb_and, tb_and]
    have : ¬ (tb (voters c) i = true ∧ tb a i = true ∧ tb b i = true) := fun h => hn ⟨i, hi, h⟩
    revert this
    cases tb (voters c) i <;> cases tb a i <;> cases tb b i <;> simp)
  unfold count at *
  omega

end Go.Proofs
