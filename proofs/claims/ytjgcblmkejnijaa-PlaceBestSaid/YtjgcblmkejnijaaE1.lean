/- Plain facts: the least score; infinity. -/
import Derived.Test.YtjgcblmkejnijaaD9
set_option linter.unusedSimpArgs false
set_option linter.unusedVariables false
namespace Go.Proofs
open Go.Pv
set_option maxRecDepth 100000

theorem fv_inf : fv infW = bigI := by
  have h : Ieee.double.read infW = .infinity false := by kernel_rfl
  unfold fv
  rw [h]; rfl
theorem fv_le_inf (a : Nat) : fv a ≤ fv infW := by
  rw [fv_inf]
  unfold fv
  have h := read_fin a
  generalize Ieee.double.read a = d at *
  have hp := bigI_pos
  cases d with
  | number s m i => exact Int.le_of_lt (dv_bound h).2
  | infinity s => unfold dv; cases s <;> simp <;> omega
  | nan => exact Int.le_of_lt hp
theorem ord_def {a b : Nat} (ha : fnanB a = false) (hb : fnanB b = false) : FloatKind.f64.format.order a b = some (compare (fv a) (fv b)) := order_fv ha hb
theorem fmin_num {a b : Nat} (ha : fnanB a = false) (hb : fnanB b = false) : fnanB (fminW (compare (fv a) (fv b)) a b) = false := by
  unfold fminW
  split
  · exact ha
  · exact hb
  · split
    · exact ha
    · exact hb
theorem fmin_fv (a b : Nat) : fv (fminW (compare (fv a) (fv b)) a b) = min (fv a) (fv b) := by
  unfold fminW
  rw [cmp_def]
  by_cases h : fv a < fv b
  · rw [if_pos h]; simp only; omega
  · rw [if_neg h]
    by_cases e : fv a = fv b
    · rw [if_pos e]
      simp only
      split <;> omega
    · rw [if_neg e]; simp only; omega
/-- The least of those that are looked at so far. -/
structure Least (l : List Pl) (f : Pl → Bool) (i n b : Nat) : Prop where
  le : i ≤ l.length
  num : fnanB b = false
  nle : n ≤ i
  all : ∀ j (hj : j < l.length), j < i → f (l[j]'hj) = true → 0 < n ∧ fv b ≤ fv (scoreW (l[j]'hj))
  one : (n = 0 ∧ fv b = fv infW) ∨ (0 < n ∧ ∃ j, ∃ hj : j < l.length, j < i ∧ f (l[j]'hj) = true ∧ fv b = fv (scoreW (l[j]'hj)))
theorem least_0 (l : List Pl) (f : Pl → Bool) : Least l f 0 0 infW :=
  ⟨Nat.zero_le _, fnan_inf, Nat.le_refl _, fun j _ h => absurd h (Nat.not_lt_zero _), .inl ⟨rfl, rfl⟩⟩
theorem least_no {l : List Pl} {f : Pl → Bool} {i n b : Nat} (h : Least l f i n b) (hi : i < l.length) (hf : f (l[i]'hi) = false) : Least l f (i + 1) n b := by
  refine ⟨hi, h.num, by have := h.nle; omega, fun j hj hji hfj => ?_, ?_⟩
  · by_cases e : j = i
    · subst e; rw [hf] at hfj; cases hfj
    · exact h.all j hj (by omega) hfj
  · rcases h.one with h1 | ⟨h1, j, hj, h2, h3, h4⟩
    · exact .inl h1
    · exact .inr ⟨h1, j, hj, by omega, h3, h4⟩
theorem least_yes {l : List Pl} {f : Pl → Bool} {i n b : Nat} (h : Least l f i n b) (hi : i < l.length) (hf : f (l[i]'hi) = true) : Least l f (i + 1) (n + 1) (fminW (compare (fv b) (fv (scoreW (l[i]'hi)))) b (scoreW (l[i]'hi))) := by
  have hs := scoreW_num (l[i]'hi)
  have hinf := fv_le_inf (scoreW (l[i]'hi))
  refine ⟨hi, fmin_num h.num hs, by have := h.nle; omega, fun j hj hji hfj => ⟨by omega, ?_⟩, .inr ⟨by omega, ?_⟩⟩
  · rw [fmin_fv]
    by_cases e : j = i
    · subst e; omega
    · have := (h.all j hj (by omega) hfj).2
      omega
  · rw [fmin_fv]
    by_cases hlt : fv b < fv (scoreW (l[i]'hi))
    · rcases h.one with h1 | ⟨h1, j, hj, h2, h3, h4⟩
      · omega
      · exact ⟨j, hj, by omega, h3, by omega⟩
    · exact ⟨i, hi, by omega, hf, by omega⟩
/-- The best place of a part of the places has the least score. -/
theorem least_best {l m : List Pl} {f : Pl → Bool} {bits : Int} {n b : Nat} (h : Least l f l.length n b) (hm : ∀ x, (x ∈ m ∧ tb bits x.node.toNat = true) ↔ (x ∈ l ∧ f x = true)) :
    (n = 0 → bestP m bits = -1) ∧ (0 < n → ∃ q ∈ l, f q = true ∧ tb bits q.node.toNat = true ∧ bestP m bits = q.node ∧ fv (scoreW q) = fv b) := by
  constructor
  · intro hn
    refine best_none (fun y hy => ?_)
    cases hb : tb bits y.node.toNat with
    | false => rfl
    | true =>
      obtain ⟨h1, h2⟩ := (hm y).1 ⟨hy, hb⟩
      obtain ⟨j, hj, rfl⟩ := List.getElem_of_mem h1
      have := (h.all j hj hj h2).1
      omega
  · intro hn
    rcases h.one with h1 | ⟨h1, j, hj, h2, h3, h4⟩
    · omega
    · obtain ⟨g1, g2⟩ := (hm _).2 ⟨List.getElem_mem hj, h3⟩
      obtain ⟨q, hq, e⟩ := best_some g1 g2
      obtain ⟨q1, q2⟩ := (hm q).1 ⟨hq.mem, hq.bit⟩
      refine ⟨q, q1, q2, hq.bit, e, ?_⟩
      have a1 := hq.least _ g1 g2
      obtain ⟨t, ht, et⟩ := List.getElem_of_mem q1
      have a2 := (h.all t ht ht (by rw [et]; exact q2)).2
      rw [et] at a2
      unfold keyLt at a1
      omega
theorem regL_mem {l : List Pl} {rg : Int} {x : Pl} : x ∈ regL l rg ↔ x ∈ l ∧ x.region = rg := by
  unfold regL
  rw [List.mem_filter]
  simp
end Go.Proofs
