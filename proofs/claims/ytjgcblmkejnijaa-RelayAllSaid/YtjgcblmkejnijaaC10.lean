import Derived.Test.YtjgcblmkejnijaaC6
import Derived.Test.YtjgcblmkejnijaaPvN
/- Contracts of functions: what is committed. -/
set_option linter.unusedSimpArgs false
set_option linter.unusedVariables false
namespace Go.Proofs
open Go.Pv
set_option maxRecDepth 100000

def Arr.at (m : Arr) : Nat → Int
  | 0 => m.a0
  | 1 => m.a1
  | 2 => m.a2
  | 3 => m.a3
  | 4 => m.a4
  | 5 => m.a5
  | 6 => m.a6
  | _ => 0

/-- Who has an index, among the first k. -/
noncomputable def haveB (m : Arr) (n : Int) : Nat → Int
  | 0 => 0
  | k + 1 => if n ≤ m.at k then bor (haveB m n k) (shl 1 k) else haveB m n k

/-- The greatest index above 'commit' of which p holds, from base + f - 1 down. -/
def down (p : Int → Bool) (base commit : Int) : Nat → Int
  | 0 => commit
  | f + 1 => if commit < base + f then (if p (base + f) then base + f else down p base commit f) else commit

noncomputable def hit (h : Hrd) (m : Arr) (n : Int) : Bool := fits h n h.term && quorum (force h (lastI h)).1 (haveB m n 7)
noncomputable def commitR (h : Hrd) (commit : Int) (m : Arr) : Int := down (hit h m) h.base commit (h.log.length + 1)

theorem lastI_eq {h : Hrd} (hb : 0 ≤ h.base) (hs : h.base + h.log.length < 9223372036854775808) : lastI h = h.base + h.log.length := by
  unfold lastI
  split
  · omega
  · exact wrap_id (by omega) (by omega)

end Go.Proofs

/- Contracts of functions: a log that begins; the wake of layer 17; plain facts of what is committed. -/
namespace Go.Proofs
open Go.Pv
set_option maxRecDepth 100000

abbrev et (t : Int) : Ent := ⟨t, 0, kz, cz⟩
abbrev h17 : Hrd := ⟨2, -1, 0, 0, ⟨7, 0, 0, 0⟩, [], [et 1, et 1, et 2]⟩

theorem q17 : count (bor 7 0) = 3 := by simp only [count, cnt, bor, ior_eq]; kernel_rfl
theorem q17a : count (band (bor 7 0) (bor (bor 0 (shl 1 0)) (shl 1 1))) = 2 := by simp only [count, cnt, bor, band, shl, ior_eq, iand_eq]; kernel_rfl
theorem q17b : count (band (bor 7 0) (bor 0 (shl 1 0))) = 1 := by simp only [count, cnt, bor, band, shl, ior_eq, iand_eq]; kernel_rfl

theorem cm17a : commitR h17 0 ⟨3, 3, 1, 0, 0, 0, 0⟩ = 3 := by
  have e : haveB ⟨3, 3, 1, 0, 0, 0, 0⟩ 3 7 = bor (bor 0 (shl 1 0)) (shl 1 1) := by kernel_rfl
  have hh : hit h17 ⟨3, 3, 1, 0, 0, 0, 0⟩ 3 = true := by
    unfold hit
    rw [show fits h17 3 h17.term = true from by kernel_rfl, e, show (force h17 (lastI h17)).1 = ⟨7, 0, 0, 0⟩ from by kernel_rfl]
    unfold quorum
    rw [q17, q17a]; rfl
  show down (hit h17 ⟨3, 3, 1, 0, 0, 0, 0⟩) 0 0 (3 + 1) = 3
  rw [down, if_pos (by decide), if_pos (by exact hh)]; rfl
theorem cm17b : commitR h17 0 ⟨3, 2, 2, 0, 0, 0, 0⟩ = 0 := by
  have e : haveB ⟨3, 2, 2, 0, 0, 0, 0⟩ 3 7 = bor 0 (shl 1 0) := by kernel_rfl
  have hh : hit h17 ⟨3, 2, 2, 0, 0, 0, 0⟩ 3 = false := by
    unfold hit
    rw [e, show (force h17 (lastI h17)).1 = ⟨7, 0, 0, 0⟩ from by kernel_rfl]
    unfold quorum
    rw [q17, q17b]; simp
  have h2 : hit h17 ⟨3, 2, 2, 0, 0, 0, 0⟩ 2 = false := by
    unfold hit; rw [show fits h17 2 h17.term = false from by kernel_rfl]; rfl
  have h1 : hit h17 ⟨3, 2, 2, 0, 0, 0, 0⟩ 1 = false := by
    unfold hit; rw [show fits h17 1 h17.term = false from by kernel_rfl]; rfl
  show down (hit h17 ⟨3, 2, 2, 0, 0, 0, 0⟩) 0 0 (2 + 1 + 1) = 0
  rw [down, if_pos (by decide), if_neg (by show ¬ hit h17 _ 3 = true; rw [hh]; simp), down, if_pos (by decide), if_neg (by show ¬ hit h17 _ 2 = true; rw [h2]; simp)]
  show down (hit h17 ⟨3, 2, 2, 0, 0, 0, 0⟩) 0 0 (0 + 1 + 1) = 0
  rw [down, if_pos (by decide), if_neg (by show ¬ hit h17 _ 1 = true; rw [h1]; simp), down, if_neg (by decide)]

theorem down_ge {p : Int → Bool} {base commit : Int} : ∀ f, commit ≤ down p base commit f
  | 0 => Int.le_refl _
  | f + 1 => by
    unfold down
    split
    · split
      · omega
      · exact down_ge f
    · exact Int.le_refl _
theorem down_spec {p : Int → Bool} {base commit : Int} : ∀ f, down p base commit f = commit ∨ (commit < down p base commit f ∧ base ≤ down p base commit f ∧ down p base commit f < base + f ∧ p (down p base commit f) = true)
  | 0 => .inl rfl
  | f + 1 => by
    unfold down
    split
    · split
      · rename_i h1 h2
        exact .inr ⟨h1, by omega, by omega, h2⟩
      · rcases down_spec (p := p) (base := base) (commit := commit) f with h | ⟨h1, h2, h3, h4⟩
        · exact .inl h
        · exact .inr ⟨h1, h2, by omega, h4⟩
    · exact .inl rfl
theorem down_max {p : Int → Bool} {base commit : Int} {n : Int} (hp : p n = true) (h1 : commit < n) (h2 : base ≤ n) : ∀ f, n < base + (f : Nat) → n ≤ down p base commit f
  | 0, h => by omega
  | f + 1, h => by
    unfold down
    rw [if_pos (by omega)]
    split
    · omega
    · rename_i h3
      refine down_max hp h1 h2 f ?_
      have : n ≠ base + f := fun e => h3 (e ▸ hp)
      omega
end Go.Proofs

/- Contracts of functions: whether the configuration may change. -/
namespace Go.Proofs
open Go.Pv
set_option maxRecDepth 100000

theorem entAt_mem {h : Hrd} {i : Int} {x : Ent} (e : entAt h i = some x) : x ∈ h.log := by
  unfold entAt at e
  split at e
  · exact List.mem_of_getElem? e
  · cases e
end Go.Proofs
