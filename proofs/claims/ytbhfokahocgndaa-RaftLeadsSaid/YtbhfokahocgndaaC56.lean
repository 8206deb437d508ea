/- Contracts of functions: the reference's Grow, Next, messages compared, the wake. -/
import Derived.Test.YtbhfokahocgndaaC55
import Derived.Test.YtbhfokahocgndaaC54
import Derived.Test.YtbhfokahocgndaaC49
set_option linter.unusedSimpArgs false
set_option linter.unusedVariables false
namespace Go.Proofs
open Go.Pv
set_option maxRecDepth 100000

theorem heavyF_len {m : Mg} (e : heavyF m = false) : m.entries.length ≤ 200 ∧ m.snap.length ≤ 32768 := by
  simp only [heavyF, heavyEs, Bool.or_eq_false_iff, decide_eq_false_iff_not] at e
  omega
theorem heavyM_len {m : Mg} (e : heavyM m = false) : (m.entries.length ≤ 200 ∧ m.snap.length ≤ 32768) ∧ m.inn.length ≤ 20 ∧ ∀ y ∈ m.inn, (y.entries.length ≤ 200 ∧ y.snap.length ≤ 32768) ∧ y.inn.length ≤ 3 ∧ ∀ z ∈ y.inn, z.entries.length ≤ 200 ∧ z.snap.length ≤ 32768 := by
  simp only [heavyM, Bool.or_eq_false_iff, decide_eq_false_iff_not, List.any_eq_false] at e
  obtain ⟨e1, e2, e3⟩ := e
  refine ⟨heavyF_len e1, by omega, fun y hy => ?_⟩
  have := e3 y hy
  simp only [Bool.not_eq_true, heavyM1, Bool.or_eq_false_iff, decide_eq_false_iff_not, List.any_eq_false] at this
  obtain ⟨f1, f2, f3⟩ := this
  exact ⟨heavyF_len f1, by omega, fun z hz => heavyF_len (by simpa using f3 z hz)⟩

theorem c_growV (a : Hrd) (h1 : a.snap.length ≤ 4294967296) (h2 : a.log.length ≤ 4294967) (hb : isI a.base) (c : Int) (m : Mg) (h3 : m.entries.length ≤ 4294967) :
    Ctr Try.prog 91 [.ag a.enc, iv c, .ag m.enc] (resGW (growE a c m) (growO a c m)) [] := ctr_resG (c_grow a h1 h2 hb c m h3)

theorem c_gNext (nx mt : Int) (m : Mg) (h1 : -1152921504606846976 ≤ nx ∧ nx ≤ 1152921504606846976) (h2 : -1152921504606846976 ≤ mt ∧ mt ≤ 1152921504606846976) (h3 : -1152921504606846976 ≤ m.index ∧ m.index ≤ 1152921504606846976) :
    Ctr Try.prog 94 [iv nx, iv mt, .ag m.enc] (.tu [iv (nxN nx mt m.yes m.index), iv (nxM mt m.yes m.index)]) [] := by
  have w1 : IntKind.i64.wrap (nx - 1) = nx - 1 := wrap_id (by omega) (by omega)
  have w2 : IntKind.i64.wrap (m.index + 1) = m.index + 1 := wrap_id (by omega) (by omega)
  have w3 : IntKind.i64.wrap (mt + 1) = mt + 1 := wrap_id (by omega) (by omega)
  have w4 : ∀ x : Int, x ≤ 1152921504606846976 → -1152921504606846976 ≤ x → IntKind.i64.wrap (x + 1) = x + 1 := fun x _ _ => wrap_id (by omega) (by omega)
  refine spec_of_body mixed Try.func94 rfl (by kernel_rfl) (by kernel_rfl) ?_; conv => whnf
  ((first | (with_reducible refine split_dec (fun h => ?_) (fun h => ?_)) | (with_reducible refine split_beq (fun h => ?_) (fun h => ?_)) | (with_reducible refine split_bne (fun h => ?_) (fun h => ?_)) | (with_reducible refine split_not (fun h => ?_) (fun h => ?_)) | (with_reducible refine split_beqS (fun h => ?_) (fun h => ?_)) | (with_reducible refine split_intro (fun h => ?_) (fun h => ?_))) <;> conv => whnf)
  · refine exit_plain rfl ?_
    rw [w4 _ (by split <;> omega) (by split <;> omega), h]
    have q1 : nxM mt true m.index = (if m.index > mt then m.index else mt) := by unfold nxM; rw [if_pos rfl]; split <;> omega
    have q2 : nxN nx mt true m.index = (if (if m.index > mt then m.index else mt) + 1 > nx then (if m.index > mt then m.index else mt) + 1 else nx) := by unfold nxN; rw [if_pos rfl]; repeat' split <;> omega
    rw [q1, q2]
  · have q1 : nxM mt false m.index = mt := by unfold nxM; rw [if_neg (by decide)]
    have q2 : nxN nx mt false m.index = max (min (nx - 1) (m.index + 1)) (mt + 1) := by unfold nxN; rw [if_neg (by decide)]
    rw [h, q1, q2]
    ((first | (with_reducible refine split_dec (fun h => ?_) (fun h => ?_)) | (with_reducible refine split_beq (fun h => ?_) (fun h => ?_)) | (with_reducible refine split_bne (fun h => ?_) (fun h => ?_)) | (with_reducible refine split_not (fun h => ?_) (fun h => ?_)) | (with_reducible refine split_beqS (fun h => ?_) (fun h => ?_)) | (with_reducible refine split_intro (fun h => ?_) (fun h => ?_))) <;> conv => whnf)
    · ((first | (with_reducible refine split_dec (fun h => ?_) (fun h => ?_)) | (with_reducible refine split_beq (fun h => ?_) (fun h => ?_)) | (with_reducible refine split_bne (fun h => ?_) (fun h => ?_)) | (with_reducible refine split_not (fun h => ?_) (fun h => ?_)) | (with_reducible refine split_beqS (fun h => ?_) (fun h => ?_)) | (with_reducible refine split_intro (fun h => ?_) (fun h => ?_))) <;> conv => whnf)
      · refine exit_plain rfl ?_
        rw [w1] at *
        rw [w2, w3, show (if mt + 1 > m.index + 1 then mt + 1 else m.index + 1) = max (min (nx - 1) (m.index + 1)) (mt + 1) by split <;> omega]
      · refine exit_plain rfl ?_
        rw [w1] at *
        rw [w3, show (if mt + 1 > nx - 1 then mt + 1 else nx - 1) = max (min (nx - 1) (m.index + 1)) (mt + 1) by split <;> omega]
    · exfalso; omega
abbrev Mg.wi (m : Mg) (r : List (List PV)) : Mg := { m with inner := r }
abbrev w16 : Hrd := ⟨1, -1, 0, 0, ⟨1, 0, 0, 0⟩, [], [et 1]⟩
abbrev m16 : Mg := ⟨0, 0, 0, 0, 2, 1, 0, 0, false, [et 1], ⟨0, 0, 0, 0⟩, [], []⟩
theorem hardB_w16 : hardB w16 = true := by
  have h1 : rowB [et 1] 0 1 = true := by simp [rowB, entryB_et]; decide
  unfold hardB
  rw [dec_true (show HardA w16 from ⟨by simp, by simp, by simp, by simp, by simp⟩), confB_1, h1]
  simp
end Go.Proofs
