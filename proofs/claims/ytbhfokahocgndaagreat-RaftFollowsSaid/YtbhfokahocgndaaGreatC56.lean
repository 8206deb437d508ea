/- Contracts of functions: the reference's Grow, Next, messages compared, the wake. -/
import Derived.Test.YtbhfokahocgndaaGreatC55
import Derived.Test.YtbhfokahocgndaaGreatC54
import Derived.Test.YtbhfokahocgndaaGreatC49
set_option linter.unusedSimpArgs false
set_option linter.unusedVariables false
namespace Go.Proofs
open Go.Pv
set_option maxRecDepth 100000

theorem c_growV (a : Hrd) (h1 : a.snap.length ≤ 4294967296) (h2 : a.log.length ≤ 4294967) (hb : isI a.base) (c : Int) (m : Mg) (h3 : m.entries.length ≤ 4294967) :
    Ctr Tryz.prog 146 [.ag a.enc, iv c, .ag m.enc] (resGW (growE a c m) (growO a c m)) [] := ctr_resG (c_grow a h1 h2 hb c m h3)

theorem c_gNext (nx mt : Int) (m : Mg) (h1 : -1152921504606846976 ≤ nx ∧ nx ≤ 1152921504606846976) (h2 : -1152921504606846976 ≤ mt ∧ mt ≤ 1152921504606846976) (h3 : -1152921504606846976 ≤ m.index ∧ m.index ≤ 1152921504606846976) :
    Ctr Tryz.prog 149 [iv nx, iv mt, .ag m.enc] (.tu [iv (nxN nx mt m.yes m.index), iv (nxM mt m.yes m.index)]) [] := by
  have w1 : IntKind.i64.wrap (nx - 1) = nx - 1 := wrap_id (by omega) (by omega)
  have w2 : IntKind.i64.wrap (m.index + 1) = m.index + 1 := wrap_id (by omega) (by omega)
  have w3 : IntKind.i64.wrap (mt + 1) = mt + 1 := wrap_id (by omega) (by omega)
  have w4 : ∀ x : Int, x ≤ 1152921504606846976 → -1152921504606846976 ≤ x → IntKind.i64.wrap (x + 1) = x + 1 := fun x _ _ => wrap_id (by omega) (by omega)
  refine spec_of_body mixed Tryz.func149 rfl (by kernel_rfl) (by kernel_rfl) ?_; conv => whnf
  ((first | (with_reducible refine split_dec (fun h => ?_) (fun h => ?_)) | (with_reducible refine split_beq (fun h => ?_) (fun h => ?_)) | (with_reducible refine split_bne (fun h => ?_) (fun h => ?_)) | (with_reducible refine split_not (fun h => ?_) (fun h => ?_)) | (with_reducible refine split_beqS (fun h => ?_) (fun h => ?_)) | (with_reducible refine split_intro (fun h => ?_) (fun h => ?_))) <;> conv => whnf)
  · refine exit_plain rfl ?_
    rw [w4 _ (by split <;> omega) (by split <;> omega), h]
    have q1 : nxM mt true m.index = (if m.index > mt then m.index else mt) := by unfold nxM; rw [if_pos rfl]; split <;> omega
    have q2 : nxN nx mt true m.index = (if (if m.index > mt then m.index else mt) + 1 > nx then (if m.index > mt then m.index else mt) + 1 else nx) := by unfold nxN; rw [if_pos rfl]; repeat' split <;> omega
    rw [q1, q2]
  · have q1 : nxM mt false m.index = mt := by unfold nxM; rw [if_neg (by decide)]
    have q2 : nxN nx mt false m.index = max (min (nx - 1) (m.index + 1)) (mt + 1) := by unfold nxN; rw [if_neg (by decide)]
    rw [h, q1, q2]
    ((first | (with_reducible refine split_dec (fun h => ?_) (fun h => ?_)) | (with_reducible refine split_beq (fun h => ?_) (fun h => ?_)) | (with_reducible refine split_bne (fun h => ?_) (fun h => ?_)) | (with_reducible refine split_not (fun h => ?_) (fun h => ?_)) | (with_reducible refine split_beqS (fun h => ?_) (fun h => ?_)) | (with_reducible refine split_intro (fun h => ?_) (fun h => ?_))) <;> conv => whnf)
    · ((first | (with_reducible refine split_dec (fun h => ?_) (fun h => ?_)) | (with_reducible refine split_beq (fun h => ?_) (fun h => ?_)) | (with_reducible refine split_bne (fun h => ?_) (fun h => ?_)) | (with_reducible refine split_not (fun h => ?_) (fun h => ?_)) | (with_reducible refine split_beqS (fun h => ?_) (fun h => ?_)) | (with_reducible refine split_intro (fun h => ?_) (fun h => ?_))) <;> conv => whnf)
      · refine exit_plain rfl ?_
        rw [w1] at *
        rw [w2, w3, show (if mt + 1 > m.index + 1 then mt + 1 else m.index + 1) = max (min (nx - 1) (m.index + 1)) (mt + 1) by split <;> omega]
      · refine exit_plain rfl ?_
        rw [w1] at *
        rw [w3, show (if mt + 1 > nx - 1 then mt + 1 else nx - 1) = max (min (nx - 1) (m.index + 1)) (mt + 1) by split <;> omega]
    · exfalso; omega
abbrev Mg.wi (m : Mg) (r : List (List PV)) : Mg := { m with inner := r }
abbrev w16 : Hrd := ⟨1, -1, 0, 0, ⟨1, 0, 0, 0⟩, [], [et 1]⟩
abbrev m16 : Mg := ⟨0, 0, 0, 0, 2, 1, 0, 0, false, [et 1], ⟨0, 0, 0, 0⟩, [], []⟩
end Go.Proofs
