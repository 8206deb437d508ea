/-
  A nil slice where a contract speaks of an empty one. Generic over the program.
-/
import Derived.Test.YtnphfgphajejaaaPvN
namespace Go.Pv

def SubL : List PV → List PV → Prop
  | [], [] => True
  | p :: ps, q :: qs => (p = q ∨ (p = .nl ∧ ∃ sz, q = .sl sz [])) ∧ SubL ps qs
  | _, _ => False
def SubA : List PV → List PV → Prop
  | [], [] => True
  | p :: ps, q :: qs => (p = q ∨ (p = .nl ∧ ∃ sz, q = .sl sz []) ∨ ∃ xs ys, p = .ag xs ∧ q = .ag ys ∧ SubL xs ys) ∧ SubA ps qs
  | _, _ => False

theorem sub_nl {M : Mem} {w : World} {v : Value} {sz : Nat} (h : RV M w .nl v) : RV M w (.sl sz []) v := by
  simp only [RV] at h ⊢
  obtain ⟨a, rfl⟩ := h
  exact ⟨a, 0, 0, rfl, rfl, Nat.le_refl _, .inl trivial⟩

theorem subL_sound {M : Mem} {w : World} : ∀ {ps qs : List PV} {cs : List Value}, SubL ps qs → RVL M w ps cs → RVL M w qs cs
  | [], [], cs, _, h => h
  | p :: ps, q :: qs, cs, hs, h => by
    simp only [RVL] at h ⊢
    obtain ⟨c, r, rfl, h1, h2⟩ := h
    refine ⟨c, r, rfl, ?_, subL_sound hs.2 h2⟩
    rcases hs.1 with rfl | ⟨rfl, sz, rfl⟩
    · exact h1
    · exact sub_nl h1
  | [], _ :: _, _, hs, _ => hs.elim
  | _ :: _, [], _, hs, _ => hs.elim

theorem subA_sound {M : Mem} {w : World} : ∀ {ps qs : List PV} {cs : List Value}, SubA ps qs → RVL M w ps cs → RVL M w qs cs
  | [], [], cs, _, h => h
  | p :: ps, q :: qs, cs, hs, h => by
    simp only [RVL] at h ⊢
    obtain ⟨c, r, rfl, h1, h2⟩ := h
    refine ⟨c, r, rfl, ?_, subA_sound hs.2 h2⟩
    rcases hs.1 with rfl | ⟨rfl, sz, rfl⟩ | ⟨xs, ys, rfl, rfl, hl⟩
    · exact h1
    · exact sub_nl h1
    · simp only [RV] at h1 ⊢
      obtain ⟨cs, e, h1⟩ := h1
      exact ⟨cs, e, subL_sound hl h1⟩
  | [], _ :: _, _, hs, _ => hs.elim
  | _ :: _, [], _, hs, _ => hs.elim

theorem Ctr.weak {P : Program} {f : Nat} {ps qs : List PV} {r : PV} {os : List (Nat × List (List PV))} (h : Ctr P f qs r os) (hs : SubA ps qs) : Ctr P f ps r os :=
  ⟨fun w st vs hst hv => h.run w st vs hst (subA_sound hs hv)⟩

theorem call_wk {P : Program} {f : Nat} {ps qs : List PV} {r : PV} {os : List (Nat × List (List PV))} {K : PV → List (Nat × List (List PV)) → Prop} (h : Ctr P f qs r os) (hs : SubA ps qs) (k : K r os) : ∃ r os, Ctr P f ps r os ∧ K r os := ⟨r, os, h.weak hs, k⟩

end Go.Pv
