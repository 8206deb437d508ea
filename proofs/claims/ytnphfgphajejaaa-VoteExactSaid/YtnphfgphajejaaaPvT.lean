/-
  Answers that are new slices. Generic over the program.
-/
import Derived.Test.YtnphfgphajejaaaPvQ
namespace Go.Pv

/-- An answer with slices of the call's own. -/
theorem exit_own {c : CSt} {p r : PV} {os : List (Nat × List (List PV))} (rn : List (Nat × Nat)) (h1 : rnB rn ((osL 0 os).map (·.1)) = true) (h2 : wkOK rn c.ob [] (osL 0 os)) (h3 : WkV [] rn [] p r) : ExitOk c p r os := by
  refine ⟨[], rn, ⟨by simp, ?_, ?_, ?_⟩, h3⟩
  · intro k o hk
    obtain ⟨k0, q, a, b, d, e⟩ := wkOK_sound h2 k o hk
    exact ⟨k0, q, a, b, d, by simp⟩
  · intro k k0 hk
    simp only [rnB, Bool.and_eq_true, List.all_eq_true] at h1
    have := h1.1 _ (lkA_mem hk)
    simp only [List.any_eq_true] at this
    obtain ⟨j, hj, e⟩ := this
    have e : j = k := by simpa using e
    subst e
    exact lkA_of_key hj
  · intro k k' k0 hk hk'
    simp only [rnB, Bool.and_eq_true, List.all_eq_true] at h1
    have := h1.2 _ (lkA_mem hk) _ (lkA_mem hk')
    simpa using this

theorem wkV_ag {kb : List Nat} {rn : List (Nat × Nat)} {fz : List (Nat × Bool × Nat × List (List PV))} {ps qs : List PV} (h : wkLK kb rn fz qs ps) : WkV kb rn fz (.ag ps) (.ag qs) := by
  simp only [WkV]; exact ⟨ps, rfl, wkLK_sound _ _ _ _ _ h⟩
theorem wkV_tu {kb : List Nat} {rn : List (Nat × Nat)} {fz : List (Nat × Bool × Nat × List (List PV))} {ps qs : List PV} (h : wkLK kb rn fz qs ps) : WkV kb rn fz (.tu ps) (.tu qs) := by
  simp only [WkV]; exact ⟨ps, rfl, wkLK_sound _ _ _ _ _ h⟩

theorem call_eq {P : Program} {f : Nat} {ps qs : List PV} {r : PV} {os : List (Nat × List (List PV))} {K : PV → List (Nat × List (List PV)) → Prop} (h : Ctr P f qs r os) (e : ps = qs) (k : K r os) : ∃ r os, Ctr P f ps r os ∧ K r os := ⟨r, os, e ▸ h, k⟩

end Go.Pv
