/-
  A nil slice where a contract speaks of an empty one, however deep. Generic over the program.
-/
import Derived.Test.YtnphfgphajejaaaPvV
namespace Go.Pv

mutual
def SubV : PV → PV → Prop
  | .nl, q => q = .nl ∨ ∃ sz, q = .sl sz []
  | .ag ps, q => ∃ qs, q = .ag qs ∧ SubVL ps qs
  | .tu ps, q => ∃ qs, q = .tu qs ∧ SubVL ps qs
  | .cl f ps, q => ∃ qs, q = .cl f qs ∧ SubVL ps qs
  | .sl sz rows, q => ∃ rows', q = .sl sz rows' ∧ SubVR rows rows'
  | .ep ps, q => ∃ qs, q = .ep qs ∧ SubVL ps qs
  | .sc v, q => q = .sc v
  | .pt k off, q => q = .pt k off
  | .ow k lo len, q => q = .ow k lo len
  | .eo k i off, q => q = .eo k i off
  | .ub φ, q => q = .ub φ
  | .ls sz rows, q => q = .ls sz rows
  | .lp s, q => q = .lp s
  | .bad, q => q = .bad
def SubVL : List PV → List PV → Prop
  | [], qs => qs = []
  | p :: ps, qs => ∃ q r, qs = q :: r ∧ SubV p q ∧ SubVL ps r
def SubVR : List (List PV) → List (List PV) → Prop
  | [], qs => qs = []
  | p :: ps, qs => ∃ q r, qs = q :: r ∧ SubVL p q ∧ SubVR ps r
end

theorem SubVL.len : ∀ {ps qs : List PV}, SubVL ps qs → qs.length = ps.length
  | [], qs, h => by simp only [SubVL] at h; simp [h]
  | p :: ps, qs, h => by
    simp only [SubVL] at h
    obtain ⟨q, r, rfl, _, h2⟩ := h
    simp [SubVL.len h2]
theorem SubVR.len : ∀ {ps qs : List (List PV)}, SubVR ps qs → qs.length = ps.length
  | [], qs, h => by simp only [SubVR] at h; simp [h]
  | p :: ps, qs, h => by
    simp only [SubVR] at h
    obtain ⟨q, r, rfl, _, h2⟩ := h
    simp [SubVR.len h2]

mutual
theorem SubV.sound {M : Mem} {w : World} : ∀ (p q : PV) (v : Value), SubV p q → RV M w p v → RV M w q v
  | .nl, q, v, h, hv => by
    simp only [SubV] at h
    rcases h with rfl | ⟨sz, rfl⟩
    · exact hv
    · exact sub_nl hv
  | .ag ps, q, v, h, hv => by
    simp only [SubV] at h
    obtain ⟨qs, rfl, h⟩ := h
    simp only [RV] at hv ⊢
    obtain ⟨cs, e, r⟩ := hv
    exact ⟨cs, e, SubVL.sound ps qs _ h r⟩
  | .tu ps, q, v, h, hv => by
    simp only [SubV] at h
    obtain ⟨qs, rfl, h⟩ := h
    simp only [RV] at hv ⊢
    obtain ⟨cs, e, r⟩ := hv
    exact ⟨cs, e, SubVL.sound ps qs _ h r⟩
  | .cl f ps, q, v, h, hv => by
    simp only [SubV] at h
    obtain ⟨qs, rfl, h⟩ := h
    simp only [RV] at hv ⊢
    obtain ⟨cs, e, r⟩ := hv
    exact ⟨cs, e, SubVL.sound ps qs _ h r⟩
  | .sl sz rows, q, v, h, hv => by
    simp only [SubV] at h
    obtain ⟨rows', rfl, h⟩ := h
    simp only [RV] at hv ⊢
    obtain ⟨a, n, c, e, hn, hc, r⟩ := hv
    refine ⟨a, n, c, e, by rw [h.len]; exact hn, hc, ?_⟩
    rcases r with rfl | ⟨b, off, cs, ha, hs, hcl, hR⟩
    · left; simpa [SubVR] using h
    · exact .inr ⟨b, off, cs, ha, hs, hcl, SubVR.sound sz rows rows' cs h hR⟩
  | .ep ps, q, v, h, hv => by
    simp only [SubV] at h
    obtain ⟨qs, rfl, h⟩ := h
    simp only [RV] at hv ⊢
    obtain ⟨b, off, cs, e, hs, hcl, hr⟩ := hv
    exact ⟨b, off, cs, e, hs, hcl, SubVL.sound ps qs cs h hr⟩
  | .sc x, q, v, h, hv => by simp only [SubV] at h; subst h; exact hv
  | .pt .., q, v, h, hv => by simp only [SubV] at h; subst h; exact hv
  | .ow .., q, v, h, hv => by simp only [SubV] at h; subst h; exact hv
  | .eo .., q, v, h, hv => by simp only [SubV] at h; subst h; exact hv
  | .ub .., q, v, h, hv => by simp only [SubV] at h; subst h; exact hv
  | .ls .., q, v, h, hv => by simp only [SubV] at h; subst h; exact hv
  | .lp .., q, v, h, hv => by simp only [SubV] at h; subst h; exact hv
  | .bad, q, v, h, hv => by simp only [SubV] at h; subst h; exact hv
theorem SubVL.sound {M : Mem} {w : World} : ∀ (ps qs : List PV) (cs : List Value), SubVL ps qs → RVL M w ps cs → RVL M w qs cs
  | [], qs, cs, h, hv => by simp only [SubVL] at h; subst h; exact hv
  | p :: ps, qs, cs, h, hv => by
    simp only [SubVL] at h
    obtain ⟨q, r, rfl, h1, h2⟩ := h
    simp only [RVL] at hv ⊢
    obtain ⟨c, rr, e, h3, h4⟩ := hv
    exact ⟨c, rr, e, SubV.sound p q c h1 h3, SubVL.sound ps r rr h2 h4⟩
theorem SubVR.sound {M : Mem} {w : World} (sz : Nat) : ∀ (ps qs : List (List PV)) (cs : List Value), SubVR ps qs → RVR M w sz ps cs → RVR M w sz qs cs
  | [], qs, cs, h, hv => by simp only [SubVR] at h; subst h; exact hv
  | p :: ps, qs, cs, h, hv => by
    simp only [SubVR] at h
    obtain ⟨q, r, rfl, h1, h2⟩ := h
    simp only [RVR] at hv ⊢
    obtain ⟨c1, c2, e, hl, h3, h4⟩ := hv
    exact ⟨c1, c2, e, h1.len.trans hl, SubVL.sound p q c1 h1 h3, SubVR.sound sz ps r c2 h2 h4⟩
end

theorem Ctr.deep {P : Program} {f : Nat} {ps qs : List PV} {r : PV} {os : List (Nat × List (List PV))} (h : Ctr P f qs r os) (hs : SubVL ps qs) : Ctr P f ps r os :=
  ⟨fun w st vs hst hv => h.run w st vs hst (SubVL.sound ps qs vs hs hv)⟩
theorem call_deep {P : Program} {f : Nat} {ps qs : List PV} {r : PV} {os : List (Nat × List (List PV))} {K : PV → List (Nat × List (List PV)) → Prop} (h : Ctr P f qs r os) (hs : SubVL ps qs) (k : K r os) : ∃ r os, Ctr P f ps r os ∧ K r os := ⟨r, os, h.deep hs, k⟩
mutual
theorem SubV.refl : ∀ p : PV, SubV p p
  | .nl => by simp [SubV]
  | .ag ps => by simp only [SubV]; exact ⟨ps, rfl, SubVL.refl ps⟩
  | .tu ps => by simp only [SubV]; exact ⟨ps, rfl, SubVL.refl ps⟩
  | .cl f ps => by simp only [SubV]; exact ⟨ps, rfl, SubVL.refl ps⟩
  | .sl sz rows => by simp only [SubV]; exact ⟨rows, rfl, SubVR.refl rows⟩
  | .ep ps => by simp only [SubV]; exact ⟨ps, rfl, SubVL.refl ps⟩
  | .sc x => by simp [SubV]
  | .pt .. => by simp [SubV]
  | .ow .. => by simp [SubV]
  | .eo .. => by simp [SubV]
  | .ub .. => by simp [SubV]
  | .ls .. => by simp [SubV]
  | .lp .. => by simp [SubV]
  | .bad => by simp [SubV]
theorem SubVL.refl : ∀ ps : List PV, SubVL ps ps
  | [] => by simp [SubVL]
  | p :: ps => by simp only [SubVL]; exact ⟨p, ps, rfl, SubV.refl p, SubVL.refl ps⟩
theorem SubVR.refl : ∀ ps : List (List PV), SubVR ps ps
  | [] => by simp [SubVR]
  | p :: ps => by simp only [SubVR]; exact ⟨p, ps, rfl, SubVL.refl p, SubVR.refl ps⟩
end
theorem subV_nl {sz : Nat} : SubV .nl (.sl sz []) := by simp only [SubV]; exact .inr ⟨sz, rfl⟩
theorem subV_sl {sz : Nat} {rows rows' : List (List PV)} (h : SubVR rows rows') : SubV (.sl sz rows) (.sl sz rows') := by simp only [SubV]; exact ⟨rows', rfl, h⟩
theorem subV_eq {sz : Nat} {r r' : List (List PV)} (h : r = r') : SubV (.sl sz r) (.sl sz r') := by subst h; exact SubV.refl _
theorem subV_tk {sz n : Nat} {r : List (List PV)} (h : r.length = n) : SubV (.sl sz ((r.drop 0).take n)) (.sl sz r) := by subst h; rw [List.drop_zero, List.take_length]; exact SubV.refl _
theorem subV_ag {ps qs : List PV} (h : SubVL ps qs) : SubV (.ag ps) (.ag qs) := by simp only [SubV]; exact ⟨qs, rfl, h⟩
theorem subV_ep {ps qs : List PV} (h : SubVL ps qs) : SubV (.ep ps) (.ep qs) := by simp only [SubV]; exact ⟨qs, rfl, h⟩
theorem subVL_cons {p q : PV} {ps qs : List PV} (h1 : SubV p q) (h2 : SubVL ps qs) : SubVL (p :: ps) (q :: qs) := by simp only [SubVL]; exact ⟨q, qs, rfl, h1, h2⟩
theorem subVL_nil : SubVL [] [] := by simp [SubVL]
theorem subVR_cons {p q : List PV} {ps qs : List (List PV)} (h1 : SubVL p q) (h2 : SubVR ps qs) : SubVR (p :: ps) (q :: qs) := by simp only [SubVR]; exact ⟨q, qs, rfl, h1, h2⟩
theorem subVR_nil : SubVR [] [] := by simp [SubVR]
end Go.Pv
