/-
  Answers that are new slices. Generic over the program.
-/
import Derived.Test.YtnphfgphajejaaaPvQ
namespace Go.Pv

/-- An answer with slices of the call's own. -/
theorem exit_own {c : CSt} {p r : PV} {os : List (Nat × List (List PV))} (rn : List (Nat × Nat)) (h1 : rnB rn ((osL 0 os).map (·.1)) = true) (h2 : wkOK rn c.ob [] (osL 0 os)) (h3 : WkV [] rn [] p r) : ExitOk c p r os := by
  refine ⟨.inl ⟨[], rn, ⟨by simp, ?_, ?_, ?_⟩, h3⟩⟩
  · intro k o hk
    rcases wkOK_sound h2 k o hk with e0 | ⟨k0, q, a, b, d, e⟩
    · exact .inl e0
    · exact .inr ⟨k0, q, a, b, d, by simp⟩
  · intro k k0 hk
    simp only [rnB, Bool.and_eq_true, List.all_eq_true] at h1
    have := h1.1 _ (lkA_mem hk)
    simp only [List.any_eq_true] at this
    obtain ⟨j, hj, e⟩ := this
    have e : j = k := by simpa using e
    subst e
    exact lkA_of_key hj
  · intro k k' k0 hk hk'
    simp only [rnB, Bool.and_eq_true, List.all_eq_true] at h1
    have := h1.2 _ (lkA_mem hk) _ (lkA_mem hk')
    simpa using this

theorem wkV_ag {kb : List Nat} {rn : List (Nat × Nat)} {fz : List (Nat × Bool × Nat × List (List PV))} {ps qs : List PV} (h : wkLK kb rn fz qs ps) : WkV kb rn fz (.ag ps) (.ag qs) := by
  simp only [WkV]; exact ⟨ps, rfl, wkLK_sound _ _ _ _ _ h⟩
theorem wkV_tu {kb : List Nat} {rn : List (Nat × Nat)} {fz : List (Nat × Bool × Nat × List (List PV))} {ps qs : List PV} (h : wkLK kb rn fz qs ps) : WkV kb rn fz (.tu ps) (.tu qs) := by
  simp only [WkV]; exact ⟨ps, rfl, wkLK_sound _ _ _ _ _ h⟩

theorem wkV_cl {kb : List Nat} {rn : List (Nat × Nat)} {fz : List (Nat × Bool × Nat × List (List PV))} {f : Nat} {ps qs : List PV} (h : wkLK kb rn fz qs ps) : WkV kb rn fz (.cl f ps) (.cl f qs) := by
  simp only [WkV]; exact ⟨ps, rfl, wkLK_sound _ _ _ _ _ h⟩
theorem wkV_ls {kb : List Nat} {rn : List (Nat × Nat)} {fz : List (Nat × Bool × Nat × List (List PV))} {sz : Nat} {rows : List (List PV)} (h : rows.all (kbOkL kb) = true) : WkV kb rn fz (.ls sz rows) (.ls sz rows) := by
  simp only [WkV]; exact ⟨trivial, h⟩

theorem call_eq {P : Program} {f : Nat} {ps qs : List PV} {r : PV} {os : List (Nat × List (List PV))} {K : PV → List (Nat × List (List PV)) → Prop} (h : Ctr P f qs r os) (e : ps = qs) (k : K r os) : ∃ r os, Ctr P f ps r os ∧ K r os := ⟨r, os, e ▸ h, k⟩

/-- The slices that a call answers, as values that nobody writes. -/
def fzL (n : Nat) : List (Nat × List (List PV)) → List (Nat × Bool × Nat × List (List PV))
  | [] => []
  | (sz, rows) :: os => (n, false, sz, rows) :: fzL (n + 1) os
theorem fzL_mem : ∀ {os : List (Nat × List (List PV))} {n : Nat} {q : Nat × Bool × Nat × List (List PV)}, q ∈ fzL n os → n ≤ q.1 ∧ os[q.1 - n]? = some q.2.2 ∧ q.2.1 = false
  | [], n, q, h => by simp [fzL] at h
  | (sz, rows) :: os, n, q, h => by
    simp only [fzL, List.mem_cons] at h
    rcases h with rfl | h
    · simp
    · obtain ⟨h1, h2, h3⟩ := fzL_mem h
      refine ⟨by omega, ?_, h3⟩
      rw [show q.1 - n = (q.1 - (n + 1)) + 1 by omega]; simpa using h2
theorem Ctr.frz {P : Program} {f : Nat} {args : List PV} {r r' : PV} {os : List (Nat × List (List PV))} (h : Ctr P f args r os) (hw : WkV [] [] (fzL 0 os) r r') : Ctr P f args r' [] := by
  refine ⟨?_⟩
  intro w st vs hst hvs
  have key : ∀ e w', (∃ v M', e = Ending.returned v ∧ RV M' w' r v ∧ HRel w (fun _ => False) (Base.of st) M' (fun _ => none) (osMap os) w') → ∃ v M', e = Ending.returned v ∧ RV M' w' r' v ∧ HRel w (fun _ => False) (Base.of st) M' (fun _ => none) (osMap []) w' := by
    rintro e w' ⟨v, M', he, hv, hr⟩
    have e1 : lkA (osL 0 os) = osMap os := by
      funext k
      rw [lkA_osL]
      simp only [Nat.zero_le, if_true, Nat.sub_zero, osMap]
      cases os[k]? <;> rfl
    have e2 : (lkA ([] : List (Nat × List PV))) = fun _ => none := by funext k; rfl
    rw [← e1, ← e2] at hr
    obtain ⟨M1, hle, hF, hnew⟩ := HRel.ren (c := ⟨[], [], osL 0 os⟩) (fz := fzL 0 os) (rn := []) (bx' := []) (ob' := []) hr (fun _ _ h => by cases h) (fun _ _ h => by cases h) ⟨(by
      intro q hq
      obtain ⟨h1, h2, h3⟩ := fzL_mem hq
      show lkA (osL 0 os) q.1 = _
      rw [lkA_osL, if_pos h1, h2]
      simp only [Option.map_some, Option.some.injEq]
      rw [← h3]), by simp [lkA], by simp [lkA], by simp [lkA]⟩ (by simp [lkA])
    have e3 : lkA ([] : List (Nat × Option (Bool × Nat × List (List PV)))) = osMap [] := by funext k; simp [lkA, osMap]
    rw [e3, e2] at hnew
    exact ⟨v, _, he, WkV.sound hF _ _ _ hw (RV.mono hle _ _ hv), hnew⟩
  rcases h.run w st vs hst hvs with ⟨h1, h2⟩ | ⟨v, w', h1, h2⟩
  · exact .inl ⟨h1, h2.mono fun e w' => key e w'⟩
  · exact .inr ⟨v, w', h1, key _ _ h2⟩

theorem Tri.wk {P : Program} {code : Code} {Q : Exit → CSt → Prop} {c c' : CSt} (hw : Wk c c') (h : Tri P code Q c') : Tri P code Q c := by
  refine ⟨?_⟩
  intro w0 X S0 M a w hr
  obtain ⟨M', hr'⟩ := hw w0 X S0 M a w hr
  exact h.run w0 X S0 M' a w hr'

theorem wk_nilSlot {c : CSt} (slot K sz : Nat) (hs : c.tm.getD slot .bad = .nl) (hK : lkA c.ob K = none) : Wk c ⟨c.tm.set slot (.ow K 0 0), c.bx, (K, some (false, sz, [])) :: c.ob⟩ := by
  intro w0 X S0 M a w hr
  obtain ⟨M', hnew, hle, hob⟩ := hr.toHRel.addObj (k := K) hK ⟨0, sz, 0, true⟩ (rows := []) (.inl ⟨rfl, rfl⟩) (fun _ _ _ h => by cases h) (fun _ _ _ _ _ _ h => by cases h)
  have e : upd (lkA c.ob) [(K, some (false, sz, []))] = lkA ((K, some (false, sz, [])) :: c.ob) := by
    funext j
    rw [upd_one]
    simp only [lkA]
    by_cases ej : j = K
    · subst ej; simp
    · rw [if_neg ej, beq_ne (fun x => ej x.symm)]; rfl
  refine ⟨M', ?_, hr.dfr, ?_, ?_⟩
  · have h2 : HRel w0 X S0 M' (lkA c.bx) (upd (lkA c.ob) [(K, some (false, sz, []))]) w := hnew
    rw [e] at h2
    exact h2
  · have := hr.len
    simpa [CSt.st] using this
  · intro t
    have ht := RV.mono hle _ _ (hr.tmp t)
    by_cases et : slot = t
    · subst et
      have hs' : c.st.tmps.getD slot .bad = .nl := hs
      rw [hs'] at ht
      simp only [RV] at ht
      obtain ⟨ad, hv⟩ := ht
      by_cases hlt : slot < c.tm.length
      · have e2 : (c.tm.set slot (.ow K 0 0)).getD slot .bad = .ow K 0 0 := by simp [List.getD, hlt]
        show RV M' w ((c.tm.set slot (.ow K 0 0)).getD slot .bad) _
        rw [e2]
        simp only [RV]
        exact ⟨_, hob, .inl ⟨rfl, rfl, ad, hv⟩⟩
      · rw [List.getD_eq_getElem?_getD, List.getElem?_eq_none (by omega)] at hs
        cases hs
    · show RV M' w ((c.tm.set slot (.ow K 0 0)).getD t .bad) _
      rw [List.getD_eq_getElem?_getD, List.getElem?_set_ne et, ← List.getD_eq_getElem?_getD]
      exact ht

/-- A nil slice in a slot becomes an own slice, under a new key. -/
theorem tri_nil {P : Program} {code : Code} {Q : Exit → CSt → Prop} {tm : List PV} {bx : List (Nat × List PV)} {ob : List (Nat × Option (Bool × Nat × List (List PV)))} (slot K sz : Nat) (hs : lkK .bad tm slot fun p => p = .nl) (hK : lkA ob K = none) (h : stK tm slot (.ow K 0 0) fun tm' => Tri P code Q ⟨tm', bx, (K, some (false, sz, [])) :: ob⟩) : Tri P code Q ⟨tm, bx, ob⟩ := by
  rw [lkK_eq] at hs
  rw [stK_eq] at h
  exact Tri.wk (wk_nilSlot slot K sz hs hK) h

end Go.Pv
