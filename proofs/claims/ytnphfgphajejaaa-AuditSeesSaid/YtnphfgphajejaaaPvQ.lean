/-
  Loops, for use: a state at the loop's head is the state in which it was come to, but for some slots, boxes, slices. Generic over the program.
-/
import Derived.Test.YtnphfgphajejaaaPvN
namespace Go.Pv

/-- The slots that code writes. -/
def dstsC : Code → List Nat
  | .region _ ops _ => ops.toList.filterMap (·.dst)
  | .seq a b => dstsC a ++ dstsC b
  | .cond _ a b => dstsC a ++ dstsC b
  | .block _ b => dstsC b
  | .loop b => dstsC b
  | _ => []

noncomputable def havK (ds : List Nat) : List PV → (List PV → Prop) → Prop :=
  @List.rec Nat (fun _ => List PV → (List PV → Prop) → Prop) (fun tm k => k tm) (fun d _ R tm k => stK tm d .bad fun tm => R tm k) ds
def hav : List Nat → List PV → List PV
  | [], tm => tm
  | d :: ds, tm => hav ds (tm.set d .bad)
theorem havK_eq : ∀ (ds : List Nat) (tm : List PV) (k : List PV → Prop), havK ds tm k = k (hav ds tm)
  | [], tm, k => rfl
  | d :: ds, tm, k => by
    show stK tm d .bad (fun tm => havK ds tm k) = _
    rw [stK_eq, havK_eq ds]; rfl

noncomputable def setVK (vs : List (Nat × PV)) : List PV → (List PV → Prop) → Prop :=
  @List.rec (Nat × PV) (fun _ => List PV → (List PV → Prop) → Prop) (fun tm k => k tm) (fun v _ R tm k => match v with | (i, p) => stK tm i p fun tm => R tm k) vs
def setV : List (Nat × PV) → List PV → List PV
  | [], tm => tm
  | v :: vs, tm => setV vs (tm.set v.1 v.2)
theorem setVK_eq : ∀ (vs : List (Nat × PV)) (tm : List PV) (k : List PV → Prop), setVK vs tm k = k (setV vs tm)
  | [], tm, k => rfl
  | v :: vs, tm, k => by
    show stK tm v.1 v.2 (fun tm => setVK vs tm k) = _
    rw [stK_eq, setVK_eq vs]; rfl

noncomputable def headK (body : Code) (tm : List PV) (vs : List (Nat × PV)) (k : List PV → Prop) : Prop := havK (dstsC body) tm fun tm => setVK vs tm k
def headT (body : Code) (tm : List PV) (vs : List (Nat × PV)) : List PV := setV vs (hav (dstsC body) tm)
theorem headK_eq (body : Code) (tm : List PV) (vs : List (Nat × PV)) (k : List PV → Prop) : headK body tm vs k = k (headT body tm vs) := by
  unfold headK headT; rw [havK_eq, setVK_eq]

/-- Slot by slot: what is said of none is passed over. -/
noncomputable def wkLK (kb : List Nat) (rn : List (Nat × Nat)) (fz : List (Nat × Bool × Nat × List (List PV))) (qs : List PV) : List PV → Prop :=
  @List.rec PV (fun _ => List PV → Prop) (fun ps => ps = []) (fun q _ R ps => match ps with
    | [] => False
    | p :: ps => match q with
      | .bad => R ps
      | q => WkV kb rn fz p q ∧ R ps) qs

theorem wkLK_sound (kb : List Nat) (rn : List (Nat × Nat)) (fz : List (Nat × Bool × Nat × List (List PV))) : ∀ (qs ps : List PV), wkLK kb rn fz qs ps → WkL kb rn fz ps qs
  | [], ps, h => by
    have h : ps = [] := h
    simpa [WkL] using h
  | q :: qs, ps, h => by
    cases ps with
    | nil => exact h.elim
    | cons p ps =>
      simp only [WkL]
      cases q
      case bad => exact ⟨p, ps, rfl, by simp [WkV], wkLK_sound kb rn fz qs ps h⟩
      all_goals exact ⟨p, ps, rfl, h.1, wkLK_sound kb rn fz qs ps h.2⟩

/-- Boxes, one by one. -/
noncomputable def wkBK (kb : List Nat) (rn : List (Nat × Nat)) (fz : List (Nat × Bool × Nat × List (List PV))) (bx : List (Nat × List PV)) (bx' : List (Nat × List PV)) : Prop :=
  @List.rec (Nat × List PV) (fun _ => Prop) True (fun b _ R => match lkA bx b.1 with
    | some ls => wkLK kb rn fz b.2 ls ∧ R
    | none => False) bx'

theorem wkBK_sound {kb : List Nat} {rn : List (Nat × Nat)} {fz : List (Nat × Bool × Nat × List (List PV))} {bx : List (Nat × List PV)} : ∀ {bx' : List (Nat × List PV)}, wkBK kb rn fz bx bx' → ∀ k ls', lkA bx' k = some ls' → ∃ ls, lkA bx k = some ls ∧ WkL kb rn fz ls ls'
  | [], _, k, ls', hk => by simp [lkA] at hk
  | (j, m) :: bx', h, k, ls', hk => by
    have h : (match lkA bx j with | some ls => wkLK kb rn fz m ls ∧ wkBK kb rn fz bx bx' | none => False) := h
    split at h
    · rename_i ls hl
      simp only [lkA] at hk
      by_cases e : j = k
      · subst e
        simp only [Nat.beq_refl, cond_true, Option.some.injEq] at hk
        subst hk
        exact ⟨ls, hl, wkLK_sound _ _ _ _ _ h.1⟩
      · rw [beq_ne e] at hk
        exact wkBK_sound h.2 k ls' hk
    · exact h.elim

/-- Slices, one by one, under their names. -/
noncomputable def wkOK (rn : List (Nat × Nat)) (ob : List (Nat × Option (Bool × Nat × List (List PV)))) (fzk : List Nat) (ob' : List (Nat × Option (Bool × Nat × List (List PV)))) : Prop :=
  @List.rec (Nat × Option (Bool × Nat × List (List PV))) (fun _ => Prop) True (fun o _ R => match o with
    | (_, none) => R
    | (k, some q) => match lkA rn k with
      | some k0 => match lkA ob k0 with
        | some (some q0) => q0 = q ∧ okK (!fzk.any fun x => Nat.beq x k0) R
        | _ => False
      | none => False) ob'

def rnB (rn : List (Nat × Nat)) (ks : List Nat) : Bool := (rn.all fun p => ks.any fun k => Nat.beq k p.1) && rn.all fun p => rn.all fun q => !Nat.beq p.2 q.2 || Nat.beq p.1 q.1

theorem wkOK_sound {rn : List (Nat × Nat)} {ob : List (Nat × Option (Bool × Nat × List (List PV)))} {fzk : List Nat} : ∀ {ob' : List (Nat × Option (Bool × Nat × List (List PV)))}, wkOK rn ob fzk ob' → ∀ k o, lkA ob' k = some o → o = none ∨ ∃ k0 q, lkA rn k = some k0 ∧ o = some q ∧ lkA ob k0 = some (some q) ∧ ∀ x ∈ fzk, x ≠ k0
  | [], _, k, o, hk => by simp [lkA] at hk
  | (j, none) :: ob', h, k, o, hk => by
    have h : wkOK rn ob fzk ob' := h
    simp only [lkA] at hk
    by_cases e : j = k
    · subst e
      simp only [Nat.beq_refl, cond_true, Option.some.injEq] at hk
      exact .inl hk.symm
    · rw [beq_ne e] at hk
      exact wkOK_sound h k o hk
  | (j, some q) :: ob', h0, k, o, hk => by
    have h : (match lkA rn j with
      | some k0 => match lkA ob k0 with
        | some (some q0) => q0 = q ∧ okK (!fzk.any fun x => Nat.beq x k0) (wkOK rn ob fzk ob')
        | _ => False
      | none => False) := h0
    clear h0
    split at h
    · rename_i k0 hr
      split at h
      · rename_i q0 hl
        obtain ⟨rfl, h1⟩ := h
        obtain ⟨hf, h⟩ := okK_iff h1
        simp only [lkA] at hk
        by_cases e : j = k
        · subst e
          simp only [Nat.beq_refl, cond_true, Option.some.injEq] at hk
          subst hk
          refine .inr ⟨k0, q0, hr, rfl, hl, ?_⟩
          intro x hx e
          subst e
          have hf : (fzk.any fun y => Nat.beq y x) = false := by simpa using hf
          rw [List.any_eq_false] at hf
          exact hf x hx (by simp)
        · rw [beq_ne e] at hk
          exact wkOK_sound h k o hk
      · exact h.elim
    · exact h.elim

theorem lkA_mem {α : Type} : ∀ {l : List (Nat × α)} {k : Nat} {v : α}, lkA l k = some v → (k, v) ∈ l
  | [], k, v, h => by simp [lkA] at h
  | (j, u) :: r, k, v, h => by
    simp only [lkA] at h
    by_cases e : j = k
    · subst e; simp at h; simp [h]
    · rw [beq_ne e] at h; exact List.mem_cons_of_mem _ (lkA_mem h)
theorem lkA_of_key {α : Type} : ∀ {l : List (Nat × α)} {k : Nat}, k ∈ l.map (·.1) → ∃ v, lkA l k = some v
  | [], k, h => by simp at h
  | (j, u) :: r, k, h => by
    simp only [lkA]
    by_cases e : j = k
    · subst e; exact ⟨u, by simp⟩
    · rw [beq_ne e]
      simp only [List.map_cons, List.mem_cons] at h
      rcases h with h | h
      · exact absurd h.symm e
      · exact lkA_of_key h

/-- Forgetting and renaming, checked piece by piece. -/
noncomputable def wkK (rn : List (Nat × Nat)) (fz : List (Nat × Bool × Nat × List (List PV))) (c : CSt) (tm : List PV) (bx : List (Nat × List PV)) (ob : List (Nat × Option (Bool × Nat × List (List PV)))) : Prop :=
  ((rnB rn (ob.map (·.1)) && pinOk c.bx c.ob (bx.map (·.1)) rn) = true ∧ ∀ q ∈ fz, lkA c.ob q.1 = some (some q.2)) ∧ wkOK rn c.ob (fz.map (·.1)) ob ∧ wkBK (bx.map (·.1)) rn fz c.bx bx ∧ wkLK (bx.map (·.1)) rn fz tm c.tm

theorem wkK_sound {rn : List (Nat × Nat)} {fz : List (Nat × Bool × Nat × List (List PV))} {c : CSt} {tm : List PV} {bx : List (Nat × List PV)} {ob : List (Nat × Option (Bool × Nat × List (List PV)))} (h : wkK rn fz c tm bx ob) : Wk c ⟨tm, bx, ob⟩ := by
  obtain ⟨⟨h1, h2⟩, h3, h4, h5⟩ := h
  rw [Bool.and_eq_true] at h1
  obtain ⟨h1, hpin⟩ := h1
  refine wk_of (c' := ⟨tm, bx, ob⟩) fz rn ⟨h2, ?_, ?_, ?_⟩ (wkBK_sound h4) (wkLK_sound _ _ _ _ _ h5) hpin
  · intro k o hk
    rcases wkOK_sound h3 k o hk with e0 | ⟨k0, q, a, b, d, e⟩
    · exact .inl e0
    · exact .inr ⟨k0, q, a, b, d, fun x hx => e x.1 (List.mem_map.2 ⟨x, hx, rfl⟩)⟩
  · intro k k0 hk
    simp only [rnB, Bool.and_eq_true, List.all_eq_true] at h1
    have := h1.1 _ (lkA_mem hk)
    simp only [List.any_eq_true] at this
    obtain ⟨j, hj, e⟩ := this
    have e : j = k := by simpa using e
    subst e
    exact lkA_of_key hj
  · intro k k' k0 hk hk'
    simp only [rnB, Bool.and_eq_true, List.all_eq_true] at h1
    have := h1.2 _ (lkA_mem hk) _ (lkA_mem hk')
    simpa using this

/-- A loop, by an invariant: a family of states, a measure; what a round ends with implies the next head. -/
theorem tri_loopN {P : Program} (hm : P.follows .mixedOrders = true) {body : Code} {Q : Exit → CSt → Prop} {c : CSt} (hok : codeOk body = true) {β : Type} (I : β → Prop) (S : β → CSt) (μ : β → Nat) (b0 : β) (h0 : I b0) (hw : Wk c (S b0))
    (N : β → CSt → Prop) (hN : ∀ b c', N b c' → ∃ b', I b' ∧ μ b' < μ b ∧ Wk c' (S b')) (round : ∀ b, I b → pwp P body (S b) (loopQ Q (N b))) : Tri P (.loop body) Q c := by
  refine ⟨?_⟩
  intro w0 X S0 M a w hr
  obtain ⟨M0, hr0⟩ := hw w0 X S0 M a w hr
  intro fb k cs
  have key : ∀ n b, μ b = n → I b → ∀ M a w, Rel w0 X S0 M (S b).st a w → ∃ e a' w', (∃ c' M', Rel w0 X S0 M' c'.st a' w' ∧ Q e c') ∧ Arrives P (lone (fb.at a (.code body :: .inLoop body :: k)) cs w) fb k cs e a' w' := by
    intro n
    induction n using Nat.strongRecOn with
    | _ n ih =>
      intro b hb hI M a w hr
      obtain ⟨e, a₁, w₁, ⟨c1, M1, hr1, hq⟩, harr⟩ := (pwp_sound hm body (S b) _ hok (round b hI)).run w0 X S0 M a w hr fb (.inLoop body :: k) cs
      cases e with
      | normal =>
        obtain ⟨b', hI', hlt, hwk⟩ := hN b c1 hq
        obtain ⟨M2, hr2⟩ := hwk w0 X S0 M1 a₁ w₁ hr1
        obtain ⟨e₂, a₂, w₂, hq₂, harr₂⟩ := ih (μ b') (hb ▸ hlt) b' rfl hI' M2 a₁ w₁ hr2
        exact ⟨e₂, a₂, w₂, hq₂, .of_steps (Steps.trans harr (.one step_inLoop)) harr₂⟩
      | exit id => exact ⟨_, a₁, w₁, ⟨c1, M1, hr1, hq⟩, .pass (x := .inLoop body) rfl (fun _ _ => .inl (by simp)) harr⟩
      | goto l => exact ⟨_, a₁, w₁, ⟨c1, M1, hr1, hq⟩, .pass (x := .inLoop body) rfl (fun _ _ => .inl (by simp)) harr⟩
      | ret => exact ⟨_, a₁, w₁, ⟨c1, M1, hr1, hq⟩, .pass (x := .inLoop body) rfl (fun _ _ => .inl (by simp)) harr⟩
      | panic ch => exact ⟨_, a₁, w₁, ⟨c1, M1, hr1, hq⟩, .pass (x := .inLoop body) rfl (fun _ _ => .inl (by simp)) harr⟩
      | outgrown => exact ⟨_, a₁, w₁, ⟨c1, M1, hr1, hq⟩, .pass (x := .inLoop body) rfl (fun _ _ => .inl (by simp)) harr⟩
  obtain ⟨e, a', w', hq, harr⟩ := key _ b0 rfl h0 M0 a w hr0
  exact ⟨e, a', w', hq, .of_steps (.one step_loop) harr⟩

/-- A loop: the state at its head is that in which it was come to, but for the slots that V says (all else that the loop writes is forgotten), the boxes W, the slices O. -/
theorem tri_for {P : Program} (hm : P.follows .mixedOrders = true) {body : Code} {Q : Exit → CSt → Prop} {c : CSt} (hok : codeOk body = true) {β : Type} (I : β → Prop) (V : β → List (Nat × PV)) (W : β → List (Nat × List PV)) (O : β → List (Nat × Option (Bool × Nat × List (List PV)))) (rn : List (Nat × Nat)) (μ : β → Nat) (b0 : β) (h0 : I b0)
    (hw : Wk c ⟨headT body c.tm (V b0), W b0, O b0⟩)
    (round : ∀ b, I b → headK body c.tm (V b) fun tm => pwp P body ⟨tm, W b, O b⟩ (loopQ Q fun c' => ∃ b', (I b' ∧ μ b' < μ b) ∧ headK body c.tm (V b') fun tm => wkK rn [] c' tm (W b') (O b'))) : Tri P (.loop body) Q c := by
  refine tri_loopN hm hok I (fun b => ⟨headT body c.tm (V b), W b, O b⟩) μ b0 h0 hw (fun b c' => ∃ b', (I b' ∧ μ b' < μ b) ∧ headK body c.tm (V b') fun tm => wkK rn [] c' tm (W b') (O b')) ?_ ?_
  · rintro b c' ⟨b', ⟨h1, h2⟩, h3⟩
    rw [headK_eq] at h3
    exact ⟨b', h1, h2, wkK_sound h3⟩
  · intro b hb
    have h := round b hb
    rw [headK_eq] at h
    exact h

/-- A loop that changes no box and no slice that was there. -/
theorem tri_for0 {P : Program} (hm : P.follows .mixedOrders = true) {body : Code} {Q : Exit → CSt → Prop} {tm : List PV} {bx : List (Nat × List PV)} {ob : List (Nat × Option (Bool × Nat × List (List PV)))} (hok : codeOk body = true) {β : Type} (I : β → Prop) (V : β → List (Nat × PV)) (rn : List (Nat × Nat)) (μ : β → Nat) (b0 : β) (h0 : I b0)
    (hw : headK body tm (V b0) fun tm' => wkK rn [] ⟨tm, bx, ob⟩ tm' bx ob)
    (round : ∀ b, I b → headK body tm (V b) fun tm' => pwp P body ⟨tm', bx, ob⟩ (loopQ Q fun c' => ∃ b', (I b' ∧ μ b' < μ b) ∧ headK body tm (V b') fun tm' => wkK rn [] c' tm' bx ob)) : Tri P (.loop body) Q ⟨tm, bx, ob⟩ := by
  refine tri_for hm hok I V (fun _ => bx) (fun _ => ob) rn μ b0 h0 ?_ round
  rw [headK_eq] at hw
  exact wkK_sound hw

/-- A loop that changes boxes. -/
theorem tri_forB {P : Program} (hm : P.follows .mixedOrders = true) {body : Code} {Q : Exit → CSt → Prop} {tm : List PV} {bx : List (Nat × List PV)} {ob : List (Nat × Option (Bool × Nat × List (List PV)))} (hok : codeOk body = true) {β : Type} (I : β → Prop) (V : β → List (Nat × PV)) (W : β → List (Nat × List PV)) (rn : List (Nat × Nat)) (μ : β → Nat) (b0 : β) (h0 : I b0)
    (hw : headK body tm (V b0) fun tm' => wkK rn [] ⟨tm, bx, ob⟩ tm' (W b0) ob)
    (round : ∀ b, I b → headK body tm (V b) fun tm' => pwp P body ⟨tm', W b, ob⟩ (loopQ Q fun c' => ∃ b', (I b' ∧ μ b' < μ b) ∧ headK body tm (V b') fun tm' => wkK rn [] c' tm' (W b') ob)) : Tri P (.loop body) Q ⟨tm, bx, ob⟩ := by
  refine tri_for hm hok I V W (fun _ => ob) rn μ b0 h0 ?_ round
  rw [headK_eq] at hw
  exact wkK_sound hw

/-- A loop that changes boxes and slices; 'rn0' renames at its first head, and each round names its own. -/
theorem tri_forO {P : Program} (hm : P.follows .mixedOrders = true) {body : Code} {Q : Exit → CSt → Prop} {tm : List PV} {bx : List (Nat × List PV)} {ob : List (Nat × Option (Bool × Nat × List (List PV)))} (hok : codeOk body = true) {β : Type} (I : β → Prop) (V : β → List (Nat × PV)) (W : β → List (Nat × List PV)) (O : β → List (Nat × Option (Bool × Nat × List (List PV)))) (rn0 : List (Nat × Nat)) (μ : β → Nat) (b0 : β) (h0 : I b0)
    (hw : headK body tm (V b0) fun tm' => wkK rn0 [] ⟨tm, bx, ob⟩ tm' (W b0) (O b0))
    (round : ∀ b, I b → headK body tm (V b) fun tm' => pwp P body ⟨tm', W b, O b⟩ (loopQ Q fun c' => ∃ b' rn, (I b' ∧ μ b' < μ b) ∧ headK body tm (V b') fun tm' => wkK rn [] c' tm' (W b') (O b'))) : Tri P (.loop body) Q ⟨tm, bx, ob⟩ := by
  refine tri_loopN hm hok I (fun b => ⟨headT body tm (V b), W b, O b⟩) μ b0 h0 ?_ (fun b c' => ∃ b' rn, (I b' ∧ μ b' < μ b) ∧ headK body tm (V b') fun tm' => wkK rn [] c' tm' (W b') (O b')) ?_ ?_
  · rw [headK_eq] at hw
    exact wkK_sound hw
  · rintro b c' ⟨b', rn, ⟨h1, h2⟩, h3⟩
    rw [headK_eq] at h3
    exact ⟨b', h1, h2, wkK_sound h3⟩
  · intro b hb
    have h := round b hb
    rw [headK_eq] at h
    exact h

/-- What a slot says of itself. -/
theorem wkV_sc {kb : List Nat} {rn : List (Nat × Nat)} {fz : List (Nat × Bool × Nat × List (List PV))} {v u : Value} (h : v = u) : WkV kb rn fz (.sc v) (.sc u) := by subst h; simp [WkV]
mutual
theorem wkV_same {kb : List Nat} {rn : List (Nat × Nat)} {fz : List (Nat × Bool × Nat × List (List PV))} : ∀ p : PV, plain p = true → WkV kb rn fz p p
  | .sc v, _ => by simp [WkV]
  | .ag ps, h => by simp only [WkV]; exact ⟨ps, rfl, wkL_same ps (by simpa [plain] using h)⟩
  | .tu ps, h => by simp only [WkV]; exact ⟨ps, rfl, wkL_same ps (by simpa [plain] using h)⟩
  | .cl f ps, h => by simp only [WkV]; exact ⟨ps, rfl, wkL_same ps (by simpa [plain] using h)⟩
  | .sl sz rows, _ => by simp [WkV]
  | .nl, _ => by simp [WkV]
  | .ow .., h => by simp [plain] at h
  | .pt .., h => by simp [plain] at h
  | .eo .., h => by simp [plain] at h
  | .ep s, _ => by simp [WkV]
  | .ub φ, _ => by simp [WkV]
  | .ls .., h => by simp [plain] at h
  | .lp .., h => by simp [plain] at h
  | .bad, _ => by simp [WkV]
theorem wkL_same {kb : List Nat} {rn : List (Nat × Nat)} {fz : List (Nat × Bool × Nat × List (List PV))} : ∀ ps : List PV, plainL ps = true → WkL kb rn fz ps ps
  | [], _ => by simp [WkL]
  | p :: ps, h => by
    simp only [plainL, Bool.and_eq_true] at h
    simp only [WkL]
    exact ⟨p, ps, rfl, wkV_same p h.1, wkL_same ps h.2⟩
end
theorem wkV_pt {kb : List Nat} {rn : List (Nat × Nat)} {fz : List (Nat × Bool × Nat × List (List PV))} {k off off' : Nat} (h : kb.contains k = true) (e : off = off') : WkV kb rn fz (.pt k off) (.pt k off') := by
  subst e; simp only [WkV]; exact ⟨by simpa using h, trivial⟩
theorem wkV_ow {kb : List Nat} {rn : List (Nat × Nat)} {fz : List (Nat × Bool × Nat × List (List PV))} {k k0 lo len lo' len' : Nat} (h : lkA rn k = some k0) (e1 : lo = lo') (e2 : len = len') : WkV kb rn fz (.ow k0 lo len) (.ow k lo' len') := by
  subst e1; subst e2; simp only [WkV]; exact ⟨k0, h, rfl⟩

end Go.Pv
