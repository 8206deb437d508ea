/-
  Own slices that change their keys; nil slices in a box that are own ones: at the end of a function that writes. Generic over the program.
-/
import Derived.Test.YtbhfokahocgndaaGreatPvN
import Derived.Test.YtbhfokahocgndaaGreatPvQ2
set_option linter.unusedSimpArgs false
set_option linter.unusedVariables false
namespace Go.Pv

theorem wk_bornB {tm : List PV} {bx : List (Nat × List PV)} {ob : List (Nat × Option (Bool × Nat × List (List PV)))} (k off key sz : Nat) (ls : List PV) (hb : lkA bx k = some ls) (hs : ls[off]? = some .nl) (hk : lkA ob key = none) :
    Wk ⟨tm, bx, ob⟩ ⟨tm, setA bx k (ls.set off (.ow key 0 0)), (key, some (false, sz, [])) :: ob⟩ := by
  intro w0 X S0 M a w hr
  obtain ⟨M', h1, hle, L, hL, hn⟩ := hr.toHRel.born key sz hk
  refine ⟨M', ?_, hr.dfr, hr.len, fun t => RV.mono hle _ _ (hr.tmp t)⟩
  have e : lkA ((key, some (false, sz, [])) :: ob) = upd (lkA ob) [(key, some (false, sz, []))] := by
    funext j
    rw [upd_one]
    by_cases hk : j = key
    · subst hk; simp [lkA]
    · rw [if_neg hk]
      simp only [lkA]
      rw [beq_ne (fun e => hk e.symm)]; rfl
  show HRel w0 X S0 M' (lkA (setA bx k (ls.set off (.ow key 0 0)))) (lkA ((key, some (false, sz, [])) :: ob)) w
  rw [e]
  obtain ⟨b, T, cs, b1, b2, b3, b4⟩ := h1.box k ls hb
  refine ⟨h1.os, h1.tape, h1.out, h1.size, h1.kept, h1.stlt, h1.stok, ?_, ?_, h1.obj, h1.objKey, h1.boxNe, h1.objNe, h1.boxObj, h1.pinB, h1.pinO⟩
  · intro j ms hj
    rw [lkA_setA] at hj
    by_cases ej : j = k
    · subst ej
      rw [if_pos rfl] at hj
      cases hj
      refine ⟨b, T, cs, b1, b2, b3, ?_⟩
      obtain ⟨c, hc, hv⟩ := b4.get off hs
      simp only [RV] at hv
      have hnew : RV M' w (.ow key 0 0) c := by
        simp only [RV]
        exact ⟨L, hL, .inl ⟨hn, rfl, hv⟩⟩
      have key2 : ∀ (off : Nat) (ls : List PV) (cs : List Value), RVL M' w ls cs → cs[off]? = some c → RVL M' w (ls.set off (.ow key 0 0)) cs := by
        intro off
        induction off with
        | zero =>
          intro ls cs h hc
          cases ls with
          | nil => simpa using h
          | cons p ls =>
            simp only [RVL] at h
            obtain ⟨c', r, rfl, _, h2⟩ := h
            simp at hc
            subst hc
            simp only [List.set_cons_zero, RVL]
            exact ⟨_, r, rfl, hnew, h2⟩
        | succ off ih =>
          intro ls cs h hc
          cases ls with
          | nil => simpa using h
          | cons p ls =>
            simp only [RVL] at h
            obtain ⟨c', r, rfl, h1, h2⟩ := h
            simp only [List.getElem?_cons_succ] at hc
            simp only [List.set_cons_succ, RVL]
            exact ⟨c', r, rfl, h1, ih ls r h2 hc⟩
      exact key2 off ls cs.toList b4 hc
    · rw [if_neg ej] at hj
      exact h1.box j ms hj
  · intro j b' hj
    rw [lkA_setA]
    by_cases ej : j = k
    · exact ⟨_, if_pos ej⟩
    · rw [if_neg ej]; exact h1.boxKey j b' hj

/-- A window under its new key. -/
def mv1 (K k : Nat) (p : PV) : PV :=
  match p with
  | .ow j lo len => match Nat.beq j K with
    | true => .ow k lo len
    | false => .ow j lo len
  | p => p
theorem mv1_ow (K k j lo len : Nat) : (j = K ∧ Pv.mv1 K k (.ow j lo len) = .ow k lo len) ∨ (j ≠ K ∧ Pv.mv1 K k (.ow j lo len) = .ow j lo len) := by
  cases hb : Nat.beq j K with
  | true => exact .inl ⟨Nat.eq_of_beq_eq_true hb, by unfold Pv.mv1; simp only [hb]⟩
  | false =>
    refine .inr ⟨fun e => ?_, ?_⟩
    · subst e
      rw [show Nat.beq j j = true from Nat.beq_refl j] at hb
      cases hb
    · unfold Pv.mv1
      simp only [hb]
theorem RV.mv1 {M M' : Mem} {w : World} {K k : Nat} (hle : M.Le M' w w) (h : ∀ L, M.ob K = some L → M'.ob k = some L) (p : PV) (v : Value) (hv : RV M w p v) : RV M' w (Pv.mv1 K k p) v := by
  cases p with
  | ow j lo len =>
    rcases mv1_ow K k j lo len with ⟨rfl, e⟩ | ⟨_, e⟩
    · rw [e]
      simp only [RV] at hv ⊢
      obtain ⟨L, hL, h2⟩ := hv
      exact ⟨L, h L hL, h2⟩
    · rw [e]; exact RV.mono hle _ _ hv
  | _ => exact RV.mono hle _ _ hv
theorem RVL.mv1 {M M' : Mem} {w : World} {K k : Nat} (hle : M.Le M' w w) (h : ∀ L, M.ob K = some L → M'.ob k = some L) : ∀ (ps : List PV) (cs : List Value), RVL M w ps cs → RVL M' w (ps.map (Pv.mv1 K k)) cs
  | [], cs, hv => by simpa [RVL] using hv
  | p :: ps, cs, hv => by
    simp only [RVL] at hv
    obtain ⟨c, r, rfl, h1, h2⟩ := hv
    simp only [List.map_cons, RVL]
    exact ⟨c, r, rfl, RV.mv1 hle h p c h1, RVL.mv1 hle h ps r h2⟩
def mvB (K k : Nat) (bx : List (Nat × List PV)) : List (Nat × List PV) := bx.map fun q => (q.1, q.2.map (Pv.mv1 K k))
theorem lkA_mvB (K k : Nat) : ∀ (bx : List (Nat × List PV)) (j : Nat), lkA (mvB K k bx) j = (lkA bx j).map fun ls => ls.map (Pv.mv1 K k)
  | [], j => rfl
  | (i, ls) :: bx, j => by
    have ih := lkA_mvB K k bx j
    unfold mvB at *
    simp only [List.map_cons, lkA]
    by_cases e : i = j
    · subst e; simp
    · rw [beq_ne e]; exact ih
theorem wk_mv {tm : List PV} {bx : List (Nat × List PV)} {ob : List (Nat × Option (Bool × Nat × List (List PV)))} (K k : Nat) {q : Bool × Nat × List (List PV)} (hK : lkA ob K = some (some q)) (hk : lkA ob k = none) :
    Wk ⟨tm, bx, ob⟩ ⟨tm.map (Pv.mv1 K k), mvB K k bx, (k, some q) :: (K, none) :: ob⟩ := by
  intro w0 X S0 M a w hr
  have h := hr.toHRel
  have hMk : M.ob k = none := h.ob_none hk
  have hKk : K ≠ k := fun e => by
    have hK' : lkA ob K = some (some q) := hK
    rw [e, hk] at hK'; cases hK'
  let M' : Mem := ⟨M.st, M.bx, fun j => if j = k then M.ob K else M.ob j⟩
  have hob : ∀ j, j ≠ k → M'.ob j = M.ob j := fun j hj => if_neg hj
  have hobk : M'.ob k = M.ob K := if_pos rfl
  have hle : M.Le M' w w := ⟨fun _ h => h, fun _ _ h => h, fun j L hj => by
    have : j ≠ k := fun e => by rw [e, hMk] at hj; cases hj
    rw [hob j this]; exact hj, fun _ _ => rfl⟩
  have hmv : ∀ L, M.ob K = some L → M'.ob k = some L := fun L hL => by rw [hobk]; exact hL
  have hO : ∀ j o, lkA ((k, some q) :: (K, none) :: ob) j = some o → (j = k ∧ o = some q) ∨ (j = K ∧ o = none) ∨ (j ≠ k ∧ j ≠ K ∧ lkA ob j = some o) := by
    intro j o hj
    by_cases e1 : j = k
    · subst e1; simp [lkA] at hj; exact .inl ⟨rfl, hj.symm⟩
    · by_cases e2 : j = K
      · subst e2
        simp only [lkA] at hj
        rw [beq_ne (fun e => e1 e.symm)] at hj
        simp at hj
        exact .inr (.inl ⟨rfl, hj.symm⟩)
      · simp only [lkA] at hj
        rw [beq_ne (fun e => e1 e.symm), beq_ne (fun e => e2 e.symm)] at hj
        exact .inr (.inr ⟨e1, e2, hj⟩)
  -- a key that is live, with what it was
  have hlive : ∀ j o L, lkA ((k, some q) :: (K, none) :: ob) j = some (some o) → M'.ob j = some L → ∃ j0, lkA ob j0 = some (some o) ∧ M.ob j0 = some L ∧ ((j = k ∧ j0 = K) ∨ (j ≠ k ∧ j ≠ K ∧ j0 = j)) := by
    intro j o L hj hL
    rcases hO j _ hj with ⟨rfl, e⟩ | ⟨_, e⟩ | ⟨e1, e2, hj⟩
    · cases e
      rw [hobk] at hL
      exact ⟨K, hK, hL, .inl ⟨rfl, rfl⟩⟩
    · cases e
    · rw [hob j e1] at hL
      exact ⟨j, hj, hL, .inr ⟨e1, e2, rfl⟩⟩
  refine ⟨M', ⟨h.os, h.tape, h.out, h.size, h.kept, h.stlt, h.stok, ?_, ?_, ?_, ?_, h.boxNe, ?_, ?_, h.pinB, ?_⟩, hr.dfr, ?_, ?_⟩
  · intro j ls hj
    have hj : lkA (mvB K k bx) j = some ls := hj
    rw [lkA_mvB] at hj
    cases hl : lkA bx j with
    | none => rw [hl] at hj; cases hj
    | some ls0 =>
      rw [hl] at hj
      cases hj
      obtain ⟨b, T, cs, g1, g2, g3, g4⟩ := h.box j ls0 hl
      exact ⟨b, T, cs, g1, g2, g3, RVL.mv1 hle hmv _ _ g4⟩
  · intro j b hj
    obtain ⟨ls, hl⟩ := h.boxKey j b hj
    have hl : lkA bx j = some ls := hl
    exact ⟨_, by show lkA (mvB K k bx) j = _; rw [lkA_mvB, hl]; rfl⟩
  · intro j fz sz rows hj
    rcases hO j _ hj with ⟨rfl, e⟩ | ⟨_, e⟩ | ⟨e1, e2, hj⟩
    · simp only [Option.some.injEq] at e
      subst e
      obtain ⟨L, g1, g2, g3⟩ := h.obj K fz sz rows hK
      refine ⟨L, hmv L g1, g2, ?_⟩
      rcases g3 with g3 | ⟨g3, hf, ho, c, E, h5, h6, h7, h8, h9⟩
      · exact .inl g3
      · exact .inr ⟨g3, hf, ho, c, E, h5, h6, h7, h8, RVR.mono hle.cl _ _ _ h9⟩
    · cases e
    · obtain ⟨L, g1, g2, g3⟩ := h.obj j fz sz rows hj
      refine ⟨L, by rw [hob j e1]; exact g1, g2, ?_⟩
      rcases g3 with g3 | ⟨g3, hf, ho, c, E, h5, h6, h7, h8, h9⟩
      · exact .inl g3
      · exact .inr ⟨g3, hf, ho, c, E, h5, h6, h7, h8, RVR.mono hle.cl _ _ _ h9⟩
  · intro j L hj
    show ∃ o, lkA ((k, some q) :: (K, none) :: ob) j = some o
    by_cases e1 : j = k
    · subst e1; exact ⟨_, by simp [lkA]; rfl⟩
    · by_cases e2 : j = K
      · subst e2
        exact ⟨none, by simp only [lkA]; rw [beq_ne (fun e => e1 e.symm)]; simp⟩
      · rw [hob j e1] at hj
        obtain ⟨o, ho⟩ := h.objKey j L hj
        exact ⟨o, by simp only [lkA]; rw [beq_ne (fun e => e1 e.symm), beq_ne (fun e => e2 e.symm)]; exact ho⟩
  · intro j j' o o' L L' hj hj' hL hL' hn hn' heq
    obtain ⟨i, a1, a2, a3⟩ := hlive j _ L hj hL
    obtain ⟨i', b1, b2, b3⟩ := hlive j' _ L' hj' hL'
    have := h.objNe i i' o o' L L' a1 b1 a2 b2 hn hn' heq
    rcases a3 with ⟨a3, a4⟩ | ⟨a3, a4, a5⟩ <;> rcases b3 with ⟨b3, b4⟩ | ⟨b3, b4, b5⟩
    · rw [a3, b3]
    · exact absurd (by rw [← b5, ← this, a4]) b4
    · exact absurd (by rw [← a5, this, b4]) a4
    · rw [← a5, this, b5]
  · intro j j' b o L hj hj' hL hn
    obtain ⟨i', b1, b2, _⟩ := hlive j' _ L hj' hL
    exact h.boxObj j i' b o L hj b1 b2 hn
  · intro j L hj
    have := h.pinO j L hj
    have hjk : j ≠ k := fun e => by rw [e, hMk] at this; cases this
    rw [hob j hjk]; exact this
  · have := hr.len
    show (tm.map (Pv.mv1 K k)).length = _
    rw [List.length_map]; exact this
  · intro t
    have ht : RV M w (tm.getD t .bad) (a.tmps.getD t undef) := hr.tmp t
    show RV M' w ((tm.map (Pv.mv1 K k)).getD t .bad) _
    have := RV.mv1 hle hmv _ _ ht
    rw [List.getD_eq_getElem?_getD, List.getElem?_map]
    rw [List.getD_eq_getElem?_getD] at this
    cases hg : tm[t]? with
    | none => simp only [Option.map_none, Option.getD_none]; rw [hg] at this; simpa [Pv.mv1] using this
    | some p => simp only [Option.map_some, Option.getD_some]; rw [hg] at this; simpa using this

theorem Wk.trans' {a b c : CSt} (h1 : Wk a b) (h2 : Wk b c) : Wk a c := by
  intro w0 X S0 M ac w hr
  obtain ⟨M1, hr1⟩ := h1 w0 X S0 M ac w hr
  exact h2 w0 X S0 M1 ac w hr1
/-- On the way: an own slice under a new key; the old one is used up. -/
theorem tri_mv {P : Program} {code : Code} {Q : Exit → CSt → Prop} {tm : List PV} {bx : List (Nat × List PV)} {ob : List (Nat × Option (Bool × Nat × List (List PV)))} (K k : Nat) {q : Bool × Nat × List (List PV)} (hK : lkA ob K = some (some q)) (hk : lkA ob k = none)
    (g : Tri P code Q ⟨tm.map (Pv.mv1 K k), mvB K k bx, (k, some q) :: (K, none) :: ob⟩) : Tri P code Q ⟨tm, bx, ob⟩ := by
  refine ⟨?_⟩
  intro w0 X S0 M a w hr
  obtain ⟨M', hr'⟩ := wk_mv K k hK hk w0 X S0 M a w hr
  exact g.run w0 X S0 M' a w hr'
/-- At the end: an own slice under a new key; the old one is used up. -/
theorem exitE_mv {c : CSt} {p r : PV} {bx' : List (Nat × List PV)} {ob' : List (Nat × Option (Bool × Nat × List (List PV)))} (K k : Nat) {q : Bool × Nat × List (List PV)} (hK : lkA c.ob K = some (some q)) (hk : lkA c.ob k = none)
    (h : ExitE ⟨c.tm, mvB K k c.bx, (k, some q) :: (K, none) :: c.ob⟩ (Pv.mv1 K k p) r bx' ob') : ExitE c p r bx' ob' :=
  ⟨Wk.trans' (wk_mv K k hK hk) h.ok⟩
/-- At the end: the nil slice in a box is an own one. -/
theorem exitE_born {c : CSt} {p r : PV} {bx' : List (Nat × List PV)} {ob' : List (Nat × Option (Bool × Nat × List (List PV)))} (j off key sz : Nat) (ls : List PV) (hb : lkA c.bx j = some ls) (hs : ls[off]? = some .nl) (hk : lkA c.ob key = none)
    (h : ExitE ⟨c.tm, setA c.bx j (ls.set off (.ow key 0 0)), (key, some (false, sz, [])) :: c.ob⟩ p r bx' ob') : ExitE c p r bx' ob' :=
  ⟨Wk.trans' (wk_bornB j off key sz ls hb hs hk) h.ok⟩

/-- An own slice that nobody writes any more. -/
theorem wk_frz {tm : List PV} {bx : List (Nat × List PV)} {ob : List (Nat × Option (Bool × Nat × List (List PV)))} (K : Nat) {sz : Nat} {rows : List (List PV)} (hK : lkA ob K = some (some (false, sz, rows))) :
    Wk ⟨tm, bx, ob⟩ ⟨tm, bx, (K, some (true, sz, rows)) :: ob⟩ := by
  intro w0 X S0 M a w hr
  obtain ⟨M1, h1, hle, _⟩ := hr.toHRel.freezeAll [(K, false, sz, rows)] (fun q hq => by rw [List.mem_singleton.1 hq]; exact hK)
  refine ⟨M1, ?_, hr.dfr, hr.len, fun t => RV.mono hle _ _ (hr.tmp t)⟩
  have e : lkA ((K, some (true, sz, rows)) :: ob) = upd (lkA ob) (frozen [(K, false, sz, rows)]) := by
    funext j
    show _ = upd (lkA ob) [(K, some (true, sz, rows))] j
    rw [upd_one]
    by_cases hk : j = K
    · subst hk; simp [lkA]
    · rw [if_neg hk]
      simp only [lkA]
      rw [beq_ne (fun e => hk e.symm)]; rfl
  show HRel w0 X S0 M1 (lkA bx) (lkA ((K, some (true, sz, rows)) :: ob)) w
  rw [e]
  exact h1
theorem tri_frz {P : Program} {code : Code} {Q : Exit → CSt → Prop} {tm : List PV} {bx : List (Nat × List PV)} {ob : List (Nat × Option (Bool × Nat × List (List PV)))} (K : Nat) {sz : Nat} {rows : List (List PV)} (hK : lkA ob K = some (some (false, sz, rows)))
    (g : Tri P code Q ⟨tm, bx, (K, some (true, sz, rows)) :: ob⟩) : Tri P code Q ⟨tm, bx, ob⟩ := by
  refine ⟨?_⟩
  intro w0 X S0 M a w hr
  obtain ⟨M', hr'⟩ := wk_frz K hK w0 X S0 M a w hr
  exact g.run w0 X S0 M' a w hr'
theorem exitE_frz {c : CSt} {p r : PV} {bx' : List (Nat × List PV)} {ob' : List (Nat × Option (Bool × Nat × List (List PV)))} (K : Nat) {sz : Nat} {rows : List (List PV)} (hK : lkA c.ob K = some (some (false, sz, rows)))
    (h : ExitE ⟨c.tm, c.bx, (K, some (true, sz, rows)) :: c.ob⟩ p r bx' ob') : ExitE c p r bx' ob' :=
  ⟨Wk.trans' (wk_frz K hK) h.ok⟩

/-- The own slice in a box's cell, that nobody writes any more, as a value. -/
theorem wk_showB {tm : List PV} {bx : List (Nat × List PV)} {ob : List (Nat × Option (Bool × Nat × List (List PV)))} (k off K n : Nat) {sz : Nat} {rows : List (List PV)} (ls : List PV) (hb : lkA bx k = some ls) (hs : ls[off]? = some (.ow K 0 n)) (hn : n = rows.length) (hK : lkA ob K = some (some (true, sz, rows))) :
    Wk ⟨tm, bx, ob⟩ ⟨tm, setA bx k (ls.set off (.sl sz rows)), ob⟩ := by
  intro w0 X S0 M a w hr
  have h1 := hr.toHRel
  refine ⟨M, ?_, hr.dfr, hr.len, hr.tmp⟩
  show HRel w0 X S0 M (lkA (setA bx k (ls.set off (.sl sz rows)))) (lkA ob) w
  obtain ⟨b, T, cs, b1, b2, b3, b4⟩ := h1.box k ls hb
  refine ⟨h1.os, h1.tape, h1.out, h1.size, h1.kept, h1.stlt, h1.stok, ?_, ?_, h1.obj, h1.objKey, h1.boxNe, h1.objNe, h1.boxObj, h1.pinB, h1.pinO⟩
  · intro j ms hj
    rw [lkA_setA] at hj
    by_cases ej : j = k
    · subst ej
      rw [if_pos rfl] at hj
      cases hj
      refine ⟨b, T, cs, b1, b2, b3, ?_⟩
      obtain ⟨c, hc, hv⟩ := b4.get off hs
      have hnew : RV M w (.sl sz rows) c := by
        have hq : ResE [] [] [(K, true, sz, rows)] (.ow K 0 n) (.sl sz ((rows.drop 0).take n)) := by
          simp only [ResE]
          exact .inr ⟨true, sz, rows, List.Mem.head _, by omega, rfl⟩
        have := ResE.sound h1 (fun q hq => by rw [List.mem_singleton.1 hq]; exact hK) _ _ c hq hv
        rw [List.drop_zero, hn, List.take_length] at this
        simp only [RV, inn_cl] at this ⊢
        exact this
      have key2 : ∀ (off : Nat) (ls : List PV) (cs : List Value), RVL M w ls cs → cs[off]? = some c → RVL M w (ls.set off (.sl sz rows)) cs := by
        intro off
        induction off with
        | zero =>
          intro ls cs h hc
          cases ls with
          | nil => simpa using h
          | cons p ls =>
            simp only [RVL] at h
            obtain ⟨c', r, rfl, _, h2⟩ := h
            simp at hc
            subst hc
            simp only [List.set_cons_zero, RVL]
            exact ⟨_, r, rfl, hnew, h2⟩
        | succ off ih =>
          intro ls cs h hc
          cases ls with
          | nil => simpa using h
          | cons p ls =>
            simp only [RVL] at h
            obtain ⟨c', r, rfl, h1, h2⟩ := h
            simp only [List.getElem?_cons_succ] at hc
            simp only [List.set_cons_succ, RVL]
            exact ⟨c', r, rfl, h1, ih ls r h2 hc⟩
      exact key2 off ls cs.toList b4 hc
    · rw [if_neg ej] at hj
      exact h1.box j ms hj
  · intro j b' hj
    rw [lkA_setA]
    by_cases ej : j = k
    · exact ⟨_, if_pos ej⟩
    · rw [if_neg ej]; exact h1.boxKey j b' hj
theorem tri_showB {P : Program} {code : Code} {Q : Exit → CSt → Prop} {tm : List PV} {bx : List (Nat × List PV)} {ob : List (Nat × Option (Bool × Nat × List (List PV)))} (k off K n : Nat) {sz : Nat} {rows : List (List PV)} (ls : List PV) (hb : lkA bx k = some ls) (hs : ls[off]? = some (.ow K 0 n)) (hn : n = rows.length) (hK : lkA ob K = some (some (true, sz, rows)))
    (g : Tri P code Q ⟨tm, setA bx k (ls.set off (.sl sz rows)), ob⟩) : Tri P code Q ⟨tm, bx, ob⟩ := by
  refine ⟨?_⟩
  intro w0 X S0 M a w hr
  obtain ⟨M', hr'⟩ := wk_showB k off K n ls hb hs hn hK w0 X S0 M a w hr
  exact g.run w0 X S0 M' a w hr'
theorem exitE_showB {c : CSt} {p r : PV} {bx' : List (Nat × List PV)} {ob' : List (Nat × Option (Bool × Nat × List (List PV)))} (k off K n : Nat) {sz : Nat} {rows : List (List PV)} (ls : List PV) (hb : lkA c.bx k = some ls) (hs : ls[off]? = some (.ow K 0 n)) (hn : n = rows.length) (hK : lkA c.ob K = some (some (true, sz, rows)))
    (h : ExitE ⟨c.tm, setA c.bx k (ls.set off (.sl sz rows)), c.ob⟩ p r bx' ob') : ExitE c p r bx' ob' :=
  ⟨Wk.trans' (wk_showB k off K n ls hb hs hn hK) h.ok⟩
end Go.Pv
