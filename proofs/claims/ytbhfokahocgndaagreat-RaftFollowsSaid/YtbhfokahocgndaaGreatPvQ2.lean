/-
  At a loop: a nil slice as an own one; forgetting, renaming and freezing ahead of it. Generic over the program.
-/
import Derived.Test.YtbhfokahocgndaaGreatPvN
set_option linter.unusedSimpArgs false
set_option linter.unusedVariables false
namespace Go.Pv

theorem tri_weak {P : Program} {code : Code} {Q : Exit → CSt → Prop} {c : CSt} (rn : List (Nat × Nat)) (fz : List (Nat × Bool × Nat × List (List PV))) (tm : List PV) (bx : List (Nat × List PV)) (ob : List (Nat × Option (Bool × Nat × List (List PV))))
    (h : wkK rn fz c tm bx ob) (g : Tri P code Q ⟨tm, bx, ob⟩) : Tri P code Q c := by
  refine ⟨?_⟩
  intro w0 X S0 M a w hr
  obtain ⟨M', hr'⟩ := wkK_sound h w0 X S0 M a w hr
  exact g.run w0 X S0 M' a w hr'

/-- A new name for a nil slice. -/
theorem HRel.born {w0 : World} {X : Nat → Prop} {S0 : Base} {M : Mem} {B : BMap} {O : OMap} {w : World} (h : HRel w0 X S0 M B O w) (key sz : Nat) (hk : O key = none) :
    ∃ M', HRel w0 X S0 M' B (upd O [(key, some (false, sz, []))]) w ∧ M.Le M' w w ∧ ∃ L, M'.ob key = some L ∧ L.nil = true := by
  have hM : M.ob key = none := by
    cases e : M.ob key with
    | none => rfl
    | some L =>
      obtain ⟨o, ho⟩ := h.objKey key L e
      rw [hk] at ho; cases ho
  refine ⟨⟨M.st, M.bx, fun k => if k = key then some ⟨0, sz, 0, true⟩ else M.ob k⟩, ?_, ⟨fun _ h => h, fun _ _ h => h, ?_, fun _ _ => rfl⟩, ⟨0, sz, 0, true⟩, by simp, rfl⟩
  · have hle : M.Le ⟨M.st, M.bx, fun k => if k = key then some ⟨0, sz, 0, true⟩ else M.ob k⟩ w w := ⟨fun _ h => h, fun _ _ h => h, fun k L hkL => by
      show (if k = key then _ else _) = _
      rw [if_neg (fun e => by rw [e, hM] at hkL; cases hkL)]; exact hkL, fun _ _ => rfl⟩
    refine ⟨h.os, h.tape, h.out, h.size, h.kept, h.stlt, h.stok, ?_, h.boxKey, ?_, ?_, h.boxNe, ?_, ?_, h.pinB, ?_⟩
    · intro k ls hb
      obtain ⟨b, T, cs, h1, h2, h3, h4⟩ := h.box k ls hb
      exact ⟨b, T, cs, h1, h2, h3, RVL.mono hle _ _ h4⟩
    · intro k fz s rows ho
      rw [upd_one] at ho
      by_cases e : k = key
      · subst e
        rw [if_pos rfl] at ho
        cases ho
        exact ⟨⟨0, sz, 0, true⟩, by simp, rfl, .inl ⟨rfl, rfl⟩⟩
      · rw [if_neg e] at ho
        obtain ⟨L, h1, h2, h3⟩ := h.obj k fz s rows ho
        exact ⟨L, by simp [e, h1], h2, h3⟩
    · intro k L hL
      rw [upd_one]
      by_cases e : k = key
      · rw [if_pos e]; exact ⟨_, rfl⟩
      · rw [if_neg e]
        have hL' : M.ob k = some L := by simpa [e] using hL
        exact h.objKey k L hL'
    · intro k k' o o' L L' ho ho' hL hL' hn hn'
      rw [upd_one] at ho ho'
      by_cases e : k = key
      · subst e
        simp at hL
        subst hL
        cases hn
      · by_cases e' : k' = key
        · subst e'
          simp at hL'
          subst hL'
          cases hn'
        · rw [if_neg e] at ho
          rw [if_neg e'] at ho'
          exact h.objNe k k' o o' L L' ho ho' (by simpa [e] using hL) (by simpa [e'] using hL') hn hn'
    · intro k k' b o L hb ho hL hn
      rw [upd_one] at ho
      by_cases e' : k' = key
      · subst e'
        simp at hL
        subst hL
        cases hn
      · rw [if_neg e'] at ho
        exact h.boxObj k k' b o L hb ho (by simpa [e'] using hL) hn
    · intro k L hp
      have := h.pinO k L hp
      exact hle.ob k L this
  · intro k L hkL
    show (if k = key then _ else _) = _
    rw [if_neg (fun e => by rw [e, hM] at hkL; cases hkL)]; exact hkL

/-- At a loop: the nil slice of a slot is an own one, under a new key. -/
theorem tri_born {P : Program} {code : Code} {Q : Exit → CSt → Prop} {tm : List PV} {bx : List (Nat × List PV)} {ob : List (Nat × Option (Bool × Nat × List (List PV)))} (s key sz : Nat) (hs : tm[s]? = some .nl) (hk : lkA ob key = none)
    (g : stK tm s (.ow key 0 0) fun tm' => Tri P code Q ⟨tm', bx, (key, some (false, sz, [])) :: ob⟩) : Tri P code Q ⟨tm, bx, ob⟩ := by
  rw [stK_eq] at g
  refine ⟨?_⟩
  intro w0 X S0 M a w hr
  obtain ⟨M', h1, hle, L, hL, hn⟩ := hr.toHRel.born key sz hk
  refine g.run w0 X S0 M' a w ⟨?_, hr.dfr, by simpa [CSt.st] using hr.len, ?_⟩
  · have e : lkA ((key, some (false, sz, [])) :: ob) = upd (lkA ob) [(key, some (false, sz, []))] := by
      funext k
      rw [upd_one]
      by_cases hk : k = key
      · subst hk; simp [lkA]
      · rw [if_neg hk]
        simp only [lkA]
        rw [beq_ne (fun e => hk e.symm)]; rfl
    show HRel w0 X S0 M' (lkA bx) (lkA ((key, some (false, sz, [])) :: ob)) w
    rw [e]
    exact h1
  · intro t
    have ht := hr.tmp t
    show RV M' w ((tm.set s (.ow key 0 0)).getD t .bad) (a.tmps.getD t undef)
    by_cases e : s = t
    · subst e
      have hlt : s < tm.length := (List.getElem?_eq_some_iff.1 hs).1
      have e1 : (tm.set s (.ow key 0 0)).getD s .bad = .ow key 0 0 := by
        rw [List.getD_eq_getElem?_getD, List.getElem?_set_self hlt]; rfl
      have e2 : tm.getD s .bad = .nl := by rw [List.getD_eq_getElem?_getD, hs]; rfl
      rw [e1]
      have ht' : RV M w (tm.getD s .bad) (a.tmps.getD s undef) := ht
      rw [e2] at ht'
      simp only [RV] at ht' ⊢
      exact ⟨L, hL, .inl ⟨hn, rfl, ht'⟩⟩
    · have e1 : (tm.set s (.ow key 0 0)).getD t .bad = tm.getD t .bad := by
        rw [List.getD_eq_getElem?_getD, List.getD_eq_getElem?_getD, List.getElem?_set_ne e]
      rw [e1]
      exact RV.mono hle _ _ ht

/-- At a loop: the nil slice in a variable's cell is an own one, under a new key. -/
theorem tri_bornB {P : Program} {code : Code} {Q : Exit → CSt → Prop} {tm : List PV} {bx : List (Nat × List PV)} {ob : List (Nat × Option (Bool × Nat × List (List PV)))} (k off key sz : Nat) (ls : List PV) (hb : lkA bx k = some ls) (hs : ls[off]? = some .nl) (hk : lkA ob key = none)
    (g : stK ls off (.ow key 0 0) fun ls' => setK bx k ls' fun bx' => Tri P code Q ⟨tm, bx', (key, some (false, sz, [])) :: ob⟩) : Tri P code Q ⟨tm, bx, ob⟩ := by
  rw [stK_eq, setK_eq] at g
  refine ⟨?_⟩
  intro w0 X S0 M a w hr
  obtain ⟨M', h1, hle, L, hL, hn⟩ := hr.toHRel.born key sz hk
  refine g.run w0 X S0 M' a w ⟨?_, hr.dfr, hr.len, fun t => RV.mono hle _ _ (hr.tmp t)⟩
  have e : lkA ((key, some (false, sz, [])) :: ob) = upd (lkA ob) [(key, some (false, sz, []))] := by
    funext j
    rw [upd_one]
    by_cases hk : j = key
    · subst hk; simp [lkA]
    · rw [if_neg hk]
      simp only [lkA]
      rw [beq_ne (fun e => hk e.symm)]; rfl
  show HRel w0 X S0 M' (lkA (setA bx k (ls.set off (.ow key 0 0)))) (lkA ((key, some (false, sz, [])) :: ob)) w
  rw [e]
  obtain ⟨b, T, cs, b1, b2, b3, b4⟩ := h1.box k ls hb
  refine ⟨h1.os, h1.tape, h1.out, h1.size, h1.kept, h1.stlt, h1.stok, ?_, ?_, h1.obj, h1.objKey, h1.boxNe, h1.objNe, h1.boxObj, h1.pinB, h1.pinO⟩
  · intro j ms hj
    rw [lkA_setA] at hj
    by_cases ej : j = k
    · subst ej
      rw [if_pos rfl] at hj
      cases hj
      refine ⟨b, T, cs, b1, b2, b3, ?_⟩
      obtain ⟨c, hc, hv⟩ := b4.get off hs
      simp only [RV] at hv
      have hnew : RV M' w (.ow key 0 0) c := by
        simp only [RV]
        exact ⟨L, hL, .inl ⟨hn, rfl, hv⟩⟩
      have key2 : ∀ (off : Nat) (ls : List PV) (cs : List Value), RVL M' w ls cs → cs[off]? = some c → RVL M' w (ls.set off (.ow key 0 0)) cs := by
        intro off
        induction off with
        | zero =>
          intro ls cs h hc
          cases ls with
          | nil => simpa using h
          | cons p ls =>
            simp only [RVL] at h
            obtain ⟨c', r, rfl, _, h2⟩ := h
            simp at hc
            subst hc
            simp only [List.set_cons_zero, RVL]
            exact ⟨_, r, rfl, hnew, h2⟩
        | succ off ih =>
          intro ls cs h hc
          cases ls with
          | nil => simpa using h
          | cons p ls =>
            simp only [RVL] at h
            obtain ⟨c', r, rfl, h1, h2⟩ := h
            simp only [List.getElem?_cons_succ] at hc
            simp only [List.set_cons_succ, RVL]
            exact ⟨c', r, rfl, h1, ih ls r h2 hc⟩
      exact key2 off ls cs.toList b4 hc
    · rw [if_neg ej] at hj
      exact h1.box j ms hj
  · intro j b' hj
    rw [lkA_setA]
    by_cases ej : j = k
    · exact ⟨_, if_pos ej⟩
    · rw [if_neg ej]; exact h1.boxKey j b' hj
end Go.Pv
