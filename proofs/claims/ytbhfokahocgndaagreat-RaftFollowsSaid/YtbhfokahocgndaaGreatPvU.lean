import Derived.Test.YtbhfokahocgndaaGreatPvG
/-
  Calls of functions that write what the caller owns. Generic over the program.
-/
set_option linter.unusedSimpArgs false
set_option linter.unusedVariables false
namespace Go.Pv

/-- What a callee begins with that is handed the caller's own: it holds on to all of that. -/
def baseOf (M : Mem) : Base where
  st := M.st
  pb := fun k => if 1000000 ≤ k then M.bx k else none
  po := fun k => if 1000000 ≤ k then M.ob k else none
  hb := fun k b h => by by_cases e : 1000000 ≤ k; exact e; rw [if_neg e] at h; cases h
  ho := fun k b h => by by_cases e : 1000000 ≤ k; exact e; rw [if_neg e] at h; cases h

/-- The contract of a function that writes what is handed in: boxes 'bx' and slices 'ob' of the caller's (keys from 1000000 on) become bx' and ob'; further keys of ob' are new slices. -/
structure CtrE (P : Program) (f : Nat) (args : List PV) (bx : List (Nat × List PV)) (ob : List (Nat × Option (Bool × Nat × List (List PV)))) (r : PV) (bx' : List (Nat × List PV)) (ob' : List (Nat × Option (Bool × Nat × List (List PV)))) : Prop where
  run : ∀ (w : World) (X : Nat → Prop) (M : Mem) (vs : List Value), HRel w X (baseOf M) M (lkA bx) (lkA ob) w → RVL M w args vs →
    Runs P f vs.toArray w fun e w' => ∃ v M', e = .returned v ∧ RV M' w' r v ∧ HRel w X (baseOf M) M' (lkA bx') (lkA ob') w'

/-- The callee's memory: the caller's keys under the callee's names (callee's, caller's). -/
def Mem.inn (M : Mem) (kb ki : List (Nat × Nat)) : Mem := ⟨M.st, fun k => (lkA kb k).bind M.bx, fun k => (lkA ki k).bind M.ob⟩

theorem inn_cl (M : Mem) (kb ki : List (Nat × Nat)) : (M.inn kb ki).cl = M.cl := rfl

mutual
/-- Arguments: boxes of kb and slices of ki under the callee's names, other slices as values. -/
def ResE (kb ki : List (Nat × Nat)) (ro : List (Nat × Bool × Nat × List (List PV))) : PV → PV → Prop
  | .ow k lo len, q => (∃ kk, lkA ki kk = some k ∧ q = .ow kk lo len) ∨ ∃ fz sz all, (k, fz, sz, all) ∈ ro ∧ lo + len ≤ all.length ∧ q = .sl sz ((all.drop lo).take len)
  | .eo k i off, q => ∃ kk, lkA ki kk = some k ∧ q = .eo kk i off
  | .pt k off, q => ∃ kk, lkA kb kk = some k ∧ q = .pt kk off
  | .bs k off len, q => ∃ kk, lkA kb kk = some k ∧ q = .bs kk off len
  | .ag ps, q => ∃ qs, q = .ag qs ∧ ResEL kb ki ro ps qs
  | .tu ps, q => ∃ qs, q = .tu qs ∧ ResEL kb ki ro ps qs
  | .cl f caps, q => ∃ qs, q = .cl f qs ∧ ResEL kb ki ro caps qs
  | .cm f caps, q => ∃ qs, q = .cm f qs ∧ ResEL kb ki ro caps qs
  | .sc v, q => q = .sc v
  | .sl sz rows, q => q = .sl sz rows
  | .nl, q => q = .nl
  | .ep sfx, q => q = .ep sfx
  | .ub φ, q => q = .ub φ
  | .nn kd, q => q = .nn kd
  | .ls .., _ => False
  | .lp .., _ => False
  | .bad, q => q = .bad
def ResEL (kb ki : List (Nat × Nat)) (ro : List (Nat × Bool × Nat × List (List PV))) : List PV → List PV → Prop
  | [], qs => qs = []
  | p :: ps, qs => ∃ q r, qs = q :: r ∧ ResE kb ki ro p q ∧ ResEL kb ki ro ps r
end

mutual
theorem ResE.sound {w0 : World} {X : Nat → Prop} {S0 : Base} {M : Mem} {B : BMap} {O : OMap} {w : World} {kb ki : List (Nat × Nat)} {ro : List (Nat × Bool × Nat × List (List PV))} (h : HRel w0 X S0 M B O w) (ho : ∀ q ∈ ro, O q.1 = some (some (true, q.2.2))) :
    ∀ (p q : PV) (v : Value), ResE kb ki ro p q → RV M w p v → RV (M.inn kb ki) w q v
  | .sc x, q, v, hr, hv => by simp only [ResE] at hr; subst hr; simpa [RV] using hv
  | .ag ps, q, v, hr, hv => by
    simp only [ResE] at hr
    obtain ⟨qs, rfl, hr⟩ := hr
    simp only [RV] at hv ⊢
    obtain ⟨cs, e, r⟩ := hv
    exact ⟨cs, e, ResEL.sound h ho ps qs _ hr r⟩
  | .tu ps, q, v, hr, hv => by
    simp only [ResE] at hr
    obtain ⟨qs, rfl, hr⟩ := hr
    simp only [RV] at hv ⊢
    obtain ⟨cs, e, r⟩ := hv
    exact ⟨cs, e, ResEL.sound h ho ps qs _ hr r⟩
  | .cl f caps, q, v, hr, hv => by
    simp only [ResE] at hr
    obtain ⟨qs, rfl, hr⟩ := hr
    simp only [RV] at hv ⊢
    obtain ⟨cs, e, r⟩ := hv
    exact ⟨cs, e, ResEL.sound h ho caps qs _ hr r⟩
  | .cm f caps, q, v, hr, hv => by
    simp only [ResE] at hr
    obtain ⟨qs, rfl, hr⟩ := hr
    simp only [RV] at hv ⊢
    obtain ⟨cs, e, r⟩ := hv
    exact ⟨cs, e, ResEL.sound h ho caps qs _ hr r⟩
  | .sl sz rows, q, v, hr, hv => by simp only [ResE] at hr; subst hr; simp only [RV, inn_cl] at hv ⊢; exact hv
  | .nl, q, v, hr, hv => by simp only [ResE] at hr; subst hr; simpa [RV] using hv
  | .ow k lo len, q, v, hr, hv => by
    simp only [ResE] at hr
    rcases hr with ⟨kk, hkk, rfl⟩ | ⟨fz, sz, all, hmem, hle, rfl⟩
    · simp only [RV] at hv ⊢
      obtain ⟨L, hL, hcase⟩ := hv
      exact ⟨L, by show (lkA ki kk).bind M.ob = _; rw [hkk]; exact hL, hcase⟩
    · simp only [RV, inn_cl] at hv ⊢
      obtain ⟨L, hL, hcase⟩ := hv
      obtain ⟨hLs, hob⟩ := h.obj' (ho _ hmem) hL
      have hlen : ((all.drop lo).take len).length = len := by simp; omega
      rcases hcase with ⟨hn, rfl, xa, rfl⟩ | ⟨hn, hcap, xa, rfl, hxa⟩
      · exact ⟨xa, 0, 0, rfl, by simp, Nat.le_refl _, .inl (by simp)⟩
      · refine ⟨xa, len, _, rfl, hlen.symm, by omega, ?_⟩
        by_cases h0 : len = 0
        · left; subst h0; simp
        · right
          rcases hob with ⟨e, _⟩ | ⟨_, hst, _, cs, E, hh, hcs, _, _, hR⟩
          · rw [hn] at e; cases e
          · have hc : Cells w L.b (0 + lo * sz) (cs.toList.drop (lo * sz)) := (Cells.of_block hh).drop (lo * sz)
            rw [Nat.zero_add] at hc
            exact ⟨L.b, lo * sz, cs.toList.drop (lo * sz), by rw [hxa (by omega), hLs], hst rfl, hc, RVR.takeRows len (RVR.dropRows lo hR)⟩
  | .pt k off, q, v, hr, hv => by
    simp only [ResE] at hr
    obtain ⟨kk, hkk, rfl⟩ := hr
    simp only [RV] at hv ⊢
    obtain ⟨b, hbx, rfl⟩ := hv
    exact ⟨b, by show (lkA kb kk).bind M.bx = _; rw [hkk]; exact hbx, rfl⟩
  | .bs k off len, q, v, hr, hv => by
    simp only [ResE] at hr
    obtain ⟨kk, hkk, rfl⟩ := hr
    simp only [RV] at hv ⊢
    obtain ⟨b, hbx, rfl⟩ := hv
    exact ⟨b, by show (lkA kb kk).bind M.bx = _; rw [hkk]; exact hbx, rfl⟩
  | .ep sfx, q, v, hr, hv => by simp only [ResE] at hr; subst hr; simp only [RV, inn_cl] at hv ⊢; exact hv
  | .eo k i off, q, v, hr, hv => by
    simp only [ResE] at hr
    obtain ⟨kk, hkk, rfl⟩ := hr
    simp only [RV] at hv ⊢
    obtain ⟨L, hL, hc⟩ := hv
    exact ⟨L, by show (lkA ki kk).bind M.ob = _; rw [hkk]; exact hL, hc⟩
  | .ub φ, q, v, hr, hv => by simp only [ResE] at hr; subst hr; simp only [RV] at hv ⊢; exact hv
  | .nn kd, q, v, hr, hv => by simp only [ResE] at hr; subst hr; simp only [RV] at hv ⊢; exact hv
  | .ls .., q, v, hr, hv => by simp [ResE] at hr
  | .lp .., q, v, hr, hv => by simp [ResE] at hr
  | .bad, q, v, hr, hv => by simp only [ResE] at hr; subst hr; simp [RV]
theorem ResEL.sound {w0 : World} {X : Nat → Prop} {S0 : Base} {M : Mem} {B : BMap} {O : OMap} {w : World} {kb ki : List (Nat × Nat)} {ro : List (Nat × Bool × Nat × List (List PV))} (h : HRel w0 X S0 M B O w) (ho : ∀ q ∈ ro, O q.1 = some (some (true, q.2.2))) :
    ∀ (ps qs : List PV) (cs : List Value), ResEL kb ki ro ps qs → RVL M w ps cs → RVL (M.inn kb ki) w qs cs
  | [], qs, cs, hr, hv => by simp only [ResEL] at hr; subst hr; simpa [RVL] using hv
  | p :: ps, qs, cs, hr, hv => by
    simp only [ResEL] at hr
    obtain ⟨q, r, rfl, h1, h2⟩ := hr
    simp only [RVL] at hv ⊢
    obtain ⟨c, rr, e, h3, h4⟩ := hv
    exact ⟨c, rr, e, ResE.sound h ho p q c h1 h3, ResEL.sound h ho ps r rr h2 h4⟩
end

mutual
/-- What the callee says, under the caller's names. -/
def shE (kb ko : List (Nat × Nat)) : PV → PV
  | .ag ps => .ag (shEL kb ko ps)
  | .tu ps => .tu (shEL kb ko ps)
  | .ow k lo len => match lkA ko k with | some K => .ow K lo len | none => .bad
  | .eo k i off => match lkA ko k with | some K => .eo K i off | none => .bad
  | .cl f caps => .cl f (shEL kb ko caps)
  | .cm f caps => .cm f (shEL kb ko caps)
  | .sc v => .sc v
  | .sl sz rows => .sl sz rows
  | .nl => .nl
  | .pt k off => match lkA kb k with | some K => .pt K off | none => .bad
  | .bs k off len => match lkA kb k with | some K => .bs K off len | none => .bad
  | .ep sfx => .ep sfx
  | .ub φ => .ub φ
  | .nn kd => .nn kd
  | .ls .. => .bad
  | .lp .. => .bad
  | .bad => .bad
def shEL (kb ko : List (Nat × Nat)) : List PV → List PV
  | [] => []
  | p :: ps => shE kb ko p :: shEL kb ko ps
end

structure ShE (kb ko : List (Nat × Nat)) (M' M'' : Mem) : Prop where
  st : ∀ b, M'.st b → M''.st b
  bx : ∀ k K b, lkA kb k = some K → M'.bx k = some b → M''.bx K = some b
  ob : ∀ k K L, lkA ko k = some K → M'.ob k = some L → M''.ob K = some L

theorem ShE.le {kb ko : List (Nat × Nat)} {M M' : Mem} (h : ShE kb ko M M') (w : World) : M.cl.Le M'.cl w w := ⟨h.st, (fun _ _ h => by cases h), (fun _ _ h => by cases h), fun _ _ => rfl⟩

mutual
theorem RV.shE {kb ko : List (Nat × Nat)} {M M' : Mem} {w : World} (h : ShE kb ko M M') : ∀ (p : PV) (v : Value), RV M w p v → RV M' w (Pv.shE kb ko p) v
  | .sc x, v, hv => by simpa [RV, Pv.shE] using hv
  | .ag ps, v, hv => by
    simp only [RV, Pv.shE] at hv ⊢
    obtain ⟨cs, e, r⟩ := hv
    exact ⟨cs, e, RVL.shE h ps _ r⟩
  | .tu ps, v, hv => by
    simp only [RV, Pv.shE] at hv ⊢
    obtain ⟨cs, e, r⟩ := hv
    exact ⟨cs, e, RVL.shE h ps _ r⟩
  | .sl sz rows, v, hv => by
    simp only [RV, Pv.shE] at hv ⊢
    obtain ⟨a, m, c, e, hn, hc, r⟩ := hv
    refine ⟨a, m, c, e, hn, hc, ?_⟩
    rcases r with r | ⟨b, off, cs, ha, hs, hcl, hr⟩
    · exact .inl r
    · exact .inr ⟨b, off, cs, ha, h.st b hs, hcl, RVR.mono (h.le w) sz rows _ hr⟩
  | .nl, v, hv => by simpa [RV, Pv.shE] using hv
  | .ow k lo len, v, hv => by
    simp only [Pv.shE]
    cases hk : lkA ko k with
    | none => simp [RV]
    | some K =>
      simp only [RV] at hv ⊢
      obtain ⟨L, hL, r⟩ := hv
      exact ⟨L, h.ob k K L hk hL, r⟩
  | .pt k off, v, hv => by
    simp only [Pv.shE]
    cases hk : lkA kb k with
    | none => simp [RV]
    | some K =>
      simp only [RV] at hv ⊢
      obtain ⟨b, hb, r⟩ := hv
      exact ⟨b, h.bx k K b hk hb, r⟩
  | .bs k off len, v, hv => by
    simp only [Pv.shE]
    cases hk : lkA kb k with
    | none => simp [RV]
    | some K =>
      simp only [RV] at hv ⊢
      obtain ⟨b, hb, r⟩ := hv
      exact ⟨b, h.bx k K b hk hb, r⟩
  | .ep sfx, v, hv => by
    simp only [RV, Pv.shE] at hv ⊢
    obtain ⟨b, off, cs, e, hs, hcl, hr⟩ := hv
    exact ⟨b, off, cs, e, h.st b hs, hcl, RVL.mono (h.le w) sfx _ hr⟩
  | .eo k i off, v, hv => by
    simp only [Pv.shE]
    cases hk : lkA ko k with
    | none => simp [RV]
    | some K =>
      simp only [RV] at hv ⊢
      obtain ⟨L, hL, r⟩ := hv
      exact ⟨L, h.ob k K L hk hL, r⟩
  | .cl f caps, v, hv => by
    simp only [RV, Pv.shE] at hv ⊢
    obtain ⟨cs, e, r⟩ := hv
    exact ⟨cs, e, RVL.shE h caps _ r⟩
  | .cm f caps, v, hv => by
    simp only [RV, Pv.shE] at hv ⊢
    obtain ⟨cs, e, r⟩ := hv
    exact ⟨cs, e, RVL.shE h caps _ r⟩
  | .ub φ, v, hv => by simp only [RV, Pv.shE] at hv ⊢; exact hv
  | .nn kd, v, hv => by simp only [RV, Pv.shE] at hv ⊢; exact hv
  | .ls .., v, hv => by simp [RV, Pv.shE]
  | .lp .., v, hv => by simp [RV, Pv.shE]
  | .bad, v, hv => by simp [RV, Pv.shE]
theorem RVL.shE {kb ko : List (Nat × Nat)} {M M' : Mem} {w : World} (h : ShE kb ko M M') : ∀ (ps : List PV) (cs : List Value), RVL M w ps cs → RVL M' w (shEL kb ko ps) cs
  | [], cs, hv => by simpa [RVL, shEL] using hv
  | p :: ps, cs, hv => by
    simp only [RVL, shEL] at hv ⊢
    obtain ⟨c, r, e, h1, h2⟩ := hv
    exact ⟨c, r, e, RV.shE h p c h1, RVL.shE h ps r h2⟩
end

/-- The blocks that the callee is handed. -/
def handed (M : Mem) (kb ki : List (Nat × Nat)) (b : Nat) : Prop :=
  (∃ kk K, lkA kb kk = some K ∧ M.bx K = some b) ∨ ∃ kk K L, lkA ki kk = some K ∧ M.ob K = some L ∧ L.nil = false ∧ L.b = b

/-- What names must be: the callee's and the caller's, one for one. -/
structure Names (kb kc ki ko : List (Nat × Nat)) (B : BMap) (O : OMap) : Prop where
  bigB : ∀ kk K, lkA kb kk = some K → 1000000 ≤ kk
  bigO : ∀ kk K, lkA ki kk = some K → 1000000 ≤ kk
  sub : ∀ kk K, lkA ki kk = some K → lkA ko kk = some K
  subB : ∀ kk K, lkA kb kk = some K → lkA kc kk = some K
  injB : ∀ kk kk' K, lkA kc kk = some K → lkA kc kk' = some K → kk = kk'
  injO : ∀ kk kk' K, lkA ko kk = some K → lkA ko kk' = some K → kk = kk'
  fresh : ∀ kk K, lkA ko kk = some K → lkA ki kk = none → O K = none
  freshB : ∀ kk K, lkA kc kk = some K → lkA kb kk = none → B K = none
  live : ∀ kk K, lkA ki kk = some K → ∃ sz rows, O K = some (some (false, sz, rows))
  boxed : ∀ kk K, lkA kb kk = some K → ∃ ls, B K = some ls

theorem handed_own {w0 : World} {X : Nat → Prop} {S0 : Base} {M : Mem} {B : BMap} {O : OMap} {w : World} {kb kc ki ko : List (Nat × Nat)} (h : HRel w0 X S0 M B O w) (hn : Names kb kc ki ko B O) {b : Nat} (hb : handed M kb ki b) : Own w0 X M b ∧ b < w.heap.size := by
  rcases hb with ⟨kk, K, h1, h2⟩ | ⟨kk, K, L, h1, h2, h3, rfl⟩
  · obtain ⟨ls, hl⟩ := hn.boxed kk K h1
    obtain ⟨ho, T, cs, hh, _⟩ := h.box' hl h2
    exact ⟨ho, lt_of_heap hh⟩
  · obtain ⟨sz, rows, hl⟩ := hn.live kk K h1
    obtain ⟨_, hc⟩ := h.obj' hl h2
    rcases hc with ⟨e, _⟩ | ⟨_, _, ho, cs, E, hh, _⟩
    · rw [h3] at e; cases e
    · exact ⟨ho rfl, lt_of_heap hh⟩

theorem handed_box {w0 : World} {X : Nat → Prop} {S0 : Base} {M : Mem} {B : BMap} {O : OMap} {w : World} {kb kc ki ko : List (Nat × Nat)} (h : HRel w0 X S0 M B O w) (hn : Names kb kc ki ko B O) {b K : Nat} (hK : ∀ kk, lkA kb kk ≠ some K) (hb : M.bx K = some b) : ¬ handed M kb ki b := by
  rintro (⟨kk, K', h1, h2⟩ | ⟨kk, K', L, h1, h2, h3, h4⟩)
  · have := h.boxNe K K' b hb h2
    subst this
    exact hK kk h1
  · obtain ⟨sz, rows, hl⟩ := hn.live kk K' h1
    exact h.boxObj K K' b _ L hb hl h2 h3 h4.symm

theorem handed_obj {w0 : World} {X : Nat → Prop} {S0 : Base} {M : Mem} {B : BMap} {O : OMap} {w : World} {kb kc ki ko : List (Nat × Nat)} (h : HRel w0 X S0 M B O w) (hn : Names kb kc ki ko B O) {K : Nat} {fz : Bool} {sz : Nat} {rows : List (List PV)} {L : Loc} (hK : ∀ kk, lkA ko kk ≠ some K) (ho : O K = some (some (fz, sz, rows))) (hL : M.ob K = some L) (hnil : L.nil = false) : ¬ handed M kb ki L.b := by
  intro hb
  have hown := (handed_own h hn hb).1
  cases fz with
  | true =>
    obtain ⟨_, hc⟩ := h.obj' ho hL
    rcases hc with ⟨e, _⟩ | ⟨_, hf, _⟩
    · rw [hnil] at e; cases e
    · exact hown.2 (hf rfl)
  | false =>
    rcases hb with ⟨kk, K', h1, h2⟩ | ⟨kk, K', L', h1, h2, h3, h4⟩
    · exact h.boxObj K' K L.b _ L h2 ho hL hnil rfl
    · obtain ⟨sz', rows', hl⟩ := hn.live kk K' h1
      have := h.objNe K' K _ _ L' L hl ho h2 hL h3 hnil h4
      subst this
      exact hK kk (hn.sub kk K' h1)

open Classical in
/-- What a callee made of the caller's own, and what it made anew, is the caller's. -/
theorem HRel.mergeE {w0 : World} {X : Nat → Prop} {S0 : Base} {M M' : Mem} {B B' : BMap} {O O' : OMap} {w w' : World} {kb kc ki ko : List (Nat × Nat)} {bx' : List (Nat × List PV)} {ob' : List (Nat × Option (Bool × Nat × List (List PV)))} (h : HRel w0 X S0 M B O w) (hn : Names kb kc ki ko B O)
    (h' : HRel w (handed M kb ki) (baseOf (M.inn kb ki)) M' (lkA bx') (lkA ob') w') (hko : ∀ kk o, lkA ob' kk = some o → ∃ K, lkA ko kk = some K)
    (hB : ∀ K ls, B' K = some ls → (∃ kk ls0, lkA kc kk = some K ∧ lkA bx' kk = some ls0 ∧ ls = shEL kc ko ls0) ∨ ((∀ kk, lkA kc kk ≠ some K) ∧ B K = some ls)) (hB2 : ∀ K ls, B K = some ls → ∃ ls', B' K = some ls') (hB3 : ∀ kk K ls, lkA kc kk = some K → lkA bx' kk = some ls → ∃ ls', B' K = some ls')
    (hO : ∀ K o, O' K = some o → (∃ kk, lkA ko kk = some K ∧ lkA ob' kk = some o) ∨ ((∀ kk, lkA ko kk ≠ some K) ∧ O K = some o)) (hO2 : ∀ K o, O K = some o → ∃ o', O' K = some o') (hO3 : ∀ kk K o, lkA ko kk = some K → lkA ob' kk = some o → ∃ o', O' K = some o') :
    ∃ M'', HRel w0 X S0 M'' B' O' w' ∧ M.Le M'' w w' ∧ ShE kc ko M' M'' := by
  have hX := fun b => handed_own (b := b) h hn
  have hold : ∀ b, b < w.heap.size → ¬ handed M kb ki b → w'.heap[b]? = w.heap[b]? := fun b h1 h2 => h'.kept b h1 h2
  have hst : ∀ b, M'.st b → M.st b ∨ w.heap.size ≤ b ∨ handed M kb ki b := fun b hb => h'.stok b hb
  have hpinB : ∀ kk K b, lkA kb kk = some K → M.bx K = some b → M'.bx kk = some b := by
    intro kk K b h1 h2
    refine h'.pinB kk b ?_
    show (if 1000000 ≤ kk then (lkA kb kk).bind M.bx else none) = some b
    rw [if_pos (hn.bigB kk K h1), h1]; exact h2
  have hpinO : ∀ kk K L, lkA ki kk = some K → M.ob K = some L → M'.ob kk = some L := by
    intro kk K L h1 h2
    refine h'.pinO kk L ?_
    show (if 1000000 ≤ kk then (lkA ki kk).bind M.ob else none) = some L
    rw [if_pos (hn.bigO kk K h1), h1]; exact h2
  let nob : Nat → Option Loc := fun K => if hx : ∃ kk, lkA ko kk = some K then M'.ob (Classical.choose hx) else none
  let nbx : Nat → Option Nat := fun K => if hx : ∃ kk, lkA kc kk = some K then M'.bx (Classical.choose hx) else none
  let M'' : Mem := ⟨fun b => M.st b ∨ M'.st b, fun K => match M.bx K with | some b => some b | none => nbx K, fun K => match M.ob K with | some L => some L | none => nob K⟩
  have hbxs : ∀ K b, M.bx K = some b → M''.bx K = some b := by
    intro K b hK
    show (match M.bx K with | some b => some b | none => nbx K) = some b
    rw [hK]
  have hnbx : ∀ kk K, lkA kc kk = some K → nbx K = M'.bx kk := by
    intro kk K hk
    have hx : ∃ kk, lkA kc kk = some K := ⟨kk, hk⟩
    show (if hx : ∃ kk, lkA kc kk = some K then M'.bx (Classical.choose hx) else none) = _
    rw [dif_pos hx, hn.injB _ kk K (Classical.choose_spec hx) hk]
  have hinB : ∀ kk K b, lkA kc kk = some K → M.bx K = some b → lkA kb kk = some K := by
    intro kk K b h1 h2
    cases hi : lkA kb kk with
    | none =>
      obtain ⟨ls, hl⟩ := h.boxKey K b h2
      rw [hn.freshB kk K h1 hi] at hl; cases hl
    | some K' => have := hn.subB kk K' hi; rw [h1] at this; cases this; rfl
  have hfwB : ∀ kk K b, lkA kc kk = some K → M'.bx kk = some b → M''.bx K = some b := by
    intro kk K b h1 h2
    show (match M.bx K with | some b => some b | none => nbx K) = some b
    cases hm : M.bx K with
    | some b0 => have := hpinB kk K b0 (hinB kk K b0 h1 hm) hm; rw [h2] at this; exact this.symm
    | none => simp only []; rw [hnbx kk K h1]; exact h2
  have hinvB : ∀ K b, M''.bx K = some b → (∃ kk, lkA kc kk = some K ∧ M'.bx kk = some b) ∨ ((∀ kk, lkA kc kk ≠ some K) ∧ M.bx K = some b) := by
    intro K b hK
    have hK' : (match M.bx K with | some b => some b | none => nbx K) = some b := hK
    by_cases hx : ∃ kk, lkA kc kk = some K
    · obtain ⟨kk, hk⟩ := hx
      left
      refine ⟨kk, hk, ?_⟩
      cases hm : M.bx K with
      | some b0 => rw [hm] at hK'; simp only [Option.some.injEq] at hK'; subst hK'; exact hpinB kk K b0 (hinB kk K b0 hk hm) hm
      | none => rw [hm] at hK'; simp only [] at hK'; rw [hnbx kk K hk] at hK'; exact hK'
    · right
      refine ⟨fun kk hk => hx ⟨kk, hk⟩, ?_⟩
      cases hm : M.bx K with
      | some b0 => rw [hm] at hK'; exact hK'
      | none =>
        rw [hm] at hK'; simp only [] at hK'
        have : nbx K = none := dif_neg hx
        rw [this] at hK'; cases hK'
  have hobs : ∀ K L, M.ob K = some L → M''.ob K = some L := by
    intro K L hK
    show (match M.ob K with | some L => some L | none => nob K) = some L
    rw [hK]
  have hnob : ∀ kk K, lkA ko kk = some K → nob K = M'.ob kk := by
    intro kk K hk
    have hx : ∃ kk, lkA ko kk = some K := ⟨kk, hk⟩
    show (if hx : ∃ kk, lkA ko kk = some K then M'.ob (Classical.choose hx) else none) = _
    rw [dif_pos hx, hn.injO _ kk K (Classical.choose_spec hx) hk]
  have hin : ∀ kk K L, lkA ko kk = some K → M.ob K = some L → lkA ki kk = some K := by
    intro kk K L h1 h2
    cases hi : lkA ki kk with
    | none => rw [h.ob_none (hn.fresh kk K h1 hi)] at h2; cases h2
    | some K' => have := hn.sub kk K' hi; rw [h1] at this; cases this; rfl
  have hfw : ∀ kk K L, lkA ko kk = some K → M'.ob kk = some L → M''.ob K = some L := by
    intro kk K L h1 h2
    show (match M.ob K with | some L => some L | none => nob K) = some L
    cases hm : M.ob K with
    | some L0 => have := hpinO kk K L0 (hin kk K L0 h1 hm) hm; rw [h2] at this; exact this.symm
    | none => simp only []; rw [hnob kk K h1]; exact h2
  have hinv : ∀ K L, M''.ob K = some L → (∃ kk, lkA ko kk = some K ∧ M'.ob kk = some L) ∨ ((∀ kk, lkA ko kk ≠ some K) ∧ M.ob K = some L) := by
    intro K L hK
    have hK' : (match M.ob K with | some L => some L | none => nob K) = some L := hK
    by_cases hx : ∃ kk, lkA ko kk = some K
    · obtain ⟨kk, hk⟩ := hx
      left
      refine ⟨kk, hk, ?_⟩
      cases hm : M.ob K with
      | some L0 => rw [hm] at hK'; simp only [Option.some.injEq] at hK'; subst hK'; exact hpinO kk K L0 (hin kk K L0 hk hm) hm
      | none => rw [hm] at hK'; simp only [] at hK'; rw [hnob kk K hk] at hK'; exact hK'
    · right
      refine ⟨fun kk hk => hx ⟨kk, hk⟩, ?_⟩
      cases hm : M.ob K with
      | some L0 => rw [hm] at hK'; exact hK'
      | none =>
        rw [hm] at hK'; simp only [] at hK'
        have : nob K = none := dif_neg hx
        rw [this] at hK'; cases hK'
  have hfw' : ∀ kk K L, lkA ko kk = some K → M''.ob K = some L → M'.ob kk = some L := by
    intro kk K L h1 h2
    rcases hinv K L h2 with ⟨kk', h3, h4⟩ | ⟨h3, _⟩
    · rw [hn.injO kk kk' K h1 h3]; exact h4
    · exact absurd h1 (h3 kk)
  have hnst : ∀ b, M.st b → ¬ handed M kb ki b := fun b hs hb => (hX b hb).1.2 hs
  have hle : M.Le M'' w w' := ⟨fun _ h => .inl h, hbxs, hobs, fun b hb => hold b (h.stlt b hb) (hnst b hb)⟩
  have hsh : ShE kc ko M' M'' := ⟨fun _ h => .inr h, hfwB, hfw⟩
  have hown : ∀ b, b < w.heap.size → ¬ handed M kb ki b → Own w0 X M b → Own w0 X M'' b := fun b hb hnb ⟨h1, h2⟩ => ⟨h1, fun hs => by
    rcases hs with hs | hs
    · exact h2 hs
    · rcases hst b hs with hs | hs | hs
      · exact h2 hs
      · omega
      · exact hnb hs⟩
  have hown' : ∀ b, Own w (handed M kb ki) M' b → Own w0 X M'' b := fun b ⟨h1, h2⟩ => by
    refine ⟨?_, ?_⟩
    · rcases h1 with h1 | h1
      · exact .inl (Nat.le_trans h.size h1)
      · exact (hX b h1).1.1
    · rintro (hs | hs)
      · rcases h1 with h1 | h1
        · have := h.stlt b hs; omega
        · exact hnst b hs h1
      · exact h2 hs
  refine ⟨M'', { os := h'.os.trans h.os, tape := h'.tape.trans h.tape, out := h'.out.trans h.out, size := Nat.le_trans h.size h'.size, kept := ?_, stlt := ?_, stok := ?_, box := ?_, boxKey := ?_, obj := ?_, objKey := ?_, boxNe := ?_, objNe := ?_, boxObj := ?_, pinB := fun k b hk => hle.bx k b (h.pinB k b hk), pinO := fun k L hk => hle.ob k L (h.pinO k L hk) }, hle, hsh⟩
  · intro b hb hx
    have hnb : ¬ handed M kb ki b := fun hh => by
      rcases (hX b hh).1.1 with h1 | h1
      · omega
      · exact hx h1
    rw [hold b (Nat.lt_of_lt_of_le hb h.size) hnb]
    exact h.kept b hb hx
  · intro b hb
    rcases hb with hb | hb
    · exact Nat.lt_of_lt_of_le (h.stlt b hb) h'.size
    · exact h'.stlt b hb
  · intro b hb
    rcases hb with hb | hb
    · exact h.stok b hb
    · rcases hst b hb with hs | hs | hs
      · exact h.stok b hs
      · exact .inr (.inl (Nat.le_trans h.size hs))
      · exact .inr ((hX b hs).1.1)
  · intro K ls hK
    rcases hB K ls hK with ⟨kk, ls0, h1, h2, rfl⟩ | ⟨h1, h2⟩
    · obtain ⟨b, T, cs, g1, g2, g3, g4⟩ := h'.box kk ls0 h2
      exact ⟨b, T, cs, hsh.bx kk K b h1 g1, hown' b g2, g3, RVL.shE hsh _ _ g4⟩
    · obtain ⟨b, T, cs, g1, g2, g3, g4⟩ := h.box K ls h2
      have hnb := handed_box h hn (fun kk hk => h1 kk (hn.subB kk K hk)) g1
      exact ⟨b, T, cs, hbxs K b g1, hown b (lt_of_heap g3) hnb g2, by rw [hold b (lt_of_heap g3) hnb]; exact g3, RVL.mono hle _ _ g4⟩
  · intro K b hK
    rcases hinvB K b hK with ⟨kk, h1, h2⟩ | ⟨h1, h2⟩
    · obtain ⟨ls, hl⟩ := h'.boxKey kk b h2
      exact hB3 kk K ls h1 hl
    · obtain ⟨ls, hl⟩ := h.boxKey K b h2
      exact hB2 K ls hl
  · intro K fz sz rows hK
    rcases hO K _ hK with ⟨kk, h1, h2⟩ | ⟨h1, h2⟩
    · obtain ⟨L, g1, g2, g3⟩ := h'.obj kk fz sz rows h2
      refine ⟨L, hfw kk K L h1 g1, g2, ?_⟩
      rcases g3 with g3 | ⟨g3, hf, ho, c, E, h5, h6, h7, h8, h9⟩
      · exact .inl g3
      · exact .inr ⟨g3, fun e => .inr (hf e), fun e => hown' _ (ho e), c, E, h5, h6, h7, h8, RVR.mono (hsh.le w') _ _ _ h9⟩
    · obtain ⟨L, g1, g2, g3⟩ := h.obj K fz sz rows h2
      refine ⟨L, hobs K L g1, g2, ?_⟩
      rcases g3 with g3 | ⟨g3, hf, ho, c, E, h5, h6, h7, h8, h9⟩
      · exact .inl g3
      · have hnb := handed_obj h hn h1 h2 g1 g3
        exact .inr ⟨g3, fun e => .inl (hf e), fun e => hown _ (lt_of_heap h5) hnb (ho e), c, E, by rw [hold _ (lt_of_heap h5) hnb]; exact h5, h6, h7, h8, RVR.mono hle.cl _ _ _ h9⟩
  · intro K L hK
    rcases hinv K L hK with ⟨kk, h1, h2⟩ | ⟨h1, h2⟩
    · obtain ⟨o, ho⟩ := h'.objKey kk L h2
      exact hO3 kk K o h1 ho
    · obtain ⟨o, ho⟩ := h.objKey K L h2
      exact hO2 K o ho
  · intro K K' b hK hK'
    have hcallee : ∀ kk, M'.bx kk = some b → w.heap.size ≤ b ∨ handed M kb ki b := by
      intro kk hk
      obtain ⟨ls, hl⟩ := h'.boxKey kk b hk
      obtain ⟨ho, _⟩ := h'.box' hl hk
      exact ho.1
    have hcaller : ∀ K, (∀ kk, lkA kc kk ≠ some K) → M.bx K = some b → b < w.heap.size ∧ ¬ handed M kb ki b := by
      intro K g1 g2
      obtain ⟨ls, hl⟩ := h.boxKey K b g2
      obtain ⟨_, T, cs, hh, _⟩ := h.box' hl g2
      exact ⟨lt_of_heap hh, handed_box h hn (fun kk hk => g1 kk (hn.subB kk K hk)) g2⟩
    rcases hinvB K b hK with ⟨kk, h1, h2⟩ | ⟨h1, h2⟩ <;> rcases hinvB K' b hK' with ⟨kk', h3, h4⟩ | ⟨h3, h4⟩
    · have := h'.boxNe kk kk' b h2 h4
      subst this
      rw [h1] at h3; cases h3; rfl
    · obtain ⟨a1, a2⟩ := hcaller K' h3 h4
      rcases hcallee kk h2 with a3 | a3
      · omega
      · exact absurd a3 a2
    · obtain ⟨a1, a2⟩ := hcaller K h1 h2
      rcases hcallee kk' h4 with a3 | a3
      · omega
      · exact absurd a3 a2
    · exact h.boxNe K K' b h2 h4
  · intro K K' o o' L L' hK hK' hL hL' hnl hnl' heq
    have hcallee : ∀ kk o L, lkA ob' kk = some (some (false, o)) → M'.ob kk = some L → L.nil = false → w.heap.size ≤ L.b ∨ handed M kb ki L.b := by
      intro kk o L g1 g2 g3
      obtain ⟨_, hc⟩ := h'.obj' (fz := false) (sz := o.1) (rows := o.2) g1 g2
      rcases hc with ⟨e, _⟩ | ⟨_, _, ho, _⟩
      · rw [g3] at e; cases e
      · exact (ho rfl).1
    have hcaller : ∀ K o L, (∀ kk, lkA ko kk ≠ some K) → O K = some (some (false, o)) → M''.ob K = some L → L.nil = false → L.b < w.heap.size ∧ ¬ handed M kb ki L.b ∧ M.ob K = some L := by
      intro K o L g1 g2 g3 g4
      rcases hinv K L g3 with ⟨kk, g5, _⟩ | ⟨_, g5⟩
      · exact absurd g5 (g1 kk)
      · obtain ⟨_, hc⟩ := h.obj' (fz := false) (sz := o.1) (rows := o.2) g2 g5
        rcases hc with ⟨e, _⟩ | ⟨_, _, _, cs, E, hc, _⟩
        · rw [g4] at e; cases e
        · exact ⟨lt_of_heap hc, handed_obj h hn g1 g2 g5 g4, g5⟩
    rcases hO K _ hK with ⟨kk, h1, h2⟩ | ⟨h1, h2⟩ <;> rcases hO K' _ hK' with ⟨kk', h3, h4⟩ | ⟨h3, h4⟩
    · have := h'.objNe kk kk' o o' L L' h2 h4 (hfw' kk K L h1 hL) (hfw' kk' K' L' h3 hL') hnl hnl' heq
      subst this
      rw [h1] at h3; cases h3; rfl
    · obtain ⟨a1, a2, _⟩ := hcaller K' o' L' h3 h4 hL' hnl'
      rcases hcallee kk o L h2 (hfw' kk K L h1 hL) hnl with a3 | a3
      · omega
      · rw [heq] at a3; exact absurd a3 a2
    · obtain ⟨a1, a2, _⟩ := hcaller K o L h1 h2 hL hnl
      rcases hcallee kk' o' L' h4 (hfw' kk' K' L' h3 hL') hnl' with a3 | a3
      · omega
      · rw [← heq] at a3; exact absurd a3 a2
    · obtain ⟨_, _, a1⟩ := hcaller K o L h1 h2 hL hnl
      obtain ⟨_, _, a2⟩ := hcaller K' o' L' h3 h4 hL' hnl'
      exact h.objNe K K' o o' L L' h2 h4 a1 a2 hnl hnl' heq
  · intro K K' b o L hK hK' hL hnl
    rcases hinvB K b hK with ⟨kk, hk, hkb⟩ | ⟨hx, hK⟩
    · rcases hO K' _ hK' with ⟨kk', h3, h4⟩ | ⟨h3, h4⟩
      · exact h'.boxObj kk kk' b o L hkb h4 (hfw' kk' K' L h3 hL) hnl
      · rcases hinv K' L hL with ⟨kk2, g5, _⟩ | ⟨_, g5⟩
        · exact absurd g5 (h3 kk2)
        · intro e
          obtain ⟨_, hc⟩ := h.obj' (fz := false) (sz := o.1) (rows := o.2) h4 g5
          rcases hc with ⟨e1, _⟩ | ⟨_, _, _, cs, E, hc, _⟩
          · rw [hnl] at e1; cases e1
          · have hlt := lt_of_heap hc
            have hnb := handed_obj h hn h3 h4 g5 hnl
            obtain ⟨ls, hl⟩ := h'.boxKey kk b hkb
            obtain ⟨ho, _⟩ := h'.box' hl hkb
            rcases ho.1 with a | a
            · omega
            · rw [e] at a; exact hnb a
    · obtain ⟨ls, hl⟩ := h.boxKey K b hK
      obtain ⟨_, T, cs, hh, _⟩ := h.box' hl hK
      have hlt := lt_of_heap hh
      rcases hO K' _ hK' with ⟨kk', h3, h4⟩ | ⟨h3, h4⟩
      · have hL' := hfw' kk' K' L h3 hL
        have hnb := handed_box h hn (fun kk hk => hx kk (hn.subB kk K hk)) hK
        intro e
        obtain ⟨_, hc⟩ := h'.obj' (fz := false) (sz := o.1) (rows := o.2) h4 hL'
        rcases hc with ⟨e1, _⟩ | ⟨_, _, ho, _⟩
        · rw [hnl] at e1; cases e1
        · rcases (ho rfl).1 with a | a
          · omega
          · rw [← e] at a; exact hnb a
      · rcases hinv K' L hL with ⟨kk, g5, _⟩ | ⟨_, g5⟩
        · exact absurd g5 (h3 kk)
        · exact h.boxObj K K' b o L hK h4 g5 hnl

/-- The callee's start. -/
theorem HRel.startE {w0 : World} {X : Nat → Prop} {S0 : Base} {M : Mem} {B : BMap} {O : OMap} {w : World} {kb kc ki ko : List (Nat × Nat)} {ro : List (Nat × Bool × Nat × List (List PV))} {bx : List (Nat × List PV)} {ob : List (Nat × Option (Bool × Nat × List (List PV)))} (h : HRel w0 X S0 M B O w) (hn : Names kb kc ki ko B O) (hro : ∀ q ∈ ro, O q.1 = some (some (true, q.2.2)))
    (hbx1 : ∀ kk ls', lkA bx kk = some ls' → ∃ K ls, lkA kb kk = some K ∧ B K = some ls ∧ ResEL kb ki ro ls ls') (hbx2 : ∀ kk K, lkA kb kk = some K → ∃ ls, lkA bx kk = some ls)
    (hob1 : ∀ kk o, lkA ob kk = some o → ∃ K sz rows, lkA ki kk = some K ∧ O K = some (some (false, sz, rows)) ∧ o = some (false, sz, rows)) (hob2 : ∀ kk K, lkA ki kk = some K → ∃ o, lkA ob kk = some o) :
    HRel w (handed M kb ki) (baseOf (M.inn kb ki)) (M.inn kb ki) (lkA bx) (lkA ob) w := by
  have hB : ∀ kk b, (M.inn kb ki).bx kk = some b → ∃ K, lkA kb kk = some K ∧ M.bx K = some b := by
    intro kk b hk
    have hk' : (lkA kb kk).bind M.bx = some b := hk
    cases hl : lkA kb kk with
    | none => rw [hl] at hk'; cases hk'
    | some K => rw [hl] at hk'; exact ⟨K, rfl, hk'⟩
  have hO : ∀ kk L, (M.inn kb ki).ob kk = some L → ∃ K, lkA ki kk = some K ∧ M.ob K = some L := by
    intro kk L hk
    have hk' : (lkA ki kk).bind M.ob = some L := hk
    cases hl : lkA ki kk with
    | none => rw [hl] at hk'; cases hk'
    | some K => rw [hl] at hk'; exact ⟨K, rfl, hk'⟩
  have hown : ∀ b, handed M kb ki b → Own w (handed M kb ki) (M.inn kb ki) b := fun b hb => ⟨.inr hb, (handed_own h hn hb).1.2⟩
  refine { os := rfl, tape := rfl, out := rfl, size := Nat.le_refl _, kept := fun _ _ _ => rfl, stlt := h.stlt, stok := fun b hb => .inl hb, box := ?_, boxKey := ?_, obj := ?_, objKey := ?_, boxNe := ?_, objNe := ?_, boxObj := ?_, pinB := ?_, pinO := ?_ }
  · intro kk ls' hk
    obtain ⟨K, ls, h1, h2, h3⟩ := hbx1 kk ls' hk
    obtain ⟨b, T, cs, g1, g2, g3, g4⟩ := h.box K ls h2
    exact ⟨b, T, cs, by show (lkA kb kk).bind M.bx = _; rw [h1]; exact g1, hown b (.inl ⟨kk, K, h1, g1⟩), g3, ResEL.sound h hro ls ls' _ h3 g4⟩
  · intro kk b hk
    obtain ⟨K, h1, _⟩ := hB kk b hk
    exact hbx2 kk K h1
  · intro kk fz sz rows hk
    obtain ⟨K, sz', rows', h1, h2, h3⟩ := hob1 kk _ hk
    cases h3
    obtain ⟨L, g1, g2, g3⟩ := h.obj K _ _ _ h2
    refine ⟨L, by show (lkA ki kk).bind M.ob = _; rw [h1]; exact g1, g2, ?_⟩
    rcases g3 with g3 | ⟨g3, hf, ho, c, E, h5, h6, h7, h8, h9⟩
    · exact .inl g3
    · exact .inr ⟨g3, (fun e => by cases e), fun _ => hown _ (.inr ⟨kk, K, L, h1, g1, g3, rfl⟩), c, E, h5, h6, h7, h8, h9⟩
  · intro kk L hk
    obtain ⟨K, h1, _⟩ := hO kk L hk
    exact hob2 kk K h1
  · intro kk kk' b hk hk'
    obtain ⟨K, h1, h2⟩ := hB kk b hk
    obtain ⟨K', h3, h4⟩ := hB kk' b hk'
    have := h.boxNe K K' b h2 h4
    subst this
    exact hn.injB kk kk' K (hn.subB _ _ h1) (hn.subB _ _ h3)
  · intro kk kk' o o' L L' hk hk' hL hL' hnl hnl' heq
    obtain ⟨K, h1, h2⟩ := hO kk L hL
    obtain ⟨K', h3, h4⟩ := hO kk' L' hL'
    obtain ⟨sz, rows, h5⟩ := hn.live kk K h1
    obtain ⟨sz', rows', h6⟩ := hn.live kk' K' h3
    have := h.objNe K K' _ _ L L' h5 h6 h2 h4 hnl hnl' heq
    subst this
    exact hn.injO kk kk' K (hn.sub _ _ h1) (hn.sub _ _ h3)
  · intro kk kk' b o L hk hk' hL hnl
    obtain ⟨K, h1, h2⟩ := hB kk b hk
    obtain ⟨K', h3, h4⟩ := hO kk' L hL
    obtain ⟨sz', rows', h6⟩ := hn.live kk' K' h3
    exact h.boxObj K K' b _ L h2 h6 h4 hnl
  · intro k b hk
    have hk' : (if 1000000 ≤ k then (M.inn kb ki).bx k else none) = some b := hk
    by_cases e : 1000000 ≤ k
    · rw [if_pos e] at hk'; exact hk'
    · rw [if_neg e] at hk'; cases hk'
  · intro k L hk
    have hk' : (if 1000000 ≤ k then (M.inn kb ki).ob k else none) = some L := hk
    by_cases e : 1000000 ≤ k
    · rw [if_pos e] at hk'; exact hk'
    · rw [if_neg e] at hk'; cases hk'

/-- One for one. -/
def oneB (l : List (Nat × Nat)) : Bool := l.all fun p => l.all fun q => (Nat.beq p.1 q.1 && Nat.beq p.2 q.2) || (!Nat.beq p.1 q.1 && !Nat.beq p.2 q.2)

theorem lkA_mem' {α : Type} : ∀ {l : List (Nat × α)} {k : Nat} {v : α}, lkA l k = some v → (k, v) ∈ l
  | [], k, v, h => by simp [lkA] at h
  | (j, u) :: r, k, v, h => by
    simp only [lkA] at h
    by_cases e : j = k
    · subst e; simp at h; simp [h]
    · rw [beq_ne e] at h; exact List.mem_cons_of_mem _ (lkA_mem' h)

theorem oneB_of {l : List (Nat × Nat)} (h : oneB l = true) {p q : Nat × Nat} (hp : p ∈ l) (hq : q ∈ l) : p.1 = q.1 ↔ p.2 = q.2 := by
  unfold oneB at h
  rw [List.all_eq_true] at h
  have h1 := h p hp
  rw [List.all_eq_true] at h1
  have h2 := h1 q hq
  by_cases e1 : p.1 = q.1 <;> by_cases e2 : p.2 = q.2
  · exact ⟨fun _ => e2, fun _ => e1⟩
  · rw [e1, beq_ne e2] at h2; simp at h2
  · rw [e2, beq_ne e1] at h2; simp at h2
  · exact ⟨fun h => absurd h e1, fun h => absurd h e2⟩

theorem lkA_of_mem {α : Type} : ∀ {l : List (Nat × α)} {k : Nat} {v : α}, (k, v) ∈ l → ∃ u, lkA l k = some u
  | [], k, v, h => by simp at h
  | (j, u) :: r, k, v, h => by
    simp only [lkA]
    by_cases e : j = k
    · subst e; exact ⟨u, by simp⟩
    · rw [beq_ne e]
      simp only [cond_false]
      rcases List.mem_cons.1 h with h | h
      · cases h; exact absurd rfl e
      · exact lkA_of_mem h

theorem oneB_lk {l : List (Nat × Nat)} (h : oneB l = true) {k K : Nat} (hm : (k, K) ∈ l) : lkA l k = some K := by
  have key : ∀ (r : List (Nat × Nat)), (∀ x ∈ r, x ∈ l) → (k, K) ∈ r → lkA r k = some K := by
    intro r
    induction r with
    | nil => intro _ hm; simp at hm
    | cons p r ih =>
      obtain ⟨j, J⟩ := p
      intro hs hm
      simp only [lkA]
      by_cases e : j = k
      · have := (oneB_of h (hs (j, J) (by simp)) (by assumption : (k, K) ∈ l)).1 e
        subst e
        simp at this
        simp [this]
      · rw [beq_ne e]
        simp only [cond_false]
        refine ih (fun x hx => hs x (by simp [hx])) ?_
        rcases List.mem_cons.1 hm with hm | hm
        · cases hm; exact absurd rfl e
        · exact hm
  exact key l (fun _ h => h) hm

theorem oneB_inj {l : List (Nat × Nat)} (h : oneB l = true) : ∀ kk kk' K, lkA l kk = some K → lkA l kk' = some K → kk = kk' := by
  intro kk kk' K h1 h2
  exact (oneB_of h (lkA_mem' h1) (lkA_mem' h2)).2 rfl

/-- What is found under the callee's names, under the caller's. -/
def tkA {α β : Type} (f : α → β) (l : List (Nat × α)) : List (Nat × Nat) → List (Nat × β)
  | [] => []
  | (kk, K) :: r => match lkA l kk with
    | some x => (K, f x) :: tkA f l r
    | none => tkA f l r

theorem tkA_mem {α β : Type} {f : α → β} {l : List (Nat × α)} : ∀ {r : List (Nat × Nat)} {K : Nat} {y : β}, (K, y) ∈ tkA f l r ↔ ∃ kk x, (kk, K) ∈ r ∧ lkA l kk = some x ∧ y = f x
  | [], K, y => by simp [tkA]
  | (j, J) :: r, K, y => by
    simp only [tkA]
    cases hl : lkA l j with
    | none =>
      simp only []
      rw [tkA_mem (r := r)]
      constructor
      · rintro ⟨kk, x, h1, h2, h3⟩; exact ⟨kk, x, by simp [h1], h2, h3⟩
      · rintro ⟨kk, x, h1, h2, h3⟩
        rcases List.mem_cons.1 h1 with h1 | h1
        · cases h1; rw [hl] at h2; cases h2
        · exact ⟨kk, x, h1, h2, h3⟩
    | some u =>
      simp only [List.mem_cons]
      rw [tkA_mem (r := r)]
      constructor
      · rintro (h | ⟨kk, x, h1, h2, h3⟩)
        · cases h; exact ⟨j, u, .inl rfl, hl, rfl⟩
        · exact ⟨kk, x, .inr h1, h2, h3⟩
      · rintro ⟨kk, x, h1, h2, h3⟩
        rcases h1 with h1 | h1
        · cases h1; rw [hl] at h2; cases h2; subst h3; exact .inl rfl
        · exact .inr ⟨kk, x, h1, h2, h3⟩

theorem upd_some {α : Type} {f : Nat → Option α} {l : List (Nat × α)} {k : Nat} {v : α} (h : upd f l k = some v) : (k, v) ∈ l ∨ (k ∉ l.map (·.1) ∧ f k = some v) := by
  unfold upd at h
  cases hf : l.find? (fun p => p.1 == k) with
  | some p =>
    rw [hf] at h
    simp only [Option.some.injEq] at h
    have h1 := List.mem_of_find?_eq_some hf
    have h2 := List.find?_some hf
    simp at h2
    left
    rw [← h, ← h2]; exact h1
  | none =>
    rw [hf] at h
    refine .inr ⟨?_, h⟩
    intro hm
    obtain ⟨p, hp, e⟩ := List.mem_map.1 hm
    rw [List.find?_eq_none] at hf
    exact hf p hp (by simp [e])

theorem upd_ex {α : Type} {f : Nat → Option α} {l : List (Nat × α)} {k : Nat} (h : k ∈ l.map (·.1) ∨ ∃ v, f k = some v) : ∃ v, upd f l k = some v := by
  unfold upd
  cases hf : l.find? (fun p => p.1 == k) with
  | some p => exact ⟨_, rfl⟩
  | none =>
    simp only []
    rcases h with h | h
    · obtain ⟨p, hp, e⟩ := List.mem_map.1 h
      rw [List.find?_eq_none] at hf
      exact absurd (by simp [e]) (hf p hp)
    · exact h

theorem os_callE {P : Program} {o : Oper} {ts : List PV} {c : Call} {f : Nat} {ps qs : List PV} {r : PV} {bx bx' : List (Nat × List PV)} {ob ob' : List (Nat × Option (Bool × Nat × List (List PV)))} {kb kbn ki kn : List (Nat × Nat)} {ro rs : List (Nat × Bool × Nat × List (List PV))} {rb : List (Nat × List PV)}
    (ho : o.op = .call c) (hc : callee ts c.callee c.args.toList = some (f, ps)) (hres : ResEL kb ki ro ps qs) (hspec : CtrE P f qs bx ob r bx' ob')
    (hone1 : oneB (kb ++ kbn) = true) (hone2 : oneB (ki ++ kn) = true) (hbig : (kb.all fun p => Nat.ble 1000000 p.1) = true) (hbig2 : (ki.all fun p => Nat.ble 1000000 p.1) = true)
    (hbx1 : ∀ kk ls', lkA bx kk = some ls' → ∃ K ls, lkA kb kk = some K ∧ (K, ls) ∈ rb ∧ ResEL kb ki ro ls ls') (hbx2 : ∀ kk K, lkA kb kk = some K → ∃ ls, lkA bx kk = some ls)
    (hob1 : ∀ kk o, lkA ob kk = some o → ∃ K sz rows, lkA ki kk = some K ∧ (K, false, sz, rows) ∈ rs ∧ o = some (false, sz, rows)) (hob2 : ∀ kk K, lkA ki kk = some K → ∃ o, lkA ob kk = some o)
    (hko : ∀ kk o, lkA ob' kk = some o → ∃ K, lkA (ki ++ kn) kk = some K) (hdis : ∀ q ∈ ro, ∀ p ∈ ki ++ kn, p.2 ≠ q.1) :
    OpSem P o ⟨shE (kb ++ kbn) (ki ++ kn) r, rb, ro ++ rs, kbn.map (·.2), kn.map (·.2), tkA (shEL (kb ++ kbn) (ki ++ kn)) bx' (kb ++ kbn), tkA (fun x => x) ob' (ki ++ kn) ++ frozen ro⟩ ts := by
  intro w0 X S0 M s a w Q K hr hl hs hk
  obtain ⟨vs, hvs, hrun⟩ := callee_sound (P := P) hr ho hl hc
  obtain ⟨M1, h1, hle1, hob1', hbx1', hst1⟩ := hr.toHRel.freezeAll ro (fun q hq => hs.2.1 q (by simp [hq]))
  have hup : ∀ k, (∀ q ∈ ro, q.1 ≠ k) → upd s.O (frozen ro) k = s.O k := by
    intro k hk
    rw [upd_ne]
    intro hm
    simp only [frozen, List.map_map, List.mem_map] at hm
    obtain ⟨q, hq, e⟩ := hm
    exact hk q hq e
  have hro : ∀ q ∈ ro, upd s.O (frozen ro) q.1 = some (some (true, q.2.2)) := by
    intro q hq
    obtain ⟨v, hv⟩ := upd_ex (f := s.O) (l := frozen ro) (k := q.1) (.inl (by simp only [frozen, List.map_map, List.mem_map]; exact ⟨q, hq, rfl⟩))
    rw [hv]
    rcases upd_some hv with h | ⟨h, _⟩
    · simp only [frozen, List.mem_map] at h
      obtain ⟨x, hx, e⟩ := h
      have e1 := hs.2.1 x (by simp [hx])
      have e2 := hs.2.1 q (by simp [hq])
      simp only [Prod.mk.injEq] at e
      obtain ⟨e3, e4⟩ := e
      rw [e3, e2] at e1
      simp only [Option.some.injEq] at e1
      rw [← e4, ← e1]
    · exact absurd (by simp only [frozen, List.map_map, List.mem_map]; exact ⟨q, hq, rfl⟩) h
  have hki : ∀ kk K, lkA ki kk = some K → lkA (ki ++ kn) kk = some K := fun kk K hk => oneB_lk hone2 (List.mem_append_left _ (lkA_mem' hk))
  have hkiL : ∀ kk K, lkA ki kk = some K → ∃ sz rows, s.O K = some (some (false, sz, rows)) := by
    intro kk K hk
    obtain ⟨o, ho⟩ := hob2 kk K hk
    obtain ⟨K', sz, rows, g1, g2, _⟩ := hob1 kk o ho
    rw [hk] at g1; cases g1
    exact ⟨sz, rows, hs.2.1 _ (List.mem_append_right _ g2)⟩
  have hkiF : ∀ kk K, lkA ki kk = some K → upd s.O (frozen ro) K = s.O K := fun kk K hk => hup K fun q hq e => hdis q hq (kk, K) (List.mem_append_left _ (lkA_mem' hk)) e.symm
  have hkb : ∀ kk K, lkA kb kk = some K → lkA (kb ++ kbn) kk = some K := fun kk K hk => oneB_lk hone1 (List.mem_append_left _ (lkA_mem' hk))
  have hn : Names kb (kb ++ kbn) ki (ki ++ kn) s.B (upd s.O (frozen ro)) := by
    refine ⟨?_, ?_, hki, hkb, oneB_inj hone1, oneB_inj hone2, ?_, ?_, ?_, ?_⟩
    · intro kk K hk
      rw [List.all_eq_true] at hbig
      simpa using hbig _ (lkA_mem' hk)
    · intro kk K hk
      rw [List.all_eq_true] at hbig2
      simpa using hbig2 _ (lkA_mem' hk)
    · intro kk K h2 h3
      have hm := lkA_mem' h2
      rw [hup K fun q hq e => hdis q hq (kk, K) hm e.symm]
      rcases List.mem_append.1 hm with hm | hm
      · exfalso
        have := lkA_of_mem hm
        obtain ⟨v, hv⟩ := this
        rw [h3] at hv; cases hv
      · exact hs.2.2.2 K (List.mem_map.2 ⟨_, hm, rfl⟩)
    · intro kk K h2 h3
      rcases List.mem_append.1 (lkA_mem' h2) with hm | hm
      · exfalso
        have := lkA_of_mem hm
        obtain ⟨v, hv⟩ := this
        rw [h3] at hv; cases hv
      · exact hs.2.2.1 K (List.mem_map.2 ⟨_, hm, rfl⟩)
    · intro kk K h2
      rw [hkiF kk K h2]
      exact hkiL kk K h2
    · intro kk K h2
      obtain ⟨ls', h3⟩ := hbx2 kk K h2
      obtain ⟨K', ls, g1, g2, _⟩ := hbx1 kk ls' h3
      rw [h2] at g1; cases g1
      exact ⟨ls, hs.1 _ g2⟩
  have hstart := h1.startE (bx := bx) (ob := ob) hn hro (fun kk ls' hk => by
      obtain ⟨K, ls, g1, g2, g3⟩ := hbx1 kk ls' hk
      exact ⟨K, ls, g1, hs.1 _ g2, g3⟩) hbx2 (fun kk o hk => by
      obtain ⟨K, sz, rows, g1, g2, g3⟩ := hob1 kk o hk
      exact ⟨K, sz, rows, g1, by rw [hkiF kk K g1]; exact hs.2.1 _ (List.mem_append_right _ g2), g3⟩) hob2
  have hq := ResEL.sound h1 hro ps qs vs hres (RVL.mono hle1 _ _ hvs)
  have hS := hspec.run w _ _ vs hstart hq
  unfold Oper.wp
  rw [hrun]
  have fin : ∀ e w', (∃ v M', e = Ending.returned v ∧ RV M' w' r v ∧ HRel w (handed M1 kb ki) (baseOf (M1.inn kb ki)) M' (lkA bx') (lkA ob') w') → ∃ v, e = .returned v ∧ K (a.put o.dst v) w' := by
    rintro e w' ⟨v, M', he, hrv, hrel⟩
    obtain ⟨M'', hm, hle, hsh⟩ := h1.mergeE (B' := upd s.B (tkA (shEL (kb ++ kbn) (ki ++ kn)) bx' (kb ++ kbn))) (O' := upd s.O (tkA (fun x => x) ob' (ki ++ kn) ++ frozen ro)) hn hrel hko (by
      intro J ls hJ
      rcases upd_some hJ with h | ⟨h, h2⟩
      · obtain ⟨kk, x, g1, g2, g3⟩ := tkA_mem.1 h
        exact .inl ⟨kk, x, oneB_lk hone1 g1, g2, g3⟩
      · by_cases hx : ∃ kk, lkA (kb ++ kbn) kk = some J
        · exfalso
          obtain ⟨kk, hkc⟩ := hx
          rcases List.mem_append.1 (lkA_mem' hkc) with hm | hm
          rotate_left
          · have := hs.2.2.1 J (List.mem_map.2 ⟨_, hm, rfl⟩)
            rw [h2] at this; cases this
          have hkk : lkA kb kk = some J := by
            obtain ⟨v, hv⟩ := lkA_of_mem hm
            have := hkb kk v hv
            rw [hkc] at this; cases this; exact hv
          obtain ⟨b, hb⟩ : ∃ b, M1.bx J = some b := by
            obtain ⟨ls0, hl0⟩ := hn.boxed kk J hkk
            obtain ⟨b, _, _, hb, _⟩ := h1.box J ls0 hl0
            exact ⟨b, hb⟩
          have hp := hrel.pinB kk b (by
            show (if 1000000 ≤ kk then (lkA kb kk).bind M1.bx else none) = some b
            rw [if_pos (hn.bigB kk J hkk), hkk]; exact hb)
          obtain ⟨ls1, hl1⟩ := hrel.boxKey kk b hp
          exact h (List.mem_map.2 ⟨_, tkA_mem.2 ⟨kk, ls1, lkA_mem' hkc, hl1, rfl⟩, rfl⟩)
        · exact .inr ⟨fun kk hk => hx ⟨kk, hk⟩, h2⟩) (fun J ls hJ => upd_ex (.inr ⟨ls, hJ⟩)) (fun kk J ls g1 g2 => upd_ex (.inl (List.mem_map.2 ⟨_, tkA_mem.2 ⟨kk, ls, lkA_mem' g1, g2, rfl⟩, rfl⟩))) (by
      intro J o' hJ
      rcases upd_some hJ with h | ⟨h, h2⟩
      · rcases List.mem_append.1 h with h | h
        · obtain ⟨kk, x, g1, g2, g3⟩ := tkA_mem.1 h
          subst g3
          exact .inl ⟨kk, oneB_lk hone2 g1, g2⟩
        · right
          simp only [frozen, List.mem_map] at h
          obtain ⟨q, hq, e⟩ := h
          simp only [Prod.mk.injEq] at e
          obtain ⟨e1, e2⟩ := e
          refine ⟨fun kk hk => hdis q hq _ (lkA_mem' hk) e1.symm, ?_⟩
          rw [← e1, hro q hq, e2]
      · simp only [List.map_append, List.mem_append, not_or] at h
        have hnf : upd s.O (frozen ro) J = s.O J := upd_ne h.2
        by_cases hx : ∃ kk, lkA (ki ++ kn) kk = some J
        · exfalso
          obtain ⟨kk, hkk⟩ := hx
          cases hi : lkA ki kk with
          | none =>
            have := hn.fresh kk J hkk hi
            rw [hnf, h2] at this; cases this
          | some J' =>
            have := hki kk J' hi
            rw [hkk] at this; cases this
            obtain ⟨sz, rows, hl⟩ := hn.live kk J hi
            obtain ⟨L, hL, _⟩ := h1.obj J _ _ _ hl
            have hp := hrel.pinO kk L (by
              show (if 1000000 ≤ kk then (lkA ki kk).bind M1.ob else none) = some L
              rw [if_pos (hn.bigO kk J hi), hi]; exact hL)
            obtain ⟨o1, hl1⟩ := hrel.objKey kk L hp
            exact h.1 (List.mem_map.2 ⟨_, tkA_mem.2 ⟨kk, o1, lkA_mem' hkk, hl1, rfl⟩, rfl⟩)
        · exact .inr ⟨fun kk hk => hx ⟨kk, hk⟩, by rw [hnf]; exact h2⟩) (by
      intro J o' hJ
      refine upd_ex ?_
      by_cases hf : J ∈ (frozen ro).map (·.1)
      · exact .inl (by simp only [List.map_append, List.mem_append]; exact .inr hf)
      · rw [upd_ne hf] at hJ; exact .inr ⟨o', hJ⟩) (by
      intro kk J o' g1 g2
      exact upd_ex (.inl (by simp only [List.map_append, List.mem_append]; exact .inl (List.mem_map.2 ⟨_, tkA_mem.2 ⟨kk, o', lkA_mem' g1, g2, rfl⟩, rfl⟩))))
    refine ⟨v, he, hk M'' _ _ ?_⟩
    have hr' : Rel w0 X S0 M'' ⟨s.tmps, upd s.B (tkA (shEL (kb ++ kbn) (ki ++ kn)) bx' (kb ++ kbn)), upd s.O (tkA (fun x => x) ob' (ki ++ kn) ++ frozen ro)⟩ a w' := ⟨hm, hr.dfr, hr.len, fun t => RV.mono (hle1.trans hle) _ _ (hr.tmp t)⟩
    have := rel_put hr' o.dst (RV.shE hsh r v hrv)
    simpa [St.apply] using this
  rcases hS with ⟨h1, h2⟩ | ⟨v, w', h1, h2⟩
  · rw [h1, Oper.upon_enter]
    refine h2.mono ?_
    intro e w' he
    obtain ⟨v, rfl, hK⟩ := fin e w' he
    exact hK
  · rw [h1, Oper.upon_value]
    obtain ⟨v', e, hK⟩ := fin _ w' h2
    cases e
    exact hK

end Go.Pv

/-
  clear, of an own slice. Generic over the program.
-/
namespace Go.Pv

theorem rvl_bad {M : Mem} {w : World} : ∀ (n : Nat) (cs : List Value), cs.length = n → RVL M w (List.replicate n .bad) cs
  | 0, cs, h => by simp only [List.replicate_zero, RVL]; exact List.eq_nil_of_length_eq_zero h
  | n + 1, [], h => by simp at h
  | n + 1, c :: cs, h => by
    simp only [List.replicate_succ, RVL]
    exact ⟨c, cs, rfl, by simp [RV], rvl_bad n cs (by simpa using h)⟩
theorem rvr_bad {M : Mem} {w : World} (sz : Nat) : ∀ (n : Nat) (cs : List Value), cs.length = n * sz → RVR M w sz (List.replicate n (List.replicate sz .bad)) cs
  | 0, cs, h => by simp [RVR]
  | n + 1, cs, h => by
    simp only [List.replicate_succ, RVR]
    have hl : cs.length = sz + n * sz := by rw [h, Nat.add_mul, Nat.one_mul, Nat.add_comm]
    exact ⟨cs.take sz, cs.drop sz, by simp, by simp, rvl_bad sz _ (by simp; omega), rvr_bad sz n _ (by simp; omega)⟩

theorem rvr_blot {M : Mem} {w : World} {sz lo len : Nat} {rows : List (List PV)} {cs ds : List Value} (h : RVR M w sz rows cs) (hd : ds.length = len * sz) (hle : lo + len ≤ rows.length) :
    RVR M w sz (rows.take lo ++ List.replicate len (List.replicate sz .bad) ++ rows.drop (lo + len)) (cs.take (lo * sz) ++ ds ++ cs.drop ((lo + len) * sz)) := by
  obtain ⟨hlen, _⟩ := RVR.exact h
  have h1 := RVR.takeRows lo h
  obtain ⟨a1, a2⟩ := RVR.exact h1
  have e1 : (rows.take lo).length = lo := by simp; omega
  rw [e1] at a1 a2
  have h2 := rvr_bad (M := M) (w := w) sz len ds hd
  have h3 := RVR.dropRows (lo + len) h
  refine RVR.append (RVR.append a2 (by rw [e1, List.length_take]; omega) h2) ?_ h3
  simp only [List.length_append, List.length_replicate, e1, List.length_take, hd, Nat.add_mul]
  omega

theorem zeroCells_leaf {z : Array Value} {n : Nat} (h : ∀ v ∈ z.toList, v.oneCell' = true) : ∀ v ∈ (Builtin.zeroCells z n).toList, v.oneCell' = true := by
  intro v hv
  unfold Builtin.zeroCells at hv
  simp only [Array.toList_map, Array.toList_range, List.mem_map, List.mem_range] at hv
  obtain ⟨i, hi, rfl⟩ := hv
  have hpos : 0 < z.size := by
    apply Nat.pos_of_ne_zero
    intro e; rw [e] at hi; omega
  have hlt := Nat.mod_lt i hpos
  rw [getElem!_pos z (i % z.size) hlt]
  exact h _ (by simp)

theorem os_clear {P : Program} {o : Oper} {ts : List PV} {x : Operand} {t e : TypeId} {inf : TypeInfo} {z : Value} {k lo len sz : Nat} {all : List (List PV)} (ho : o.op = .call ⟨.builtin .clear, #[x], #[t]⟩) (ht : P.underlying t = some (.slice e)) (hi : P.info? e = some inf) (hz : inf.zero = some z)
    (hzs : z.cells.size = inf.size) (hz1 : (z.cells.toList.map zleaf).all leaf1 = true) (hx : aev ts x = .ow k lo len) (hsz : inf.size = sz) (hle : lo + len ≤ all.length) :
    OpSem P o ⟨.tu [], [], [(k, false, sz, all)], [], [], [], [(k, some (false, sz, all.take lo ++ List.replicate len (List.replicate sz .bad) ++ all.drop (lo + len)))]⟩ ts := by
  intro w0 X S0 M s a w Q K hr hl hs hk
  rw [ho] at hl
  have h2 := ev_of hr hl (x := x) (by simp [Op.operands, Call.operands]) hx
  simp only [RV] at h2
  obtain ⟨L, hL, hcase⟩ := h2
  have hO := hs.2.1 (k, false, sz, all) (by simp)
  obtain ⟨hLs, hc⟩ := hr.toHRel.obj' hO hL
  unfold Oper.wp
  have put : ∀ (w' : World), HRel w0 X S0 M s.B (upd s.O [(k, some (false, sz, all.take lo ++ List.replicate len (List.replicate sz .bad) ++ all.drop (lo + len)))]) w' → M.Le M w w' → K (a.put o.dst (.tuple #[])) w' := by
    intro w' hnew hle'
    refine hk M _ _ ?_
    have hr' : Rel w0 X S0 M ⟨s.tmps, s.B, upd s.O [(k, some (false, sz, all.take lo ++ List.replicate len (List.replicate sz .bad) ++ all.drop (lo + len)))]⟩ a w' := ⟨hnew, hr.dfr, hr.len, fun t => RV.mono hle' _ _ (hr.tmp t)⟩
    have := rel_put hr' o.dst (p := .tu []) (v := .tuple #[]) (by simp only [RV]; exact ⟨#[], rfl, by simp [RVL]⟩)
    simpa [St.apply, upd_nil] using this
  have stay : len = 0 → K (a.put o.dst (.tuple #[])) w := by
    intro e
    refine put w ?_ (Mem.Le.refl M w)
    have e2 : upd s.O [(k, some (false, sz, all.take lo ++ List.replicate len (List.replicate sz .bad) ++ all.drop (lo + len)))] = s.O := by
      funext j
      rw [upd_one]
      by_cases ej : j = k
      · subst ej
        rw [if_pos rfl, hO, e]; simp
      · rw [if_neg ej]
    rw [e2]; exact hr.toHRel
  by_cases h0 : len = 0
  · have hv : ∃ ad c, a.eval x = .slice ad 0 c := by
      rcases hcase with ⟨_, _, ad, hv⟩ | ⟨_, _, ad, hv, _⟩
      · exact ⟨ad, 0, hv⟩
      · exact ⟨ad, _, by rw [h0] at hv; exact hv⟩
    obtain ⟨ad, c, hv⟩ := hv
    have hex : (execOp a.eval o).run P w = .ok (.value (.tuple #[])) w := by
      cases ad <;> simp [execOp, ho, resolve, invoke, builtin, Builtin.clear_, run_underlying ht, hv, Result.andThen]
    rw [hex, Oper.upon_value]
    exact stay h0
  · rcases hcase with ⟨_, e, _⟩ | ⟨hn, hcap, ad, hv, had⟩
    · exact absurd e h0
    · rcases hc with ⟨e, _⟩ | ⟨_, _, _, cs, E, hh, hcs, hlen0, _, hR⟩
      · rw [hn] at e; cases e
      have had := had (by omega)
      have hzl : ∀ v ∈ (Builtin.zeroCells z.cells len).toList, v.oneCell' = true := zeroCells_leaf (leaves1_sound hz1 (zleaves_sound (M := M) (w := w) z.cells.toList))
      have hzn : (Builtin.zeroCells z.cells len).toList.length = len * sz := by simp [Builtin.zeroCells, hzs, hsz]
      have hmul : lo * sz + len * sz ≤ L.cap * sz := by rw [← Nat.add_mul]; exact Nat.mul_le_mul_right _ hcap
      have hrun := run_storeCells_at P L.b (lo * sz) E (Builtin.zeroCells z.cells len).toList 0 cs w hh (by rw [Nat.add_zero, hzn, hcs]; exact hmul) hzl
      simp only [Nat.add_zero] at hrun
      have hex : (execOp a.eval o).run P w = .ok (.value (.tuple #[])) (w.setRow L.b (cs.toList.take (lo * sz) ++ (Builtin.zeroCells z.cells len).toList ++ cs.toList.drop (lo * sz + (Builtin.zeroCells z.cells len).toList.length)).toArray) := by
        obtain ⟨len', rfl⟩ : ∃ n, len = n + 1 := ⟨len - 1, by omega⟩
        simp only [execOp, ho, resolve, invoke, builtin, Builtin.clear_, List.map_cons, List.map_nil]
        simp [run_underlying ht, hv, had, hLs, zeroValue, typeInfo, hi, hz, Result.andThen]
        simp at hrun
        rw [hrun]
      rw [hex, Oper.upon_value]
      obtain ⟨hnew, hle'⟩ := hr.toHRel.setObj (rows' := all.take lo ++ List.replicate len (List.replicate sz .bad) ++ all.drop (lo + len)) (cs' := (cs.toList.take (lo * sz) ++ (Builtin.zeroCells z.cells len).toList ++ cs.toList.drop (lo * sz + (Builtin.zeroCells z.cells len).toList.length)).toArray) hO hL hn hh
        (by
          rw [List.size_toArray, List.length_append, List.length_append, hzn, List.length_take, List.length_drop, Array.length_toList, hcs]
          omega)
        (by simp only [List.length_append, List.length_take, List.length_replicate, List.length_drop]; omega)
        (by rw [hzn, ← Nat.add_mul]; exact rvr_blot hR hzn hle)
      exact put _ hnew hle'
end Go.Pv

/-
  The evaluator, operation by operation, and its soundness. Generic over the program.
-/
namespace Go.Pv

def bndK (ts : List PV) (x : Option Operand) (d : Int) (k : Int → Prop) : Prop :=
  match x with
  | none => k d
  | some x => evK ts x fun p => match p with | .sc (.int _ n) => k n | _ => False

theorem bndK_sound {ts : List PV} {x : Option Operand} {d : Int} {k : Int → Prop} (h : bndK ts x d k) : ∃ n, bndV ts x d = some n ∧ k n := by
  unfold bndK at h
  split at h
  · exact ⟨d, rfl, h⟩
  · rename_i x
    rw [evK_eq] at h
    unfold bndV
    split at h
    · rename_i kk n hx
      exact ⟨n, by simp [hx], h⟩
    · exact h.elim

def pfillK (place : Nat → Option (Nat × Nat)) (ls : List PV) : List (Nat × PV) → (List PV → Prop) → Prop
  | [], k => k ls
  | (i, p) :: rest, k =>
    match place i with
    | none => False
    | some (off, size) => lvK p fun ns => okK (ns.all leaf1 && Nat.beq ns.length size && Nat.ble (off + size) ls.length) (spliceK ls off ns fun ls' => pfillK place ls' rest k)

theorem pfillK_sound {place : Nat → Option (Nat × Nat)} : ∀ {parts : List (Nat × PV)} {ls : List PV} {k : List PV → Prop}, pfillK place ls parts k → ∃ ls', pfill place ls parts = some ls' ∧ k ls'
  | [], ls, k, h => ⟨ls, rfl, h⟩
  | (i, p) :: rest, ls, k, h => by
    simp only [pfillK] at h
    simp only [pfill]
    split at h
    · exact h.elim
    · rename_i off size hp
      rw [lvK_eq] at h
      obtain ⟨hc, h⟩ := okK_iff h
      rw [spliceK_eq] at h
      simp only [Bool.and_eq_true, Nat.beq_eq, Nat.ble_eq] at hc
      obtain ⟨⟨c1, c2⟩, c3⟩ := hc
      simp only [hp]
      rw [if_pos (by simp [c1, c2, c3])]
      exact pfillK_sound h

def partsK (ts : List PV) : List (Nat × Operand) → (List (Nat × PV) → Prop) → Prop
  | [], k => k []
  | (i, x) :: r, k => evK ts x fun p => partsK ts r fun ps => k ((i, p) :: ps)

theorem partsK_eq (ts : List PV) : ∀ (l : List (Nat × Operand)) (k : List (Nat × PV) → Prop), partsK ts l k = k (l.map fun p => (p.1, aev ts p.2))
  | [], k => rfl
  | (i, x) :: r, k => by simp [partsK, evK_eq, partsK_eq ts r]

def zlK : List Value → (List PV → Prop) → Prop
  | [], k => k []
  | v :: vs, k => match v with
    | .slice none 0 0 => zlK vs fun r => k (.nl :: r)
    | v => zlK vs fun r => k (.sc v :: r)

theorem zlK_eq : ∀ (vs : List Value) (k : List PV → Prop), zlK vs k = k (vs.map zleaf)
  | [], k => rfl
  | v :: vs, k => by
    unfold zlK
    split
    · simp [zlK_eq vs, zleaf]
    · rename_i hne
      rw [zlK_eq vs, List.map_cons]
      congr 2
      unfold zleaf
      split
      · exact absurd rfl (hne)
      · rfl

def repK {α : Type} : Nat → List α → (List α → Prop) → Prop
  | 0, _, k => k []
  | n + 1, l, k => repK n l fun r => appK l r k

theorem repK_eq {α : Type} : ∀ (n : Nat) (l : List α) (k : List α → Prop), repK n l k = k (List.replicate n l).flatten
  | 0, l, k => rfl
  | n + 1, l, k => by simp [repK, repK_eq n l, appK_eq, List.replicate_succ]

def chunkK (sz : Nat) : Nat → List PV → (List (List PV) → Prop) → Prop
  | 0, _, k => k []
  | n + 1, ls, k => takeK sz ls fun r => dropK sz ls fun rest => chunkK sz n rest fun rs => k (r :: rs)

theorem chunkK_eq (sz : Nat) : ∀ (n : Nat) (ls : List PV) (k : List (List PV) → Prop), chunkK sz n ls k = k (chunk sz n ls)
  | 0, ls, k => rfl
  | n + 1, ls, k => by simp [chunkK, chunk, takeK_eq, dropK_eq, chunkK_eq sz n]

mutual
def shK (n : Nat) (p : PV) (k : PV → Prop) : Prop :=
  match p with
  | .ag ps => shLK n ps fun qs => k (.ag qs)
  | .tu ps => shLK n ps fun qs => k (.tu qs)
  | .cl f ps => shLK n ps fun qs => k (.cl f qs)
  | .cm f ps => shLK n ps fun qs => k (.cm f qs)
  | .ow key lo len => k (.ow (n + key) lo len)
  | .eo key i off => k (.eo (n + key) i off)
  | .sc v => k (.sc v)
  | .sl sz rows => k (.sl sz rows)
  | .nl => k .nl
  | .pt key off => k (.pt key off)
  | .bs key off len => k (.bs key off len)
  | .ep sfx => k (.ep sfx)
  | .ub φ => k (.ub φ)
  | .nn kd => k (.nn kd)
  | .ls .. => k .bad
  | .lp .. => k .bad
  | .bad => k .bad
def shLK (n : Nat) (ps : List PV) (k : List PV → Prop) : Prop :=
  match ps with
  | [] => k []
  | p :: ps => shK n p fun q => shLK n ps fun qs => k (q :: qs)
end

mutual
theorem shK_eq (n : Nat) : ∀ (p : PV) (k : PV → Prop), shK n p k = k (shift n p)
  | .ag ps, k => by simp [shK, shift, shLK_eq n ps]
  | .tu ps, k => by simp [shK, shift, shLK_eq n ps]
  | .cl f ps, k => by simp [shK, shift, shLK_eq n ps]
  | .cm f ps, k => by simp [shK, shift, shLK_eq n ps]
  | .ow key lo len, k => by simp [shK, shift]
  | .eo key i off, k => by simp [shK, shift]
  | .sc v, k => by simp [shK, shift]
  | .sl sz rows, k => by simp [shK, shift]
  | .nl, k => by simp [shK, shift]
  | .pt key off, k => by simp [shK, shift]
  | .bs key off len, k => by simp [shK, shift]
  | .ep sfx, k => by simp [shK, shift]
  | .ub φ, k => by simp [shK, shift]
  | .nn kd, k => by simp [shK, shift]
  | .ls .., k => by simp [shK, shift]
  | .lp .., k => by simp [shK, shift]
  | .bad, k => by simp [shK, shift]
theorem shLK_eq (n : Nat) : ∀ (ps : List PV) (k : List PV → Prop), shLK n ps k = k (shiftL n ps)
  | [], k => by simp [shLK, shiftL]
  | p :: ps, k => by simp [shLK, shiftL, shK_eq n p, shLK_eq n ps]
end

/-- A call that writes nothing of the caller's. The user gives the contract. -/
noncomputable def callPK (P : Program) (c : CSt) (d : Option Nat) (f : Nat) (ps : List PV) (k : Eff → Prop) : Prop :=
  resAK c ps fun rb ro qs => ∃ r os, Ctr P f qs r os ∧
    match os, scal r with
    | [], true => k ⟨r, rb, ro, [], [], [], []⟩
    | os, _ => match rb with
      | [] => ∃ n, d.map (· * 16) = some n ∧ (∀ q ∈ ro, ¬ (n ≤ q.1 ∧ q.1 < n + os.length)) ∧ (∀ i, i < os.length → lkA c.ob (n + i) = none) ∧ shK n r fun r' => k ⟨r', [], ro, [], (List.range os.length).map (n + ·), [], newObjs n os ++ frozen ro⟩
      | _ => False

/-! ### Calls that write what the caller owns -/

def lkOK {α : Type} (l : List (Nat × α)) (n : Nat) (k : α → Prop) (e : Prop) : Prop :=
  match l with
  | [] => e
  | (j, u) :: r => bif Nat.beq j n then k u else lkOK r n k e
theorem lkOK_eq {α : Type} : ∀ (l : List (Nat × α)) (n : Nat) (k : α → Prop) (e : Prop), lkOK l n k e = match lkA l n with | some v => k v | none => e
  | [], n, k, e => rfl
  | (j, u) :: r, n, k, e => by
    simp only [lkOK, lkA]
    cases Nat.beq j n
    · exact lkOK_eq r n k e
    · rfl

/-- The callee's name of a key of the caller's. -/
def rvK (l : List (Nat × Nat)) (K : Nat) (k : Nat → Prop) (e : Prop) : Prop :=
  match l with
  | [] => e
  | (kk, J) :: r => bif Nat.beq J K then k kk else rvK r K k e
theorem rvK_sound {K : Nat} {k : Nat → Prop} {e : Prop} : ∀ {l : List (Nat × Nat)}, rvK l K k e → (∃ kk, (kk, K) ∈ l ∧ k kk) ∨ e
  | [], h => .inr h
  | (kk, J) :: r, h => by
    simp only [rvK] at h
    by_cases ej : J = K
    · subst ej
      simp only [Nat.beq_refl, cond_true] at h
      exact .inl ⟨kk, by simp, h⟩
    · rw [beq_ne ej] at h
      rcases rvK_sound h with ⟨x, h1, h2⟩ | h
      · exact .inl ⟨x, by simp [h1], h2⟩
      · exact .inr h

def resEK (c : CSt) (kb ki : List (Nat × Nat)) (p : PV) (k : List (Nat × Bool × Nat × List (List PV)) → PV → Prop) : Prop :=
  match p with
  | .sc v => k [] (.sc v)
  | .sl sz rows => k [] (.sl sz rows)
  | .nl => k [] .nl
  | .ep sfx => k [] (.ep sfx)
  | .ow key lo len => rvK ki key (fun kk => k [] (.ow kk lo len)) (match lkA c.ob key with
    | some (some (fz, sz, all)) => lo + len ≤ all.length ∧ k [(key, fz, sz, all)] (.sl sz ((all.drop lo).take len))
    | _ => False)
  | .eo key i off => rvK ki key (fun kk => k [] (.eo kk i off)) False
  | .pt key off => rvK kb key (fun kk => k [] (.pt kk off)) False
  | .bs key off len => rvK kb key (fun kk => k [] (.bs kk off len)) False
  | _ => False

noncomputable def resELK (c : CSt) (kb ki : List (Nat × Nat)) (ps : List PV) : (List (Nat × Bool × Nat × List (List PV)) → List PV → Prop) → Prop :=
  @List.rec PV (fun _ => (List (Nat × Bool × Nat × List (List PV)) → List PV → Prop) → Prop) (fun k => k [] [])
    (fun p _ R k => resEK c kb ki p fun ro q => R fun ro' qs => appK ro ro' fun ro'' => k ro'' (q :: qs)) ps
theorem resELK_cons (c : CSt) (kb ki : List (Nat × Nat)) (p : PV) (ps : List PV) (k : List (Nat × Bool × Nat × List (List PV)) → List PV → Prop) : resELK c kb ki (p :: ps) k = resEK c kb ki p fun ro q => resELK c kb ki ps fun ro' qs => appK ro ro' fun ro'' => k ro'' (q :: qs) := rfl

noncomputable def resEVK (c : CSt) (kb ki : List (Nat × Nat)) (p : PV) (k : List (Nat × Bool × Nat × List (List PV)) → PV → Prop) : Prop :=
  match p with
  | .ag ps => resELK c kb ki ps fun ro qs => k ro (.ag qs)
  | .cl f caps => resELK c kb ki caps fun ro qs => k ro (.cl f qs)
  | .cm f caps => resELK c kb ki caps fun ro qs => k ro (.cm f qs)
  | p => resEK c kb ki p k

noncomputable def resEAK (c : CSt) (kb ki : List (Nat × Nat)) (ps : List PV) : (List (Nat × Bool × Nat × List (List PV)) → List PV → Prop) → Prop :=
  @List.rec PV (fun _ => (List (Nat × Bool × Nat × List (List PV)) → List PV → Prop) → Prop) (fun k => k [] [])
    (fun p _ R k => resEVK c kb ki p fun ro q => R fun ro' qs => appK ro ro' fun ro'' => k ro'' (q :: qs)) ps
theorem resEAK_cons (c : CSt) (kb ki : List (Nat × Nat)) (p : PV) (ps : List PV) (k : List (Nat × Bool × Nat × List (List PV)) → List PV → Prop) : resEAK c kb ki (p :: ps) k = resEVK c kb ki p fun ro q => resEAK c kb ki ps fun ro' qs => appK ro ro' fun ro'' => k ro'' (q :: qs) := rfl

/-- The boxes that are handed in. -/
noncomputable def bxEK (c : CSt) (kb ki : List (Nat × Nat)) (l : List (Nat × Nat)) : (List (Nat × Bool × Nat × List (List PV)) → List (Nat × List PV) → List (Nat × List PV) → Prop) → Prop :=
  @List.rec (Nat × Nat) (fun _ => (List (Nat × Bool × Nat × List (List PV)) → List (Nat × List PV) → List (Nat × List PV) → Prop) → Prop) (fun k => k [] [] [])
    (fun p _ R k => match p with
      | (kk, K) => match lkA c.bx K with
        | some ls => resEAK c kb ki ls fun ro qs => R fun ro' rb bx => appK ro ro' fun ro'' => k ro'' ((K, ls) :: rb) ((kk, qs) :: bx)
        | none => False) l
theorem bxEK_cons (c : CSt) (kb ki : List (Nat × Nat)) (kk K : Nat) (l : List (Nat × Nat)) (k : List (Nat × Bool × Nat × List (List PV)) → List (Nat × List PV) → List (Nat × List PV) → Prop) : bxEK c kb ki ((kk, K) :: l) k = match lkA c.bx K with
  | some ls => resEAK c kb ki ls fun ro qs => bxEK c kb ki l fun ro' rb bx => appK ro ro' fun ro'' => k ro'' ((K, ls) :: rb) ((kk, qs) :: bx)
  | none => False := rfl

/-- The slices that are handed in. -/
noncomputable def obEK (c : CSt) (l : List (Nat × Nat)) : (List (Nat × Bool × Nat × List (List PV)) → List (Nat × Option (Bool × Nat × List (List PV))) → Prop) → Prop :=
  @List.rec (Nat × Nat) (fun _ => (List (Nat × Bool × Nat × List (List PV)) → List (Nat × Option (Bool × Nat × List (List PV))) → Prop) → Prop) (fun k => k [] [])
    (fun p _ R k => match p with
      | (kk, K) => match lkA c.ob K with
        | some (some (false, sz, rows)) => R fun rs ob => k ((K, false, sz, rows) :: rs) ((kk, some (false, sz, rows)) :: ob)
        | _ => False) l
theorem obEK_cons (c : CSt) (kk K : Nat) (l : List (Nat × Nat)) (k : List (Nat × Bool × Nat × List (List PV)) → List (Nat × Option (Bool × Nat × List (List PV))) → Prop) : obEK c ((kk, K) :: l) k = match lkA c.ob K with
  | some (some (false, sz, rows)) => obEK c l fun rs ob => k ((K, false, sz, rows) :: rs) ((kk, some (false, sz, rows)) :: ob)
  | _ => False := rfl

mutual
def shEK (kb ko : List (Nat × Nat)) (p : PV) (k : PV → Prop) : Prop :=
  match p with
  | .ag ps => shELK kb ko ps fun qs => k (.ag qs)
  | .tu ps => shELK kb ko ps fun qs => k (.tu qs)
  | .cl f ps => shELK kb ko ps fun qs => k (.cl f qs)
  | .cm f ps => shELK kb ko ps fun qs => k (.cm f qs)
  | .ow key lo len => lkOK ko key (fun K => k (.ow K lo len)) (k .bad)
  | .eo key i off => lkOK ko key (fun K => k (.eo K i off)) (k .bad)
  | .sc v => k (.sc v)
  | .sl sz rows => k (.sl sz rows)
  | .nl => k .nl
  | .pt key off => lkOK kb key (fun K => k (.pt K off)) (k .bad)
  | .bs key off len => lkOK kb key (fun K => k (.bs K off len)) (k .bad)
  | .ep sfx => k (.ep sfx)
  | .ub φ => k (.ub φ)
  | .nn kd => k (.nn kd)
  | .ls .. => k .bad
  | .lp .. => k .bad
  | .bad => k .bad
def shELK (kb ko : List (Nat × Nat)) (ps : List PV) (k : List PV → Prop) : Prop :=
  match ps with
  | [] => k []
  | p :: ps => shEK kb ko p fun q => shELK kb ko ps fun qs => k (q :: qs)
end

mutual
theorem shEK_eq (kb ko : List (Nat × Nat)) : ∀ (p : PV) (k : PV → Prop), shEK kb ko p k = k (shE kb ko p)
  | .ag ps, k => by simp [shEK, shE, shELK_eq kb ko ps]
  | .tu ps, k => by simp [shEK, shE, shELK_eq kb ko ps]
  | .cl f ps, k => by simp [shEK, shE, shELK_eq kb ko ps]
  | .cm f ps, k => by simp [shEK, shE, shELK_eq kb ko ps]
  | .ow key lo len, k => by simp only [shEK, shE, lkOK_eq]; cases lkA ko key <;> rfl
  | .eo key i off, k => by simp only [shEK, shE, lkOK_eq]; cases lkA ko key <;> rfl
  | .sc v, k => by simp [shEK, shE]
  | .sl sz rows, k => by simp [shEK, shE]
  | .nl, k => by simp [shEK, shE]
  | .pt key off, k => by simp only [shEK, shE, lkOK_eq]; cases lkA kb key <;> rfl
  | .bs key off len, k => by simp only [shEK, shE, lkOK_eq]; cases lkA kb key <;> rfl
  | .ep sfx, k => by simp [shEK, shE]
  | .ub φ, k => by simp [shEK, shE]
  | .nn kd, k => by simp [shEK, shE]
  | .ls .., k => by simp [shEK, shE]
  | .lp .., k => by simp [shEK, shE]
  | .bad, k => by simp [shEK, shE]
theorem shELK_eq (kb ko : List (Nat × Nat)) : ∀ (ps : List PV) (k : List PV → Prop), shELK kb ko ps k = k (shEL kb ko ps)
  | [], k => by simp [shELK, shEL]
  | p :: ps, k => by simp [shELK, shEL, shEK_eq kb ko p, shELK_eq kb ko ps]
end

def tkBK (kb ko : List (Nat × Nat)) (bx' : List (Nat × List PV)) (l : List (Nat × Nat)) (k : List (Nat × List PV) → Prop) : Prop :=
  match l with
  | [] => k []
  | (kk, K) :: r => lkOK bx' kk (fun ls => shELK kb ko ls fun ls' => tkBK kb ko bx' r fun w => k ((K, ls') :: w)) (tkBK kb ko bx' r k)
theorem tkBK_eq (kb ko : List (Nat × Nat)) (bx' : List (Nat × List PV)) : ∀ (l : List (Nat × Nat)) (k : List (Nat × List PV) → Prop), tkBK kb ko bx' l k = k (tkA (shEL kb ko) bx' l)
  | [], k => rfl
  | (kk, K) :: r, k => by
    simp only [tkBK, tkA, lkOK_eq, shELK_eq, tkBK_eq kb ko bx' r]
    cases lkA bx' kk <;> rfl

def tkOK (ob' : List (Nat × Option (Bool × Nat × List (List PV)))) (l : List (Nat × Nat)) (k : List (Nat × Option (Bool × Nat × List (List PV))) → Prop) : Prop :=
  match l with
  | [] => k []
  | (kk, K) :: r => lkOK ob' kk (fun o => tkOK ob' r fun w => k ((K, o) :: w)) (tkOK ob' r k)
theorem tkOK_eq (ob' : List (Nat × Option (Bool × Nat × List (List PV)))) : ∀ (l : List (Nat × Nat)) (k : List (Nat × Option (Bool × Nat × List (List PV))) → Prop), tkOK ob' l k = k (tkA (fun x => x) ob' l)
  | [], k => rfl
  | (kk, K) :: r, k => by
    simp only [tkOK, tkA, lkOK_eq, tkOK_eq ob' r]
    cases lkA ob' kk <;> rfl

def noneB {α : Type} : Option α → Bool
  | none => true
  | some _ => false

/-- Names of boxes that are there (from 1000000 on), and of new ones. -/
noncomputable def splitBK (l : List (Nat × Nat)) : (List (Nat × Nat) → List (Nat × Nat) → Prop) → Prop :=
  @List.rec (Nat × Nat) (fun _ => (List (Nat × Nat) → List (Nat × Nat) → Prop) → Prop) (fun k => k [] []) (fun p _ R k => R fun o n => match Nat.ble 1000000 p.1 with
    | true => k (p :: o) n
    | false => k o (p :: n)) l
theorem splitBK_sound : ∀ {l : List (Nat × Nat)} {k : List (Nat × Nat) → List (Nat × Nat) → Prop}, splitBK l k → ∃ o n, k o n
  | [], k, h => ⟨_, _, h⟩
  | p :: l, k, h => by
    have h : splitBK l fun o n => match Nat.ble 1000000 p.1 with
      | true => k (p :: o) n
      | false => k o (p :: n) := h
    obtain ⟨o, n, h⟩ := splitBK_sound h
    cases hb : Nat.ble 1000000 p.1 with
    | true => rw [hb] at h; exact ⟨_, _, h⟩
    | false => rw [hb] at h; exact ⟨_, _, h⟩

/-- What names must be, to be computed. -/
def namesB (c : CSt) (kb kc kbn ki kn ko : List (Nat × Nat)) (ro : List (Nat × Bool × Nat × List (List PV))) (ob' : List (Nat × Option (Bool × Nat × List (List PV)))) : Bool :=
  oneB kc && oneB ko && (kb.all fun p => Nat.ble 1000000 p.1) && (ki.all fun p => Nat.ble 1000000 p.1) && (kn.all fun p => noneB (lkA c.ob p.2)) && (ob'.all fun p => !noneB (lkA ko p.1)) && (ro.all fun q => ko.all fun p => !Nat.beq p.2 q.1) && (kbn.all fun p => noneB (lkA c.bx p.2))

/-- A call that writes what the caller owns: the user gives the names (boxes: those that are there from 1000000 on, else new ones; slices, new slices), then the contract. -/
noncomputable def callEK (P : Program) (c : CSt) (f : Nat) (ps : List PV) (kb0 ki kn : List (Nat × Nat)) (k : Eff → Prop) : Prop :=
  splitBK kb0 fun kb kbn => okK (oneB kb && oneB ki) (resEAK c kb ki ps fun ro qs => bxEK c kb ki kb fun ro' rb bx => obEK c ki fun rs ob => appK ro ro' fun ro => appK ki kn fun ko => appK kb kbn fun kc =>
    ∃ r bx' ob', CtrE P f qs bx ob r bx' ob' ∧ okK (namesB c kb kc kbn ki kn ko ro ob') (shEK kc ko r fun r' => tkBK kc ko bx' kc fun wb => tkOK ob' ko fun wo => appK ro rs fun rr => mapK (fun (p : Nat × Nat) k => k p.2) kn fun fo => mapK (fun (p : Nat × Nat) k => k p.2) kbn fun fb => mapK (fun (q : Nat × Bool × Nat × List (List PV)) k => match q with | (j, _, x) => k (j, some (true, x))) ro fun fr => appK wo fr fun wo => k ⟨r', rb, rr, fb, fo, wb, wo⟩))

theorem resEK_sound {c : CSt} {kb ki : List (Nat × Nat)} (h1 : oneB kb = true) (h2 : oneB ki = true) {p : PV} {k : List (Nat × Bool × Nat × List (List PV)) → PV → Prop} (h : resEK c kb ki p k) : ∃ ro q, ResE kb ki ro p q ∧ OkO c ro ∧ k ro q := by
  unfold resEK at h
  split at h
  · exact ⟨[], _, by simp [ResE], by simp [OkO], h⟩
  · exact ⟨[], _, by simp [ResE], by simp [OkO], h⟩
  · exact ⟨[], _, by simp [ResE], by simp [OkO], h⟩
  · exact ⟨[], _, by simp [ResE], by simp [OkO], h⟩
  · rcases rvK_sound h with ⟨kk, hm, h⟩ | h
    · exact ⟨[], _, by simp only [ResE]; exact .inl ⟨kk, oneB_lk h2 hm, rfl⟩, by simp [OkO], h⟩
    · split at h
      · rename_i fz sz all hk
        obtain ⟨hle, h⟩ := h
        exact ⟨_, _, by simp only [ResE]; exact .inr ⟨fz, sz, all, by simp, hle, rfl⟩, by simp [OkO, hk], h⟩
      · exact h.elim
  · rcases rvK_sound h with ⟨kk, hm, h⟩ | h
    · exact ⟨[], _, by simp only [ResE]; exact ⟨kk, oneB_lk h2 hm, rfl⟩, by simp [OkO], h⟩
    · exact h.elim
  · rcases rvK_sound h with ⟨kk, hm, h⟩ | h
    · exact ⟨[], _, by simp only [ResE]; exact ⟨kk, oneB_lk h1 hm, rfl⟩, by simp [OkO], h⟩
    · exact h.elim
  · rcases rvK_sound h with ⟨kk, hm, h⟩ | h
    · exact ⟨[], _, by simp only [ResE]; exact ⟨kk, oneB_lk h1 hm, rfl⟩, by simp [OkO], h⟩
    · exact h.elim
  · exact h.elim

mutual
theorem ResE.mono {kb ki : List (Nat × Nat)} {ro ro' : List (Nat × Bool × Nat × List (List PV))} (ho : ∀ x ∈ ro, x ∈ ro') : ∀ (p q : PV), ResE kb ki ro p q → ResE kb ki ro' p q
  | .ow k lo len, q, h => by
    simp only [ResE] at h ⊢
    rcases h with h | ⟨fz, sz, all, h1, h2⟩
    · exact .inl h
    · exact .inr ⟨fz, sz, all, ho _ h1, h2⟩
  | .pt k off, q, h => by simpa only [ResE] using h
  | .bs k off len, q, h => by simpa only [ResE] using h
  | .ag ps, q, h => by simp only [ResE] at h ⊢; obtain ⟨qs, h1, h2⟩ := h; exact ⟨qs, h1, ResEL.mono ho ps qs h2⟩
  | .tu ps, q, h => by simp only [ResE] at h ⊢; obtain ⟨qs, h1, h2⟩ := h; exact ⟨qs, h1, ResEL.mono ho ps qs h2⟩
  | .cl f ps, q, h => by simp only [ResE] at h ⊢; obtain ⟨qs, h1, h2⟩ := h; exact ⟨qs, h1, ResEL.mono ho ps qs h2⟩
  | .cm f ps, q, h => by simp only [ResE] at h ⊢; obtain ⟨qs, h1, h2⟩ := h; exact ⟨qs, h1, ResEL.mono ho ps qs h2⟩
  | .sc v, q, h => by simpa only [ResE] using h
  | .sl sz rows, q, h => by simpa only [ResE] using h
  | .nl, q, h => by simpa only [ResE] using h
  | .ep s, q, h => by simpa only [ResE] using h
  | .eo .., q, h => by simpa only [ResE] using h
  | .ub φ, q, h => by simpa only [ResE] using h
  | .nn kd, q, h => by simpa only [ResE] using h
  | .ls .., q, h => by simp [ResE] at h
  | .lp .., q, h => by simp [ResE] at h
  | .bad, q, h => by simpa only [ResE] using h
theorem ResEL.mono {kb ki : List (Nat × Nat)} {ro ro' : List (Nat × Bool × Nat × List (List PV))} (ho : ∀ x ∈ ro, x ∈ ro') : ∀ (ps qs : List PV), ResEL kb ki ro ps qs → ResEL kb ki ro' ps qs
  | [], qs, h => by simpa only [ResEL] using h
  | p :: ps, qs, h => by
    simp only [ResEL] at h ⊢
    obtain ⟨q, r, e, h1, h2⟩ := h
    exact ⟨q, r, e, ResE.mono ho p q h1, ResEL.mono ho ps r h2⟩
end

theorem resELK_sound {c : CSt} {kb ki : List (Nat × Nat)} (h1 : oneB kb = true) (h2 : oneB ki = true) : ∀ {ps : List PV} {k : List (Nat × Bool × Nat × List (List PV)) → List PV → Prop}, resELK c kb ki ps k → ∃ ro qs, ResEL kb ki ro ps qs ∧ OkO c ro ∧ k ro qs
  | [], k, h => ⟨[], [], by simp [ResEL], by simp [OkO], h⟩
  | p :: ps, k, h => by
    rw [resELK_cons] at h
    obtain ⟨ro, q, g1, g3, h⟩ := resEK_sound h1 h2 h
    obtain ⟨ro', qs, g4, g6, h⟩ := resELK_sound h1 h2 h
    simp only [appK_eq] at h
    refine ⟨_, _, ?_, ?_, h⟩
    · simp only [ResEL]
      exact ⟨q, qs, rfl, ResE.mono (by simp +contextual) _ _ g1, ResEL.mono (by simp +contextual) _ _ g4⟩
    · intro x hx; rcases List.mem_append.1 hx with hx | hx; exact g3 x hx; exact g6 x hx

theorem resEVK_sound {c : CSt} {kb ki : List (Nat × Nat)} (h1 : oneB kb = true) (h2 : oneB ki = true) {p : PV} {k : List (Nat × Bool × Nat × List (List PV)) → PV → Prop} (h : resEVK c kb ki p k) : ∃ ro q, ResE kb ki ro p q ∧ OkO c ro ∧ k ro q := by
  unfold resEVK at h
  split at h
  · obtain ⟨ro, qs, g1, g3, h⟩ := resELK_sound h1 h2 h
    exact ⟨ro, _, by simp only [ResE]; exact ⟨qs, rfl, g1⟩, g3, h⟩
  · obtain ⟨ro, qs, g1, g3, h⟩ := resELK_sound h1 h2 h
    exact ⟨ro, _, by simp only [ResE]; exact ⟨qs, rfl, g1⟩, g3, h⟩
  · obtain ⟨ro, qs, g1, g3, h⟩ := resELK_sound h1 h2 h
    exact ⟨ro, _, by simp only [ResE]; exact ⟨qs, rfl, g1⟩, g3, h⟩
  · exact resEK_sound h1 h2 h

theorem resEAK_sound {c : CSt} {kb ki : List (Nat × Nat)} (h1 : oneB kb = true) (h2 : oneB ki = true) : ∀ {ps : List PV} {k : List (Nat × Bool × Nat × List (List PV)) → List PV → Prop}, resEAK c kb ki ps k → ∃ ro qs, ResEL kb ki ro ps qs ∧ OkO c ro ∧ k ro qs
  | [], k, h => ⟨[], [], by simp [ResEL], by simp [OkO], h⟩
  | p :: ps, k, h => by
    rw [resEAK_cons] at h
    obtain ⟨ro, q, g1, g3, h⟩ := resEVK_sound h1 h2 h
    obtain ⟨ro', qs, g4, g6, h⟩ := resEAK_sound h1 h2 h
    simp only [appK_eq] at h
    refine ⟨_, _, ?_, ?_, h⟩
    · simp only [ResEL]
      exact ⟨q, qs, rfl, ResE.mono (by simp +contextual) _ _ g1, ResEL.mono (by simp +contextual) _ _ g4⟩
    · intro x hx; rcases List.mem_append.1 hx with hx | hx; exact g3 x hx; exact g6 x hx

theorem bxEK_sound {c : CSt} {kb ki : List (Nat × Nat)} (h1 : oneB kb = true) (h2 : oneB ki = true) : ∀ {l : List (Nat × Nat)} {k : List (Nat × Bool × Nat × List (List PV)) → List (Nat × List PV) → List (Nat × List PV) → Prop}, bxEK c kb ki l k → ∃ ro rb bx,
    (∀ kk ls', lkA bx kk = some ls' → ∃ K ls, (kk, K) ∈ l ∧ (K, ls) ∈ rb ∧ ResEL kb ki ro ls ls') ∧ (∀ kk K, (kk, K) ∈ l → ∃ ls, lkA bx kk = some ls) ∧ OkB c rb ∧ OkO c ro ∧ k ro rb bx
  | [], k, h => ⟨[], [], [], by simp [lkA], by simp, by simp [OkB], by simp [OkO], h⟩
  | (kk, K) :: l, k, h => by
    rw [bxEK_cons] at h
    split at h
    · rename_i ls hls
      obtain ⟨ro, qs, g1, g2, h⟩ := resEAK_sound h1 h2 h
      obtain ⟨ro', rb, bx, g3, g4, g5, g6, h⟩ := bxEK_sound h1 h2 h
      simp only [appK_eq] at h
      refine ⟨_, _, _, ?_, ?_, ?_, ?_, h⟩
      · intro j ls' hj
        simp only [lkA] at hj
        by_cases e : kk = j
        · subst e
          simp only [Nat.beq_refl, cond_true, Option.some.injEq] at hj
          subst hj
          exact ⟨K, ls, by simp, by simp, ResEL.mono (by simp +contextual) _ _ g1⟩
        · rw [beq_ne e] at hj
          obtain ⟨K', l2, a1, a2, a3⟩ := g3 j ls' hj
          exact ⟨K', l2, by simp [a1], by simp [a2], ResEL.mono (by simp +contextual) _ _ a3⟩
      · intro j J hj
        simp only [lkA]
        by_cases e : kk = j
        · subst e; exact ⟨qs, by simp⟩
        · rw [beq_ne e]
          rcases List.mem_cons.1 hj with hj | hj
          · cases hj; exact absurd rfl e
          · exact g4 j J hj
      · intro q hq
        rcases List.mem_cons.1 hq with rfl | hq
        · exact hls
        · exact g5 q hq
      · intro x hx; rcases List.mem_append.1 hx with hx | hx; exact g2 x hx; exact g6 x hx
    · exact h.elim

theorem obEK_sound {c : CSt} : ∀ {l : List (Nat × Nat)} {k : List (Nat × Bool × Nat × List (List PV)) → List (Nat × Option (Bool × Nat × List (List PV))) → Prop}, obEK c l k → ∃ rs ob,
    (∀ kk o, lkA ob kk = some o → ∃ K sz rows, (kk, K) ∈ l ∧ (K, false, sz, rows) ∈ rs ∧ o = some (false, sz, rows)) ∧ (∀ kk K, (kk, K) ∈ l → ∃ o, lkA ob kk = some o) ∧ OkO c rs ∧ k rs ob
  | [], k, h => ⟨[], [], by simp [lkA], by simp, by simp [OkO], h⟩
  | (kk, K) :: l, k, h => by
    rw [obEK_cons] at h
    split at h
    · rename_i sz rows hls
      obtain ⟨rs, ob, g3, g4, g5, h⟩ := obEK_sound h
      refine ⟨_, _, ?_, ?_, ?_, h⟩
      · intro j o hj
        simp only [lkA] at hj
        by_cases e : kk = j
        · subst e
          simp only [Nat.beq_refl, cond_true, Option.some.injEq] at hj
          exact ⟨K, sz, rows, by simp, by simp, hj.symm⟩
        · rw [beq_ne e] at hj
          obtain ⟨K', s2, l2, a1, a2, a3⟩ := g3 j o hj
          exact ⟨K', s2, l2, by simp [a1], by simp [a2], a3⟩
      · intro j J hj
        simp only [lkA]
        by_cases e : kk = j
        · subst e; exact ⟨_, by simp; rfl⟩
        · rw [beq_ne e]
          rcases List.mem_cons.1 hj with hj | hj
          · cases hj; exact absurd rfl e
          · exact g4 j J hj
      · intro q hq
        rcases List.mem_cons.1 hq with rfl | hq
        · exact hls
        · exact g5 q hq
    · exact h.elim

theorem callEK_sound {P : Program} {c : CSt} {o : Oper} {cl : Call} {f : Nat} {ps : List PV} {kb0 ki kn : List (Nat × Nat)} {k : Eff → Prop} (ho : o.op = .call cl) (hc : callee c.tm cl.callee cl.args.toList = some (f, ps)) (h : callEK P c f ps kb0 ki kn k) : ∃ E, OpSem P o E c.tm ∧ Sat c.st E ∧ k E := by
  unfold callEK at h
  obtain ⟨kb, kbn, h⟩ := splitBK_sound h
  obtain ⟨h12, h⟩ := okK_iff h
  rw [Bool.and_eq_true] at h12
  obtain ⟨h1, h2⟩ := h12
  obtain ⟨ro, qs, g1, g2, h⟩ := resEAK_sound h1 h2 h
  obtain ⟨ro', rb, bx, g3, g4, g5, g6, h⟩ := bxEK_sound h1 h2 h
  obtain ⟨rs, ob, g7, g8, g9, h⟩ := obEK_sound h
  rw [appK_eq, appK_eq, appK_eq] at h
  obtain ⟨r, bx', ob', hs, h⟩ := h
  obtain ⟨hnm, h⟩ := okK_iff h
  rw [shEK_eq, tkBK_eq, tkOK_eq, appK_eq, mapK_eq _ (fun p : Nat × Nat => p.2) (fun _ _ => rfl), mapK_eq _ (fun p : Nat × Nat => p.2) (fun _ _ => rfl), mapK_eq _ (fun q : Nat × Bool × Nat × List (List PV) => (q.1, some (true, q.2.2))) (fun _ _ => rfl), appK_eq] at h
  unfold namesB at hnm
  simp only [Bool.and_eq_true, List.all_eq_true] at hnm
  obtain ⟨⟨⟨⟨⟨⟨⟨n1, n2⟩, n3⟩, n4⟩, n5⟩, n6⟩, n7⟩, n8⟩ := hnm
  refine ⟨_, os_callE (kb := kb) (kbn := kbn) (ki := ki) (kn := kn) (ro := ro ++ ro') (rs := rs) (rb := rb) ho hc (ResEL.mono (by simp +contextual) _ _ g1) hs n1 n2 (by rw [List.all_eq_true]; exact n3) (by rw [List.all_eq_true]; exact n4) ?_ ?_ ?_ ?_ ?_ ?_, ⟨g5, ?_, ?_, ?_⟩, h⟩
  · intro kk ls' hk
    obtain ⟨K, ls, a1, a2, a3⟩ := g3 kk ls' hk
    exact ⟨K, ls, oneB_lk h1 a1, a2, ResEL.mono (by simp +contextual) _ _ a3⟩
  · intro kk K hk; exact g4 kk K (lkA_mem' hk)
  · intro kk o hk
    obtain ⟨K, sz, rows, a1, a2, a3⟩ := g7 kk o hk
    exact ⟨K, sz, rows, oneB_lk h2 a1, a2, a3⟩
  · intro kk K hk; exact g8 kk K (lkA_mem' hk)
  · intro kk o' hk
    have := n6 (kk, o') (lkA_mem' hk)
    cases hl : lkA (ki ++ kn) kk with
    | none => simp [hl, noneB] at this
    | some K => exact ⟨K, rfl⟩
  · intro q hq p hp e
    have := n7 q hq p hp
    rw [e] at this; simp at this
  · intro x hx
    rcases List.mem_append.1 hx with hx | hx
    · rcases List.mem_append.1 hx with hx | hx
      · exact g2 x hx
      · exact g6 x hx
    · exact g9 x hx
  · intro K hK
    obtain ⟨p, hp, rfl⟩ := List.mem_map.1 hK
    have := n8 p hp
    show lkA c.bx p.2 = none
    cases hl : lkA c.bx p.2 with
    | none => rfl
    | some x => rw [hl] at this; simp [noneB] at this
  · intro K hK
    obtain ⟨p, hp, rfl⟩ := List.mem_map.1 hK
    have := n5 p hp
    show lkA c.ob p.2 = none
    cases hl : lkA c.ob p.2 with
    | none => rfl
    | some x => rw [hl] at this; simp [noneB] at this

/-- A call that was handed the caller's own and changed nothing. -/
def roB (kn : List (Nat × Nat)) : Bool := match kn with
  | (k, _) :: _ => Nat.beq k 999999
  | [] => false
def readK (k : Eff → Prop) : Eff → Prop
  | ⟨v, rb, ro, fb, fo, wb, wo⟩ => (wb = rb ∧ wo = ro.map fun q => (q.1, some q.2)) ∧ k ⟨v, rb, ro, fb, fo, [], []⟩
theorem upd_same {α : Type} {f : Nat → Option α} {l : List (Nat × α)} (h : ∀ p ∈ l, f p.1 = some p.2) : upd f l = f := by
  funext k
  unfold upd
  split
  · rename_i p hp
    have h1 := List.mem_of_find?_eq_some hp
    have h2 := List.find?_some hp
    rw [← h p h1]
    congr 1
    exact (by simpa using h2)
  · rfl
theorem opSem_read {P : Program} {o : Oper} {v : PV} {rb : List (Nat × List PV)} {ro : List (Nat × Bool × Nat × List (List PV))} {fb fo : List Nat} {ts : List PV} (h : OpSem P o ⟨v, rb, ro, fb, fo, rb, ro.map fun q => (q.1, some q.2)⟩ ts) : OpSem P o ⟨v, rb, ro, fb, fo, [], []⟩ ts := by
  intro w0 X S0 M s a w Q K hr hl hs hk
  refine h w0 X S0 M s a w Q K hr hl hs ?_
  intro M' a' w' hr'
  refine hk M' a' w' ?_
  unfold St.apply at hr' ⊢
  have e1 : upd s.B rb = s.B := upd_same hs.1
  have e2 : upd s.O (ro.map fun q => (q.1, some q.2)) = s.O := upd_same (fun p hp => by
    obtain ⟨q, hq, rfl⟩ := List.mem_map.1 hp
    exact hs.2.1 q hq)
  simp only at hr' ⊢
  rw [e1, e2] at hr'
  exact hr'

/-- A call. The user says which: none: it writes nothing of the caller's; or the names. -/
noncomputable def callK (P : Program) (c : CSt) (d : Option Nat) (f : Nat) (ps : List PV) (k : Eff → Prop) : Prop :=
  ∃ m : Option (List (Nat × Nat) × List (Nat × Nat) × List (Nat × Nat)), match m with
    | none => callPK P c d f ps k
    | some (kb, ki, kn) => match roB kn with
      | true => callEK P c f ps kb ki [] (readK k)
      | false => callEK P c f ps kb ki kn k

noncomputable def builtinK (P : Program) (c : CSt) (d : Option Nat) (b : Builtin) (args : List Operand) (tys : List TypeId) (k : Eff → Prop) : Prop :=
  match b, args, tys with
  | .len, [x], [t] => evK c.tm x fun p => match P.underlying t with
    | some (.slice _) => match p with
      | .sl _ rows => k (vE (.sc (.int .i64 rows.length)))
      | .nl => k (vE (.sc (.int .i64 (0 : Nat))))
      | .ow _ _ n => k (vE (.sc (.int .i64 n)))
      | .ls _ rows => k (vE (.sc (.int .i64 rows.length)))
      | .bs _ _ n => k (vE (.sc (.int .i64 n)))
      | _ => False
    | some .string => match p with
      | .sc (.string s) => k (vE (.sc (.int .i64 s.size)))
      | _ => False
    | _ => False
  | .max, [x, y], _ => evK c.tm x fun p => evK c.tm y fun q => match p, q with
    | .sc (.int kk m), .sc (.int _ n) => k (vE (.sc (.int kk (if n > m then n else m))))
    | _, _ => False
  | .min, [x, y], _ => evK c.tm x fun p => evK c.tm y fun q => match p, q with
    | .sc (.int kk m), .sc (.int _ n) => k (vE (.sc (.int kk (if n < m then n else m))))
    | .sc (.float .f64 a), .sc (.float .f64 b) => match FloatKind.f64.format.order a b with
      | some q => k (vE (.sc (.float .f64 (fminW q a b))))
      | none => False
    | _, _ => False
  | .clear, [x], [t] => evK c.tm x fun p => match P.underlying t with
    | some (.slice e) => match P.info? e with
      | some inf => match inf.zero with
        | some z => zlK z.cells.toList fun zs => okK (Nat.beq z.cells.size inf.size && zs.all leaf1) (match p with
          | .ow key lo len => match lkA c.ob key with
            | some (some (false, sz, all)) => (inf.size = sz ∧ lo + len ≤ all.length) ∧ k ⟨.tu [], [], [(key, false, sz, all)], [], [], [], [(key, some (false, sz, all.take lo ++ List.replicate len (List.replicate sz .bad) ++ all.drop (lo + len)))]⟩
            | _ => False
          | _ => False)
        | none => False
      | none => False
    | _ => False
  | .append, [x, y], [t, t'] => match d with
    | none => False
    | some d => okK (Nat.beq t t') (evK c.tm x fun p => evK c.tm y fun q => match P.underlying t with
      | some (.slice e) => match P.info? e with
        | some inf => match inf.zero with
          | some z => okK (Nat.beq z.cells.size inf.size) (match p with
            | .nl => srcK c q inf.size fun ro rows => ((rows.length * inf.bytes ≤ 140737488355328 ∧ rows.length ≤ maxLen) ∧ lkA c.ob (d * 16) = none) ∧ k ⟨.ow (d * 16) 0 rows.length, [], ro, [], [d * 16], [], [(d * 16, some (false, inf.size, rows))]⟩
            | .ow key 0 len => match lkA c.ob key with
              | some (some (false, sz, all)) => srcK c q inf.size fun ro rows => ((sz = inf.size ∧ len ≤ all.length ∧ (len + rows.length) * inf.bytes ≤ 140737488355328 ∧ len + rows.length ≤ maxLen ∧ ∀ r ∈ rows, r.all leaf1 = true) ∧ d * 16 ≠ key ∧ lkA c.ob (d * 16) = none) ∧ k ⟨.ow (d * 16) 0 (len + rows.length), [], (key, false, inf.size, all) :: ro, [], [d * 16], [], [(key, none), (d * 16, some (false, inf.size, all.take len ++ rows))]⟩
              | _ => False
            | _ => False)
          | none => False
        | none => False
      | _ => False)
  | _, _, _ => False

/-- A key that is free: the slot's own number, or one far off. -/
def freshL {α : Type} (bx : List (Nat × α)) (d : Nat) : List Nat → (Nat → Prop) → Prop
  | [], _ => False
  | j :: js, k => match lkA bx (d + 1000 * j) with
    | none => k (d + 1000 * j)
    | some _ => freshL bx d js k
def freshK {α : Type} (bx : List (Nat × α)) (d : Nat) (k : Nat → Prop) : Prop :=
  match lkA bx d with
  | none => k d
  | some _ => freshL bx d [1, 2, 3, 4, 5, 6, 7, 8, 9, 10, 11, 12, 13, 14, 15, 16, 17, 18, 19, 20, 21, 22, 23, 24, 25, 26, 27, 28, 29, 30, 31, 32] k
theorem freshL_sound {α : Type} {bx : List (Nat × α)} {d : Nat} {k : Nat → Prop} : ∀ {js : List Nat}, freshL bx d js k → ∃ n, lkA bx n = none ∧ k n
  | [], h => h.elim
  | j :: js, h => by
    unfold freshL at h
    split at h
    · rename_i e; exact ⟨_, e, h⟩
    · exact freshL_sound h
theorem freshK_sound {α : Type} {bx : List (Nat × α)} {d : Nat} {k : Nat → Prop} (h : freshK bx d k) : ∃ n, lkA bx n = none ∧ k n := by
  unfold freshK at h
  split at h
  · rename_i e; exact ⟨_, e, h⟩
  · exact freshL_sound h

/-- Is an operand the literal nil of a slice? -/
def isNilC : Operand → Bool
  | .const (.slice none 0 0) => true
  | _ => false

theorem isNilC_eq {x : Operand} (h : isNilC x = true) : x = .const (.slice none 0 0) := by
  unfold isNilC at h
  split at h
  · rfl
  · cases h

/-- A slice compared with nil. -/
def nilK (P : Program) (op : BinOp) (t : TypeId) (p : PV) (k : PV → Prop) : Prop :=
  match op, P.underlying t with
  | .eql, some (.slice _) => match p with
    | .sl _ rows => k (.ub (rows = []))
    | .ow _ _ len => k (.ub (len = 0))
    | .nl => k (.ub True)
    | .sc (.slice none 0 0) => k (.sc (.bool true))
    | _ => False
  | .neq, some (.slice _) => match p with
    | .sl _ rows => rows ≠ [] ∧ k (.sc (.bool true))
    | .ow _ _ len => 0 < len ∧ k (.sc (.bool true))
    | .sc (.slice none 0 0) => k (.sc (.bool false))
    | _ => False
  | _, _ => False

noncomputable def opE (P : Program) (c : CSt) (o : Oper) (k : Eff → Prop) : Prop :=
  match o.op with
  | .move x => evK c.tm x fun p => k (vE p)
  | .assign x => evK c.tm x fun p => k (vE p)
  | .pick q x y => evK c.tm q fun p => match p with
    | .sc (.bool b) => splitK b fun b => match b with
      | true => evK c.tm x fun p => k (vE p)
      | false => evK c.tm y fun p => k (vE p)
    | _ => False
  | .binOp op t x y _ => match isNilC y with
    | true => evK c.tm x fun p => nilK P op t p fun r => k (vE r)
    | false => evK c.tm x fun p => evK c.tm y fun q => binK P op t p q fun r => k (vE r)
  | .unOp op _ x => evK c.tm x fun p => match p with
    | .sc u => match pun op u with
      | some r => k (vE (.sc r))
      | none => False
    | _ => False
  | .convert src dst x => evK c.tm x fun p => match p, P.underlying src, P.underlying dst with
    | .sc (.int _ n), some _, some (.int kk) => k (vE (.sc (.int kk (kk.wrap n))))
    | .sc (.int _ n), some _, some (.float kk) => k (vE (.sc (.float kk (kk.nearest n))))
    | _, _, _ => False
  | .box _ x => match o.dst with
    | some d => evK c.tm x fun p => lvK p fun ls => okK (ls.all leaf1) (freshK c.bx d fun d => k ⟨.pt d 0, [], [], [d], [], [(d, ls)], []⟩)
    | none => False
  | .alloc t => match o.dst with
    | some d => match P.info? t with
      | some inf => match inf.zero with
        | some z => zlK z.cells.toList fun ls => freshK c.bx d fun d => k ⟨.pt d 0, [], [], [d], [], [(d, ls)], []⟩
        | none => False
      | none => False
    | none => False
  | .build t parts => match zeroT P t, placesOf P t with
    | some z, some place => zlK z.cells.toList fun zs => okK (zs.all leaf1) (partsK c.tm parts.toList fun ps => pfillK place zs ps fun ls => k (vE (.ag ls)))
    | _, _ => False
  | .buildSlice t len parts => match P.underlying t with
    | some (.slice e) => match P.info? e with
      | some inf => match len, parts.toList with
        | 0, [] => k (vE .nl)
        | len, pl => match inf.zero with
          | some z => okK (Nat.beq z.cells.size inf.size && Nat.blt 0 (len * inf.size) && Nat.ble (len * inf.size) 16777216) (zlK z.cells.toList fun zs => okK (zs.all leaf1) (repK len zs fun zz => partsK c.tm pl fun ps => pfillK (fun i => some (i * inf.size, inf.size)) zz ps fun ls => okK (Nat.beq ls.length (len * inf.size)) (match plainL ls with | true => chunkK inf.size len ls fun rows => k (vE (.sl inf.size rows)) | false => match len, o.dst with
            | 1, some d => freshK c.bx d fun d => k ⟨.bs d 0 1, [], [], [d], [], [(d, ls)], []⟩
            | len, _ => chunkK inf.size len ls fun rows => k (vE (.ls inf.size rows)))))
          | none => False
      | none => False
    | _ => False
  | .load t x => evK c.tm x fun p => match p with
    | .pt key off => match lkA c.bx key with
      | some ls => dropK off ls fun sfx => ldK P t sfx fun v => k ⟨v, [(key, ls)], [], [], [], [], []⟩
      | none => False
    | .ep sfx => ldK P t sfx fun v => k (vE v)
    | .lp sfx => ldK P t sfx fun v => k (vE v)
    | .eo key i off => match lkA c.ob key with
      | some (some (fz, sz, rows)) => ∃ row, rows[i]? = some row ∧ dropK off row fun sfx => ldK P t sfx fun v => k ⟨v, [], [(key, fz, sz, rows)], [], [], [], []⟩
      | _ => False
    | _ => False
  | .store t x y => evK c.tm x fun p => evK c.tm y fun q => lvK q fun ns => match P.info? t with
    | some inf => okK (ns.all leaf1 && Nat.beq ns.length inf.size) (match p with
      | .pt key off => match lkA c.bx key with
        | some ls => match isNilC y, ls with
          | true, [c0, c1, c2] => okK (Nat.beq inf.size 1 && Nat.ble (off + 1) 3) (spliceK [c0, c1, c2] off [.sc (.slice none 0 0)] fun ls' => k ⟨.bad, [(key, [c0, c1, c2])], [], [], [], [(key, ls')], []⟩)
          | _, ls => okK (Nat.ble (off + ns.length) ls.length) (spliceK ls off ns fun ls' => k ⟨.bad, [(key, ls)], [], [], [], [(key, ls')], []⟩)
        | none => False
      | .eo key i off => match lkA c.ob key with
        | some (some (false, sz, rows)) => okK (Nat.ble (off + ns.length) sz && plainL ns) (∃ row, rows[i]? = some row ∧ spliceK row off ns fun row' => k ⟨.bad, [], [(key, false, sz, rows)], [], [], [], [(key, some (false, sz, rows.set i row'))]⟩)
        | _ => False
      | _ => False)
    | none => False
  | .nilCheck x => evK c.tm x fun p => paddK p 0 fun _ => k (vE p)
  | .fieldAddr t x i => evK c.tm x fun p => fldK P t i fun off => paddK p off fun q => k (vE q)
  | .indexAddr t x y => evK c.tm x fun p => evK c.tm y fun q => match q with
    | .sc (.int _ n) => match P.underlying t with
      | some (.array len e) => match P.info? e with
        | some inf => (0 ≤ n ∧ n < (len : Int)) ∧ paddK p (n.toNat * inf.size) fun r => k (vE r)
        | none => False
      | some (.slice e) => match P.info? e with
        | some inf => match p with
          | .sl sz rows => okK (Nat.beq inf.size sz) (0 ≤ n ∧ ∃ row, rows[n.toNat]? = some row ∧ k (vE (.ep row)))
          | .ls sz rows => okK (Nat.beq inf.size sz) (0 ≤ n ∧ ∃ row, rows[n.toNat]? = some row ∧ k (vE (.lp row)))
          | .bs key off len => (0 ≤ n ∧ n < (len : Int)) ∧ k (vE (.pt key (off + n.toNat * inf.size)))
          | .ow key lo len => match lkA c.ob key with
            | some (some (fz, sz, rows)) => okK (Nat.beq inf.size sz) ((0 ≤ n ∧ n < (len : Int)) ∧ k ⟨.eo key (lo + n.toNat) 0, [], [(key, fz, sz, rows)], [], [], [], []⟩)
            | _ => False
          | _ => False
        | none => False
      | _ => False
    | _ => False
  | .slice t x lo hi mx => evK c.tm x fun p => match P.underlying t with
    | some (.slice e) => match P.info? e with
      | some inf => match mx with
        | none => match p with
          | .sl sz rows => okK (Nat.beq inf.size sz) (bndK c.tm lo 0 fun l => bndK c.tm hi rows.length fun h => (0 ≤ l ∧ l ≤ h ∧ h ≤ rows.length) ∧ k (vE (.sl sz ((rows.take h.toNat).drop l.toNat))))
          | .ow key lo0 len => match lkA c.ob key with
            | some (some (fz, sz, rows)) => okK (Nat.beq inf.size sz) (bndK c.tm lo 0 fun l => bndK c.tm hi len fun h => (0 ≤ l ∧ l ≤ h ∧ h ≤ (len : Int)) ∧ k ⟨.ow key (lo0 + l.toNat) (h.toNat - l.toNat), [], [(key, fz, sz, rows)], [], [], [], []⟩)
            | _ => False
          | .nl => bndK c.tm lo 0 fun l => bndK c.tm hi 0 fun h => (l = 0 ∧ h = 0) ∧ k (vE .nl)
          | _ => False
        | some z => match lo, hi with
          | none, some y => evK c.tm y fun q => evK c.tm z fun r => match q, r with
            | .sc (.int _ 0), .sc (.int _ 0) => match p with
              | .nl => k (vE .nl)
              | .sl _ _ => k (vE .nl)
              | .ow _ _ _ => k (vE .nl)
              | _ => False
            | _, _ => False
          | _, _ => False
      | none => False
    | some .string => match mx, p with
      | none, .sc (.string b) => bndK c.tm lo 0 fun l => bndK c.tm hi b.size fun h => (0 ≤ l ∧ l ≤ h ∧ h ≤ b.size) ∧ k (vE (.sc (.string (b.extract l.toNat h.toNat))))
      | _, _ => False
    | some (.array n e) => match lo, hi, mx with
      | none, none, none => match p with
        | .pt key off => match P.info? e with
          | some _ => okK (Nat.blt 0 n) (k (vE (.bs key off n)))
          | none => False
        | _ => False
      | _, _, _ => False
    | _ => False
  | .extract x i => evK c.tm x fun p => match p with
    | .tu ps => match ps[i]? with
      | some q => k (vE q)
      | none => False
    | _ => False
  | .index t x y => evK c.tm x fun p => evK c.tm y fun q => match q with
    | .sc (.int _ n) => match P.underlying t with
      | some (.array len e) => match P.info? e with
        | some inf => match p with
          | .ag ps => (0 ≤ n ∧ n < (len : Int)) ∧ dropK (n.toNat * inf.size) ps fun sfx => ldK P e sfx fun v => k (vE v)
          | _ => False
        | none => False
      | some .string => match p with
        | .sc (.string s) => 0 ≤ n ∧ ∃ b, s[n.toNat]? = some b ∧ k (vE (.sc (.int .u8 (b.toNat : Int))))
        | _ => False
      | _ => False
    | _ => False
  | .field t x i => evK c.tm x fun p => match p with
    | .ag ps => match P.underlying t with
      | some (.struct fs) => match fs.toList[i]? with
        | some ⟨_, ty, off, _, _, _, _⟩ => dropK off ps fun sfx => ldK P ty sfx fun v => k (vE v)
        | none => False
      | _ => False
    | _ => False
  | .makeFunc (.func f) fst caps => match fst.toList with
    | [] => evLK c.tm caps.toList fun ps => k (vE (.cl f ps))
    | x :: xs => match caps.toList with
      | [] => evLK c.tm (x :: xs) fun ps => k (vE (.cm f ps))
      | _ => False
  | .call ⟨.value f, args, _⟩ => evK c.tm f fun p => match p with
    | .cl g caps => evLK c.tm args.toList fun ps => appK ps caps fun ps => callK P c o.dst g ps k
    | .cm g caps => evLK c.tm args.toList fun ps => appK caps ps fun ps => callK P c o.dst g ps k
    | _ => False
  | .call ⟨.builtin b, args, tys⟩ => builtinK P c o.dst b args.toList tys.toList k
  | .makeSlice t x y => match o.dst with
    | some d => evK c.tm x fun p => evK c.tm y fun q => match p, q with
      | .sc (.int kl n), .sc (.int kc m) => match P.underlying t with
        | some (.slice e) => match P.info? e with
          | some inf => match inf.zero with
            | some z => match z.cells.toList with
              | [v] => okK (Nat.beq inf.size 1) (((n = m ∧ 0 ≤ n ∧ n.toNat * inf.bytes ≤ 140737488355328 ∧ n.toNat ≤ maxLen) ∧ lkA c.ob (d * 16) = none) ∧ k ⟨.ow (d * 16) 0 n.toNat, [], [], [], [d * 16], [], [(d * 16, some (false, inf.size, List.replicate n.toNat [.sc v]))]⟩)
              | _ => False
            | none => False
          | none => False
        | _ => False
      | _, _ => False
    | none => False
  | _ => False

theorem sat_empty (s : St) (p : PV) : Sat s (vE p) := by simp [Sat, vE]

theorem callK_sound {P : Program} {c : CSt} {o : Oper} {cl : Call} {f : Nat} {ps : List PV} {k : Eff → Prop} (ho : o.op = .call cl) (hc : callee c.tm cl.callee cl.args.toList = some (f, ps)) (h : callK P c o.dst f ps k) : ∃ E, OpSem P o E c.tm ∧ Sat c.st E ∧ k E := by
  obtain ⟨m, h⟩ := h
  split at h
  case h_2 kb ki kn =>
    cases hr : roB kn with
    | false => rw [hr] at h; exact callEK_sound ho hc h
    | true =>
      rw [hr] at h
      obtain ⟨⟨v, rb, ro, fb, fo, wb, wo⟩, e1, e2, e3⟩ := callEK_sound ho hc h
      obtain ⟨⟨rfl, rfl⟩, e3⟩ := e3
      exact ⟨_, opSem_read e1, e2, e3⟩
  unfold callPK at h
  obtain ⟨rb, ro, qs, h1, h2, h3, r, os, hs, h⟩ := resAK_sound h
  split at h
  · rename_i hsc
    exact ⟨_, os_callS ho hc h1 hs hsc, ⟨h2, h3, by simp, by simp⟩, h⟩
  · split at h
    · obtain ⟨n, _, h5, h6, h⟩ := h
      rw [shK_eq] at h
      exact ⟨_, os_callF (n := n) ho hc h1 hs h5, ⟨by simp, h3, by simp, fun x hx => by
        simp only [List.mem_map, List.mem_range] at hx
        obtain ⟨i, hi, rfl⟩ := hx
        exact h6 i hi⟩, h⟩
    · exact h.elim

theorem builtinK_sound {P : Program} {c : CSt} {o : Oper} {b : Builtin} {args : Array Operand} {tys : Array TypeId} {k : Eff → Prop} (ho : o.op = .call ⟨.builtin b, args, tys⟩) (h : builtinK P c o.dst b args.toList tys.toList k) : ∃ E, OpSem P o E c.tm ∧ Sat c.st E ∧ k E := by
  unfold builtinK at h
  split at h
  · rename_i x t ha ht
    have ea : args = #[x] := by apply Array.ext'; simpa using ha
    have et : tys = #[t] := by apply Array.ext'; simpa using ht
    subst ea et
    rw [evK_eq] at h
    split at h
    · rename_i e hu
      split at h
      · rename_i sz rows hp
        exact ⟨_, os_len ho hu hp (.inl ⟨_, _, rfl, rfl⟩), sat_empty _ _, h⟩
      · rename_i hp
        exact ⟨_, os_len ho hu hp (.inr (.inl ⟨rfl, rfl⟩)), sat_empty _ _, h⟩
      · rename_i hp
        exact ⟨_, os_len ho hu hp (.inr (.inr ⟨_, _, rfl⟩)), sat_empty _ _, h⟩
      · rename_i hp
        exact ⟨_, os_lenLs ho hu hp, sat_empty _ _, h⟩
      · rename_i hp
        exact ⟨_, os_lenBs ho hu hp, sat_empty _ _, h⟩
      · exact h.elim
    · rename_i hu
      split at h
      · rename_i s hp
        exact ⟨_, os_lenStr ho hu hp, sat_empty _ _, h⟩
      · exact h.elim
    · exact h.elim
  · rename_i x y ha
    have ea : args = #[x, y] := by apply Array.ext'; simpa using ha
    subst ea
    rw [evK_eq, evK_eq] at h
    split at h
    · rename_i hp hq
      exact ⟨_, os_max ho hp hq, sat_empty _ _, h⟩
    · exact h.elim
  · rename_i x y ha
    have ea : args = #[x, y] := by apply Array.ext'; simpa using ha
    subst ea
    rw [evK_eq, evK_eq] at h
    split at h
    · rename_i hp hq
      exact ⟨_, os_min ho hp hq, sat_empty _ _, h⟩
    · rename_i hp hq
      split at h
      · rename_i q ho2
        exact ⟨_, os_minF ho hp hq ho2, sat_empty _ _, h⟩
      · exact h.elim
    · exact h.elim
  · rename_i x t ha ht
    have ea : args = #[x] := by apply Array.ext'; simpa using ha
    have et : tys = #[t] := by apply Array.ext'; simpa using ht
    subst ea et
    rw [evK_eq] at h
    split at h
    · rename_i e hu
      split at h
      · rename_i inf hi
        split at h
        · rename_i z hz
          rw [zlK_eq] at h
          obtain ⟨h1, h⟩ := okK_iff h
          simp only [Bool.and_eq_true, Nat.beq_eq] at h1
          split at h
          · rename_i key lo len hp
            split at h
            · rename_i sz all hk
              obtain ⟨⟨e1, e2⟩, h⟩ := h
              exact ⟨_, os_clear ho hu hi hz h1.1 h1.2 hp e1 e2, ⟨by simp, by simp; exact hk, by simp, by simp⟩, h⟩
            · exact h.elim
          · exact h.elim
        · exact h.elim
      · exact h.elim
    · exact h.elim
  · rename_i x y t t' ha ht
    split at h
    · exact h.elim
    · rename_i d hd
      have ea : args = #[x, y] := by apply Array.ext'; simpa using ha
      have et : tys = #[t, t'] := by apply Array.ext'; simpa using ht
      subst ea et
      have g := (okK_iff h).2
      have htt : t = t' := Nat.eq_of_beq_eq_true (okK_iff h).1
      clear h
      subst htt
      rw [evK_eq, evK_eq] at g
      split at g
      · rename_i e hu
        split at g
        · rename_i inf hi
          split at g
          · rename_i z hz
            obtain ⟨hzs, g⟩ := okK_iff g
            have hzs : z.cells.size = inf.size := Nat.eq_of_beq_eq_true hzs
            split at g
            · rename_i hp
              obtain ⟨ro, rows, hs, hro, ⟨⟨h1, h2⟩, h3⟩, g⟩ := srcK_sound g
              exact ⟨_, os_appNl (d := d * 16) ho hu hi hz hzs hp rfl hs h1 h2, ⟨by simp, hro, by simp, by simp; exact h3⟩, g⟩
            · rename_i key len hp
              split at g
              · rename_i sz all hk
                obtain ⟨ro, rows, hs, hro, ⟨⟨e1, e2, e3, e4, e5⟩, e6, e7⟩, gg⟩ := srcK_sound g
                subst e1
                exact ⟨_, os_appOw (d := d * 16) ho hu hi hz hzs hp rfl hs e6 e2 e3 e4 e5, ⟨by simp, by
                  intro q hq
                  rcases List.mem_cons.1 hq with rfl | hq
                  · exact hk
                  · exact hro q hq, by simp, by simp; exact e7⟩, gg⟩
              · exact g.elim
            · exact g.elim
          · exact g.elim
        · exact g.elim
      · exact g.elim
  · exact h.elim

theorem binK_sound {P : Program} {c : CSt} {o : Oper} {op : BinOp} {t t' : TypeId} {x y : Operand} {k : PV → Prop} (ho : o.op = .binOp op t x y t') (h : binK P op t (aev c.tm x) (aev c.tm y) k) : ∃ r, OpSem P o (vE r) c.tm ∧ k r := by
  unfold binK at h
  split at h
  · rename_i u v hx hy
    split at h
    · rename_i r hr
      exact ⟨_, os_bin ho hx hy hr, h⟩
    · split at h
      · rename_i r m n hr
        exact ⟨_, os_div ho hx hy hr h.1.1 h.1.2, h.2⟩
      · split at h
        · exact ⟨_, os_eqBool ho (.inl rfl) h.1 hx hy, by simpa using h.2⟩
        · exact ⟨_, os_eqBool ho (.inr rfl) h.1 hx hy, by simpa using h.2⟩
        · obtain ⟨res, hr, h⟩ := fltK_sound h
          exact ⟨_, os_float ho hx hy hr, h⟩
        · exact h.elim
  · rename_i xs ys hx hy
    split at h
    · obtain ⟨h1, r, h2, h⟩ := h
      have := os_eqStruct (P := P) (o := o) (ts := c.tm) ho (.inl rfl) h1 hx hy h2
      exact ⟨_, this, by simpa using h⟩
    · obtain ⟨h1, r, h2, h⟩ := h
      have := os_eqStruct (P := P) (o := o) (ts := c.tm) ho (.inr rfl) h1 hx hy h2
      exact ⟨_, this, by simpa using h⟩
    · exact h.elim
  · unfold nanK at h
    obtain ⟨h1, h⟩ := okK_iff h
    simp only [Bool.and_eq_true] at h1
    split at h
    · rename_i r hr
      exact ⟨_, os_nan ho rfl rfl h1.1.1 h1.1.2 h1.2 hr, h⟩
    · exact h.elim

theorem nilK_sound {P : Program} {c : CSt} {o : Oper} {op : BinOp} {t t' : TypeId} {x y : Operand} {k : PV → Prop} (ho : o.op = .binOp op t x y t') (hn : isNilC y = true) (h : nilK P op t (aev c.tm x) k) : ∃ r, OpSem P o (vE r) c.tm ∧ k r := by
  have hy : y = .const (.slice none 0 0) := by
    unfold isNilC at hn
    split at hn
    · rfl
    · cases hn
  subst hy
  unfold nilK at h
  split at h
  · rename_i e hu
    split at h
    · rename_i sz rows hx
      exact ⟨_, os_eqNil ho hu hx (fun M w v a n cc hv e => by
        simp only [RV] at hv
        obtain ⟨a', n', c', e1, e2, e3, e4⟩ := hv
        rw [e] at e1; cases e1
        rcases e4 with e4 | ⟨b, off, cs, e5, _⟩
        · exact e4
        · cases e5) (fun M w v hv => by
        simp only [RV] at hv
        obtain ⟨a', n', c', e1, _⟩ := hv
        exact ⟨_, _, _, e1⟩), h⟩
    · rename_i key lo len hx
      exact ⟨_, os_eqNil ho hu hx (fun M w v a n cc hv e => by
        simp only [RV] at hv
        obtain ⟨L, hL, hc⟩ := hv
        rcases hc with ⟨_, h2, _⟩ | ⟨_, h2, a', h3, h4⟩
        · exact h2
        · rw [e] at h3
          by_cases hlt : lo < L.cap
          · have := h4 hlt; cases h3; cases this
          · cases h3; omega) (fun M w v hv => by
        simp only [RV] at hv
        obtain ⟨L, hL, hc⟩ := hv
        rcases hc with ⟨_, _, a, h3⟩ | ⟨_, _, a, h3, _⟩
        · exact ⟨_, _, _, h3⟩
        · exact ⟨_, _, _, h3⟩), h⟩
    · rename_i hx
      exact ⟨_, os_eqNil ho hu hx (fun _ _ _ _ _ _ _ _ => trivial) (fun M w v hv => by
        simp only [RV] at hv
        obtain ⟨a, h3⟩ := hv
        exact ⟨_, _, _, h3⟩), h⟩
    · rename_i hx
      exact ⟨_, os_cmpNil (b := true) ho (.inl rfl) hu hx (fun M w v hv => by simp only [RV] at hv; exact ⟨_, _, _, hv, rfl⟩), h⟩
    · exact h.elim
  · rename_i e hu
    split at h
    · rename_i sz rows hx
      exact ⟨_, os_cmpNil (b := false) ho (.inr rfl) hu hx (fun M w v hv => sl_some h.1 hv), h.2⟩
    · rename_i key lo len hx
      exact ⟨_, os_cmpNil (b := false) ho (.inr rfl) hu hx (fun M w v hv => ow_some h.1 hv), h.2⟩
    · rename_i hx
      exact ⟨_, os_cmpNil (b := true) ho (.inr rfl) hu hx (fun M w v hv => by simp only [RV] at hv; exact ⟨_, _, _, hv, rfl⟩), h⟩
    · exact h.elim
  · exact h.elim

theorem opE_sound {P : Program} {c : CSt} {o : Oper} {k : Eff → Prop} (h : opE P c o k) : ∃ E, OpSem P o E c.tm ∧ Sat c.st E ∧ k E := by
  unfold opE at h
  split at h
  · rename_i x ho
    rw [evK_eq] at h
    exact ⟨_, os_move ho, sat_empty _ _, h⟩
  · rename_i x ho
    rw [evK_eq] at h
    exact ⟨_, os_assign ho, sat_empty _ _, h⟩
  · rename_i q x y ho
    rw [evK_eq] at h
    split at h
    · rename_i b hb
      rw [splitK_eq] at h
      have := os_pick (P := P) (ts := c.tm) ho hb
      cases b
      · simp only [evK_eq] at h
        exact ⟨_, by simpa using this, sat_empty _ _, h⟩
      · simp only [evK_eq] at h
        exact ⟨_, by simpa using this, sat_empty _ _, h⟩
    · exact h.elim
  · rename_i op t x y t' ho
    split at h
    · rename_i hn
      rw [evK_eq] at h
      obtain ⟨r, h1, h2⟩ := nilK_sound ho hn h
      exact ⟨_, h1, sat_empty _ _, h2⟩
    · rw [evK_eq, evK_eq] at h
      obtain ⟨r, h1, h2⟩ := binK_sound ho h
      exact ⟨_, h1, sat_empty _ _, h2⟩
  · rename_i op t x ho
    rw [evK_eq] at h
    split at h
    · rename_i u hu
      split at h
      · rename_i r hr
        exact ⟨_, os_un ho hu hr, sat_empty _ _, h⟩
      · exact h.elim
    · exact h.elim
  · rename_i src dst x ho
    rw [evK_eq] at h
    split at h
    · rename_i kk n d kd hx hs hd
      exact ⟨_, os_convInt ho hs hd hx, sat_empty _ _, h⟩
    · rename_i kk n d kd hx hs hd
      exact ⟨_, os_convIF ho hs hd hx, sat_empty _ _, h⟩
    · exact h.elim
  · rename_i t x ho
    split at h
    · rename_i d hd
      rw [evK_eq, lvK_eq] at h
      obtain ⟨h1, h⟩ := okK_iff h
      obtain ⟨n, hn, h⟩ := freshK_sound h
      exact ⟨_, os_box (d := n) ho rfl h1, ⟨by simp, by simp, (by simp; exact hn), by simp⟩, h⟩
    · exact h.elim
  · rename_i t ho
    split at h
    · rename_i d hd
      split at h
      · rename_i inf hi
        split at h
        · rename_i z hz
          rw [zlK_eq] at h
          obtain ⟨n, hn, h⟩ := freshK_sound h
          exact ⟨_, os_alloc (d := n) ho hi hz, ⟨by simp, by simp, (by simp; exact hn), by simp⟩, h⟩
        · exact h.elim
      · exact h.elim
    · exact h.elim
  · rename_i t parts ho
    split at h
    · rename_i z place hz hp
      rw [zlK_eq] at h
      obtain ⟨h1, h⟩ := okK_iff h
      rw [partsK_eq] at h
      obtain ⟨ls, h2, h⟩ := pfillK_sound h
      exact ⟨_, os_build ho hz hp h1 h2, sat_empty _ _, h⟩
    · exact h.elim
  · rename_i t len parts ho
    split at h
    · rename_i e hu
      split at h
      · rename_i inf hi
        split at h
        · rename_i hpl
          have ep : parts = #[] := by apply Array.ext'; simpa using hpl
          subst ep
          exact ⟨_, os_buildNil ho hu hi, sat_empty _ _, h⟩
        · split at h
          · rename_i z hz
            obtain ⟨h1, h⟩ := okK_iff h
            rw [zlK_eq] at h
            obtain ⟨h2, h⟩ := okK_iff h
            rw [repK_eq, partsK_eq] at h
            obtain ⟨ls, h3, h⟩ := pfillK_sound h
            obtain ⟨h4, h⟩ := okK_iff h
            simp only [Bool.and_eq_true, Nat.beq_eq, Nat.ble_eq] at h1
            have h4 : ls.length = _ := Nat.eq_of_beq_eq_true h4
            split at h
            · rename_i hpl
              rw [chunkK_eq] at h
              exact ⟨_, os_buildSlice ho hu hi hz h1.1.1 (by have := h1.1.2; simp [Nat.blt] at this; omega) (by have := h1.2; omega) h2 h3 h4 hpl, sat_empty _ _, h⟩
            · split at h
              · obtain ⟨n, hn, h⟩ := freshK_sound h
                exact ⟨_, os_buildBox (d := n) ho hu hi hz h1.1.1 (by have := h1.1.2; simp [Nat.blt] at this; omega) (by have := h1.2; omega) h2 h3 h4, ⟨by simp, by simp, (by simp; exact hn), by simp⟩, h⟩
              · rw [chunkK_eq] at h
                exact ⟨_, os_buildSliceK ho hu hi hz h1.1.1 (by have := h1.1.2; simp [Nat.blt] at this; omega) (by have := h1.2; omega) h2 h3 h4, sat_empty _ _, h⟩
          · exact h.elim
      · exact h.elim
    · exact h.elim
  · rename_i t x ho
    rw [evK_eq] at h
    split at h
    · rename_i key off hx
      split at h
      · rename_i ls hk
        rw [dropK_eq] at h
        obtain ⟨d, inf, p, h1, h2, h3, h⟩ := ldK_sound h
        exact ⟨_, os_loadPt ho h1 h2 hx h3, ⟨by simp; exact hk, by simp, by simp, by simp⟩, h⟩
      · exact h.elim
    · rename_i sfx hx
      obtain ⟨d, inf, p, h1, h2, h3, h⟩ := ldK_sound h
      exact ⟨_, os_loadEp ho h1 h2 hx h3, sat_empty _ _, h⟩
    · rename_i sfx hx
      obtain ⟨d, inf, p, h1, h2, h3, h⟩ := ldK_sound h
      exact ⟨_, os_loadLp ho h1 h2 hx h3, sat_empty _ _, h⟩
    · rename_i key i off hx
      split at h
      · rename_i fz sz rows hk
        obtain ⟨row, hrow, h⟩ := h
        rw [dropK_eq] at h
        obtain ⟨d, inf, p, h1, h2, h3, h⟩ := ldK_sound h
        exact ⟨_, os_loadEo ho h1 h2 hx hrow h3, ⟨by simp, by simp; exact hk, by simp, by simp⟩, h⟩
      · exact h.elim
    · exact h.elim
  · rename_i t x y ho
    rw [evK_eq, evK_eq, lvK_eq] at h
    split at h
    · rename_i inf hi
      obtain ⟨h1, h⟩ := okK_iff h
      simp only [Bool.and_eq_true, Nat.beq_eq] at h1
      split at h
      · rename_i key off hx
        split at h
        · rename_i ls hk
          split at h
          · rename_i c0 c1 c2 hn
            obtain ⟨h2, g⟩ := okK_iff h
            simp only [Bool.and_eq_true, Nat.beq_eq, Nat.ble_eq] at h2
            rw [spliceK_eq] at g
            have hy := isNilC_eq hn
            rw [hy] at ho
            exact ⟨_, os_storeC (v0 := .slice none 0 0) (ls := [c0, c1, c2]) ho hi hx rfl h2.1.symm h2.2, ⟨by simp; exact hk, by simp, by simp, by simp⟩, g⟩
          · obtain ⟨h2, h⟩ := okK_iff h
            rw [spliceK_eq] at h
            exact ⟨_, os_storePt ho hi hx rfl h1.1 h1.2 (by simpa using h2), ⟨by simp; exact hk, by simp, by simp, by simp⟩, h⟩
        · exact h.elim
      · rename_i key i off hx
        split at h
        · rename_i sz rows hk
          obtain ⟨h2, row, hrow, h⟩ := okK_iff h
          simp only [Bool.and_eq_true, Nat.ble_eq] at h2
          rw [spliceK_eq] at h
          exact ⟨_, os_storeEo ho hi hx rfl h1.1 h1.2 hrow h2.1 h2.2, ⟨by simp, by simp; exact hk, by simp, by simp⟩, h⟩
        · exact h.elim
      · exact h.elim
    · exact h.elim
  · rename_i x ho
    rw [evK_eq] at h
    obtain ⟨q, h1, h⟩ := paddK_sound h
    exact ⟨_, os_nilCheck ho rfl h1, sat_empty _ _, h⟩
  · rename_i t x i ho
    rw [evK_eq] at h
    obtain ⟨fs, f, inf, h1, h2, h3, h4, h⟩ := fldK_sound h
    obtain ⟨q, h5, h⟩ := paddK_sound h
    exact ⟨_, os_fieldAddr ho h1 h2 h3 h4 rfl h5, sat_empty _ _, h⟩
  · rename_i t x y ho
    rw [evK_eq, evK_eq] at h
    split at h
    · rename_i kk n hy
      split at h
      · rename_i len e hu
        split at h
        · rename_i inf hi
          obtain ⟨⟨h1, h2⟩, h⟩ := h
          obtain ⟨q, h5, h⟩ := paddK_sound h
          exact ⟨_, os_indexArr ho hu hi rfl hy h1 h2 h5, sat_empty _ _, h⟩
        · exact h.elim
      · rename_i e hu
        split at h
        · rename_i inf hi
          split at h
          · rename_i sz rows hx
            obtain ⟨h1, h2, row, h3, h⟩ := okK_iff h
            exact ⟨_, os_indexSl ho hu hi (Nat.eq_of_beq_eq_true h1) hx hy h2 h3, sat_empty _ _, h⟩
          · rename_i sz rows hx
            obtain ⟨h1, h2, row, h3, h⟩ := okK_iff h
            exact ⟨_, os_indexLs ho hu hi (Nat.eq_of_beq_eq_true h1) hx hy h2 h3, sat_empty _ _, h⟩
          · rename_i key len hx
            obtain ⟨⟨h1, h2⟩, h⟩ := h
            exact ⟨_, os_indexBs ho hu hi hx hy h1 h2, sat_empty _ _, h⟩
          · rename_i key lo len hx
            split at h
            · rename_i fz sz rows hk
              obtain ⟨h1, ⟨h2, h3⟩, h⟩ := okK_iff h
              exact ⟨_, os_indexOw ho hu hi (Nat.eq_of_beq_eq_true h1) hx hy h2 h3, ⟨by simp, by simp; exact hk, by simp, by simp⟩, h⟩
            · exact h.elim
          · exact h.elim
        · exact h.elim
      · exact h.elim
    · exact h.elim
  · rename_i t x lo hi mx ho
    rw [evK_eq] at h
    split at h
    · rename_i e hu
      split at h
      · rename_i inf hin
        split at h
        · split at h
          · rename_i sz rows hx
            obtain ⟨h1, h⟩ := okK_iff h
            obtain ⟨l, h2, h⟩ := bndK_sound h
            obtain ⟨hh, h3, ⟨h4, h5, h6⟩, h⟩ := bndK_sound h
            exact ⟨_, os_sliceSl ho hu hin (Nat.eq_of_beq_eq_true h1) hx h2 h3 h4 h5 h6, sat_empty _ _, h⟩
          · rename_i key lo0 len hx
            split at h
            · rename_i fz sz rows hk
              obtain ⟨h1, h⟩ := okK_iff h
              obtain ⟨l, h2, h⟩ := bndK_sound h
              obtain ⟨hh, h3, ⟨h4, h5, h6⟩, h⟩ := bndK_sound h
              exact ⟨_, os_sliceOw ho hu hin (Nat.eq_of_beq_eq_true h1) hx h2 h3 h4 h5 h6, ⟨by simp, by simp; exact hk, by simp, by simp⟩, h⟩
            · exact h.elim
          · rename_i hx
            obtain ⟨l, h2, h⟩ := bndK_sound h
            obtain ⟨hh, h3, ⟨rfl, rfl⟩, g⟩ := bndK_sound h
            exact ⟨_, os_sliceNl ho hu hin hx h2 h3, sat_empty _ _, g⟩
          · exact h.elim
        · rename_i z
          split at h
          · rename_i y
            rw [evK_eq, evK_eq] at h
            split at h
            · rename_i hy hz
              split at h
              · rename_i hx
                exact ⟨_, os_slice00 ho hu hin hx (.inl rfl) hy hz, sat_empty _ _, h⟩
              · rename_i hx
                exact ⟨_, os_slice00 ho hu hin hx (.inr (.inl ⟨_, _, rfl⟩)) hy hz, sat_empty _ _, h⟩
              · rename_i hx
                exact ⟨_, os_slice00 ho hu hin hx (.inr (.inr ⟨_, _, _, rfl⟩)) hy hz, sat_empty _ _, h⟩
              · exact h.elim
            · exact h.elim
          · exact h.elim
      · exact h.elim
    · rename_i hu
      split at h
      · rename_i b hx
        obtain ⟨l, h2, h⟩ := bndK_sound h
        obtain ⟨hh, h3, ⟨h4, h5, h6⟩, h⟩ := bndK_sound h
        exact ⟨_, os_sliceStr ho hu hx h2 h3 h4 h5 h6, sat_empty _ _, h⟩
      · exact h.elim
    · rename_i n e hu
      split at h
      · split at h
        · rename_i key off hx
          split at h
          · rename_i inf hin
            obtain ⟨h1, h⟩ := okK_iff h
            exact ⟨_, os_slicePt ho hu hin hx (by simpa using h1), sat_empty _ _, h⟩
          · exact h.elim
        · exact h.elim
      · exact h.elim
    · exact h.elim
  · rename_i x i ho
    rw [evK_eq] at h
    split at h
    · rename_i ps hx
      split at h
      · rename_i q hq
        exact ⟨_, os_extract ho hx hq, sat_empty _ _, h⟩
      · exact h.elim
    · exact h.elim
  · rename_i t x y ho
    rw [evK_eq, evK_eq] at h
    split at h
    · rename_i kk n hy
      split at h
      · rename_i len e hu
        split at h
        · rename_i inf hi
          split at h
          · rename_i ps hx
            obtain ⟨⟨h1, h2⟩, h⟩ := h
            rw [dropK_eq] at h
            obtain ⟨d, inf', p, h3, h4, h5, h⟩ := ldK_sound h
            rw [hi] at h4; cases h4
            exact ⟨_, os_index ho hu h3 hi hx hy h1 h2 h5, sat_empty _ _, h⟩
          · exact h.elim
        · exact h.elim
      · rename_i hu
        split at h
        · rename_i s hx
          obtain ⟨h1, b, h2, h⟩ := h
          exact ⟨_, os_indexStr ho hu hx hy h1 h2, sat_empty _ _, h⟩
        · exact h.elim
      · exact h.elim
    · exact h.elim
  · rename_i t x i ho
    rw [evK_eq] at h
    split at h
    · rename_i ps hx
      split at h
      · rename_i fs hu
        split at h
        · rename_i a ty off b c' d e hf
          rw [dropK_eq] at h
          obtain ⟨d, inf', p, h3, h4, h5, h⟩ := ldK_sound h
          exact ⟨_, os_field ho hu (by simpa using hf) h3 h4 hx h5, sat_empty _ _, h⟩
        · exact h.elim
      · exact h.elim
    · exact h.elim
  · rename_i f fst caps ho
    split at h
    · rename_i hf
      have ef : fst = #[] := by apply Array.ext'; simpa using hf
      subst ef
      rw [evLK_eq] at h
      exact ⟨_, os_makeFunc ho, sat_empty _ _, h⟩
    · rename_i x xs hf
      split at h
      · rename_i hc
        have ec : caps = #[] := by apply Array.ext'; simpa using hc
        have ef : fst = (x :: xs).toArray := by apply Array.ext'; simpa using hf
        subst ec ef
        rw [evLK_eq] at h
        exact ⟨_, os_makeBound ho, sat_empty _ _, by simpa using h⟩
      · exact h.elim
  · rename_i f args tys ho
    rw [evK_eq] at h
    split at h
    · rename_i g caps hf
      rw [evLK_eq, appK_eq] at h
      exact callK_sound ho (by simp [callee, hf]) h
    · rename_i g caps hf
      rw [evLK_eq, appK_eq] at h
      exact callK_sound ho (by simp [callee, hf]) h
    · exact h.elim
  · rename_i b args tys ho
    exact builtinK_sound ho h
  · rename_i t x y ho
    split at h
    · rename_i d hd
      rw [evK_eq, evK_eq] at h
      split at h
      · rename_i kl n kc m hp hq
        split at h
        · rename_i e ht
          split at h
          · rename_i inf hi
            split at h
            · rename_i z hz
              split at h
              · rename_i v hzs
                obtain ⟨h1, ⟨⟨rfl, h2, h3, h4⟩, h5⟩, g⟩ := okK_iff h
                exact ⟨_, os_make (d := d * 16) ho ht hi hz hzs (by simpa using h1) hp hq h2 h3 h4, ⟨by simp, by simp, by simp, by simp; exact h5⟩, g⟩
              · exact h.elim
            · exact h.elim
          · exact h.elim
        · exact h.elim
      · exact h.elim
    · exact h.elim
  · exact h.elim

end Go.Pv
