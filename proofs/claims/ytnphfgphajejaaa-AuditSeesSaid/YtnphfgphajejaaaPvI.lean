/-
  Contracts of functions, and calls. Generic over the program.
-/
import Derived.Test.YtnphfgphajejaaaPvG
namespace Go.Pv

def closedM (st : Nat → Prop) : Mem := ⟨st, fun _ => none, fun _ => none⟩

def osMap (os : List (Nat × List (List PV))) : OMap := fun k => match os[k]? with
  | some (sz, rows) => some (some (false, sz, rows))
  | none => none

/-- A call of a Go function, or of one without a body that the model answers at once. -/
def Runs (P : Program) (f : FuncId) (vs : Array Value) (w : World) (R : Ending → World → Prop) : Prop :=
  ((callFunc f vs).run P w = .ok (.enter f vs) w ∧ Calls P f vs w R) ∨ ∃ v w', (callFunc f vs).run P w = .ok (.value v) w' ∧ R (.returned v) w'

/-- The contract: called with values that read as 'args', the function answers what reads as 'r'; its new slices are 'os'; nothing that was there has changed. -/
structure Ctr (P : Program) (f : Nat) (args : List PV) (r : PV) (os : List (Nat × List (List PV))) : Prop where
  run : ∀ (w : World) (st : Nat → Prop) (vs : List Value), (∀ b, st b → b < w.heap.size) → RVL (closedM st) w args vs →
    Runs P f vs.toArray w fun e w' => ∃ v M', e = .returned v ∧ RV M' w' r v ∧ HRel w (fun _ => False) (Base.of st) M' (fun _ => none) (osMap os) w'

/-! ### What a callee made becomes the caller's -/

mutual
def shift (n : Nat) : PV → PV
  | .ag ps => .ag (shiftL n ps)
  | .tu ps => .tu (shiftL n ps)
  | .ow k lo len => .ow (n + k) lo len
  | .eo k i off => .eo (n + k) i off
  | .cl f caps => .cl f (shiftL n caps)
  | .sc v => .sc v
  | .sl sz rows => .sl sz rows
  | .nl => .nl
  | .pt k off => .pt k off
  | .ep sfx => .ep sfx
  | .ub φ => .ub φ
  | .ls .. => .bad
  | .lp .. => .bad
  | .bad => .bad
def shiftL (n : Nat) : List PV → List PV
  | [] => []
  | p :: ps => shift n p :: shiftL n ps
end

structure ShiftOk (n : Nat) (M M' : Mem) : Prop where
  st : ∀ b, M.st b → M'.st b
  bx : ∀ k b, M.bx k = some b → M'.bx k = some b
  ob : ∀ k L, M.ob k = some L → M'.ob (n + k) = some L

theorem ShiftOk.le {n : Nat} {M M' : Mem} (h : ShiftOk n M M') (w : World) : M.cl.Le M'.cl w w := ⟨h.st, (fun _ _ h => by cases h), (fun _ _ h => by cases h), fun _ _ => rfl⟩

mutual
theorem RV.shift {n : Nat} {M M' : Mem} {w : World} (h : ShiftOk n M M') : ∀ (p : PV) (v : Value), RV M w p v → RV M' w (Pv.shift n p) v
  | .sc x, v, hv => by simpa [RV, Pv.shift] using hv
  | .ag ps, v, hv => by
    simp only [RV, Pv.shift] at hv ⊢
    obtain ⟨cs, e, r⟩ := hv
    exact ⟨cs, e, RVL.shift h ps _ r⟩
  | .tu ps, v, hv => by
    simp only [RV, Pv.shift] at hv ⊢
    obtain ⟨cs, e, r⟩ := hv
    exact ⟨cs, e, RVL.shift h ps _ r⟩
  | .sl sz rows, v, hv => by
    simp only [RV, Pv.shift] at hv ⊢
    obtain ⟨a, m, c, e, hn, hc, r⟩ := hv
    refine ⟨a, m, c, e, hn, hc, ?_⟩
    rcases r with r | ⟨b, off, cs, ha, hs, hcl, hr⟩
    · exact .inl r
    · exact .inr ⟨b, off, cs, ha, h.st b hs, hcl, RVR.mono (h.le w) sz rows _ hr⟩
  | .nl, v, hv => by simpa [RV, Pv.shift] using hv
  | .ow k lo len, v, hv => by
    simp only [RV, Pv.shift] at hv ⊢
    obtain ⟨L, hL, r⟩ := hv
    exact ⟨L, h.ob k L hL, r⟩
  | .pt k off, v, hv => by
    simp only [RV, Pv.shift] at hv ⊢
    obtain ⟨b, hb, r⟩ := hv
    exact ⟨b, h.bx k b hb, r⟩
  | .ep sfx, v, hv => by
    simp only [RV, Pv.shift] at hv ⊢
    obtain ⟨b, off, cs, e, hs, hcl, hr⟩ := hv
    exact ⟨b, off, cs, e, h.st b hs, hcl, RVL.mono (h.le w) sfx _ hr⟩
  | .eo k i off, v, hv => by
    simp only [RV, Pv.shift] at hv ⊢
    obtain ⟨L, hL, r⟩ := hv
    exact ⟨L, h.ob k L hL, r⟩
  | .cl f caps, v, hv => by
    simp only [RV, Pv.shift] at hv ⊢
    obtain ⟨cs, e, r⟩ := hv
    exact ⟨cs, e, RVL.shift h caps _ r⟩
  | .ub φ, v, hv => by simp only [RV, Pv.shift] at hv ⊢; exact hv
  | .ls .., v, hv => by simp [RV, Pv.shift]
  | .lp .., v, hv => by simp [RV, Pv.shift]
  | .bad, v, hv => by simp [RV, Pv.shift]
theorem RVL.shift {n : Nat} {M M' : Mem} {w : World} (h : ShiftOk n M M') : ∀ (ps : List PV) (cs : List Value), RVL M w ps cs → RVL M' w (shiftL n ps) cs
  | [], cs, hv => by simpa [RVL, shiftL] using hv
  | p :: ps, cs, hv => by
    simp only [RVL, shiftL] at hv ⊢
    obtain ⟨c, r, e, h1, h2⟩ := hv
    exact ⟨c, r, e, RV.shift h p c h1, RVL.shift h ps r h2⟩
end

/-- The objects that a call hands back, under keys from n on. -/
def newObjs (n : Nat) : List (Nat × List (List PV)) → List (Nat × Option (Bool × Nat × List (List PV)))
  | [] => []
  | (sz, rows) :: os => (n, some (false, sz, rows)) :: newObjs (n + 1) os

theorem newObjs_find (n : Nat) : ∀ (os : List (Nat × List (List PV))) (k : Nat), (newObjs n os).find? (fun p => p.1 == k) = if n ≤ k then (os[k - n]?).map (fun q => (k, some (false, q.1, q.2))) else none := by
  intro os
  induction os generalizing n with
  | nil => intro k; simp [newObjs]
  | cons q os ih =>
    intro k
    obtain ⟨sz, rows⟩ := q
    simp only [newObjs, List.find?_cons]
    by_cases e : n = k
    · subst e; simp
    · have : (n == k) = false := by simp [e]
      rw [this, ih]
      by_cases hle : n ≤ k
      · rw [if_pos hle, if_pos (by omega)]
        have : k - n = (k - (n + 1)) + 1 := by omega
        rw [this]; simp
      · rw [if_neg hle, if_neg (by omega)]

theorem upd_newObjs (O : OMap) (n : Nat) (os : List (Nat × List (List PV))) (k : Nat) : upd O (newObjs n os) k = if n ≤ k ∧ k < n + os.length then (os[k - n]?).map (fun q => some (false, q.1, q.2)) else O k := by
  unfold upd
  rw [newObjs_find]
  by_cases h1 : n ≤ k
  · rw [if_pos h1]
    by_cases h2 : k < n + os.length
    · rw [if_pos ⟨h1, h2⟩]
      cases hq : os[k - n]? with
      | none => rw [List.getElem?_eq_none_iff] at hq; omega
      | some q => simp
    · rw [if_neg (fun h => h2 h.2), List.getElem?_eq_none (by omega)]
      simp
  · rw [if_neg h1, if_neg (fun h => h1 h.1)]

theorem HRel.merge {w0 : World} {X : Nat → Prop} {S0 : Base} {M M' : Mem} {B : BMap} {O : OMap} {w w' : World} {os : List (Nat × List (List PV))} (h : HRel w0 X S0 M B O w) {S1 : Nat → Prop} (h' : HRel w (fun _ => False) (Base.of S1) M' (fun _ => none) (osMap os) w') (hst1 : ∀ b, S1 b → M.st b)
    (n : Nat) (hn : ∀ k, n ≤ k → k < n + os.length → O k = none) :
    ∃ M'', HRel w0 X S0 M'' B (upd O (newObjs n os)) w' ∧ M.Le M'' w w' ∧ ShiftOk n M' M'' := by
  have hst : ∀ b, M'.st b → M.st b ∨ w.heap.size ≤ b := by
    intro b hb
    rcases h'.stok b hb with h1 | h1 | h1
    · exact .inl (hst1 b h1)
    · exact .inr h1
    · exact h1.elim
  have hbx' : ∀ k, M'.bx k = none := by
    intro k
    cases hx : M'.bx k with
    | none => rfl
    | some b => obtain ⟨ls, hl⟩ := h'.boxKey k b hx; cases hl
  have hob' : ∀ k L, M'.ob k = some L → k < os.length := by
    intro k L hk
    obtain ⟨o, ho⟩ := h'.objKey k L hk
    unfold osMap at ho
    cases hq : os[k]? with
    | none => rw [hq] at ho; cases ho
    | some q => exact (List.getElem?_eq_some_iff.1 hq).1
  let M'' : Mem := ⟨fun b => M.st b ∨ M'.st b, M.bx, fun k => if n ≤ k ∧ k < n + os.length then M'.ob (k - n) else M.ob k⟩
  have hold : ∀ b, b < w.heap.size → w'.heap[b]? = w.heap[b]? := fun b hb => h'.kept b hb (fun x => x)
  have hMn : ∀ k, n ≤ k → k < n + os.length → M.ob k = none := fun k h1 h2 => h.ob_none (hn k h1 h2)
  have hob : ∀ k L, M.ob k = some L → M''.ob k = some L := by
    intro k L hk
    show (if n ≤ k ∧ k < n + os.length then M'.ob (k - n) else M.ob k) = some L
    rw [if_neg (fun hh => by rw [hMn k hh.1 hh.2] at hk; cases hk)]; exact hk
  have hle : M.Le M'' w w' := ⟨fun _ h => .inl h, fun _ _ h => h, hob, fun b hb => hold b (h.stlt b hb)⟩
  have hsh : ShiftOk n M' M'' := ⟨fun _ h => .inr h, (fun k b hk => by rw [hbx'] at hk; cases hk), fun k L hk => by
    show (if n ≤ n + k ∧ n + k < n + os.length then M'.ob (n + k - n) else M.ob (n + k)) = some L
    rw [if_pos ⟨by omega, by have := hob' k L hk; omega⟩, Nat.add_sub_cancel_left]; exact hk⟩
  have hown : ∀ b, b < w.heap.size → Own w0 X M b → Own w0 X M'' b := fun b hb ⟨h1, h2⟩ => ⟨h1, fun hs => by
    rcases hs with hs | hs
    · exact h2 hs
    · rcases hst b hs with hs | hs
      · exact h2 hs
      · omega⟩
  have hinv : ∀ k L, M''.ob k = some L → (n ≤ k ∧ k < n + os.length ∧ M'.ob (k - n) = some L) ∨ (¬ (n ≤ k ∧ k < n + os.length) ∧ M.ob k = some L) := by
    intro k L hk
    have hk' : (if n ≤ k ∧ k < n + os.length then M'.ob (k - n) else M.ob k) = some L := hk
    by_cases hh : n ≤ k ∧ k < n + os.length
    · rw [if_pos hh] at hk'; exact .inl ⟨hh.1, hh.2, hk'⟩
    · rw [if_neg hh] at hk'; exact .inr ⟨hh, hk'⟩
  have hnewlt : ∀ k fz sz rows L, osMap os k = some (some (fz, sz, rows)) → M'.ob k = some L → L.nil = false → w.heap.size ≤ L.b := by
    intro k fz sz rows L hk hL hnil
    obtain ⟨_, hc⟩ := h'.obj' hk hL
    rcases hc with ⟨e, _⟩ | ⟨_, hf, ho, _⟩
    · rw [hnil] at e; cases e
    · have hfz : fz = false := by
        unfold osMap at hk
        cases hq : os[k]? with
        | none => rw [hq] at hk; cases hk
        | some q => rw [hq] at hk; simp at hk; exact hk.1
      have := (ho hfz).1
      rcases this with this | this
      · exact this
      · exact this.elim
  have hnewO : ∀ k fz sz rows, n ≤ k → k < n + os.length → upd O (newObjs n os) k = some (some (fz, sz, rows)) → osMap os (k - n) = some (some (fz, sz, rows)) := by
    intro k fz sz rows h1 h2 hk
    rw [upd_newObjs, if_pos ⟨h1, h2⟩] at hk
    unfold osMap
    cases hq : os[k - n]? with
    | none => rw [hq] at hk; cases hk
    | some q =>
      rw [hq] at hk
      simp only [Option.map_some, Option.some.injEq, Prod.mk.injEq] at hk
      obtain ⟨rfl, rfl, rfl⟩ := hk
      rfl
  have hliveO : ∀ k o, ¬ (n ≤ k ∧ k < n + os.length) → upd O (newObjs n os) k = o → O k = o := by
    intro k o hh hk
    rw [upd_newObjs, if_neg hh] at hk; exact hk
  have hlt_old : ∀ k q L, O k = some (some (false, q)) → M.ob k = some L → L.nil = false → L.b < w.heap.size := by
    intro k q L hk hL hnil
    obtain ⟨_, hc⟩ := h.obj' (fz := false) (sz := q.1) (rows := q.2) hk hL
    rcases hc with ⟨e, _⟩ | ⟨_, _, _, cs, E, hc, _⟩
    · rw [hnil] at e; cases e
    · exact lt_of_heap hc
  refine ⟨M'', { os := h'.os.trans h.os, tape := h'.tape.trans h.tape, out := h'.out.trans h.out, size := Nat.le_trans h.size h'.size, kept := ?_, stlt := ?_, stok := (fun b hb => by rcases hb with hb | hb; exact h.stok b hb; rcases hst b hb with hb | hb; exact h.stok b hb; exact .inr (.inl (Nat.le_trans h.size hb))), box := ?_, boxKey := h.boxKey, obj := ?_, objKey := ?_, boxNe := h.boxNe, objNe := ?_, boxObj := ?_, pinB := fun k b hk => hle.bx k b (h.pinB k b hk), pinO := fun k L hk => hle.ob k L (h.pinO k L hk) }, hle, hsh⟩
  · intro b hb hX
    rw [hold b (Nat.lt_of_lt_of_le hb h.size)]
    exact h.kept b hb hX
  · intro b hb
    rcases hb with hb | hb
    · exact Nat.lt_of_lt_of_le (h.stlt b hb) h'.size
    · exact h'.stlt b hb
  · intro j lj hj
    obtain ⟨b', T', cs'', h1, h2, h3, h4⟩ := h.box j lj hj
    exact ⟨b', T', cs'', h1, hown _ (lt_of_heap h3) h2, by rw [hold _ (lt_of_heap h3)]; exact h3, RVL.mono hle _ _ h4⟩
  · intro j fz sz rows hj
    by_cases hh : n ≤ j ∧ j < n + os.length
    · have hj' := hnewO j fz sz rows hh.1 hh.2 hj
      obtain ⟨L, h1, h2, h3⟩ := h'.obj (j - n) fz sz rows hj'
      refine ⟨L, by show (if n ≤ j ∧ j < n + os.length then M'.ob (j - n) else M.ob j) = _; rw [if_pos hh]; exact h1, h2, ?_⟩
      rcases h3 with h3 | ⟨h3, hf, ho, c, E, h5, h6, h7, h8, h9⟩
      · exact .inl h3
      · refine .inr ⟨h3, fun e => .inr (hf e), fun e => ⟨.inl ?_, ?_⟩, c, E, h5, h6, h7, h8, RVR.mono (hsh.le w') _ _ _ h9⟩
        · have := hnewlt _ _ _ _ _ hj' h1 h3
          exact Nat.le_trans h.size this
        · rintro (hs | hs)
          · have := h.stlt _ hs
            have := hnewlt _ _ _ _ _ hj' h1 h3
            omega
          · exact (ho e).2 hs
    · have hj' := hliveO j _ hh hj
      obtain ⟨L, h1, h2, h3⟩ := h.obj j fz sz rows hj'
      refine ⟨L, hob _ _ h1, h2, ?_⟩
      rcases h3 with h3 | ⟨h3, hf, ho, c, E, h5, h6, h7, h8, h9⟩
      · exact .inl h3
      · exact .inr ⟨h3, fun e => .inl (hf e), fun e => hown _ (lt_of_heap h5) (ho e), c, E, by rw [hold _ (lt_of_heap h5)]; exact h5, h6, h7, h8, RVR.mono hle.cl _ _ _ h9⟩
  · intro j L hj
    rw [upd_newObjs]
    rcases hinv j L hj with ⟨h1, h2, _⟩ | ⟨hh, hm⟩
    · rw [if_pos ⟨h1, h2⟩]
      cases hq : os[j - n]? with
      | none => rw [List.getElem?_eq_none_iff] at hq; omega
      | some q => exact ⟨_, rfl⟩
    · rw [if_neg hh]; exact h.objKey j L hm
  · intro i j o o' Li Lj hi hj hLi hLj hni hnj heq
    rcases hinv i Li hLi with ⟨a1, a2, a3⟩ | ⟨ah, am⟩
    · have hi' := hnewO i false o.1 o.2 a1 a2 hi
      have := hnewlt _ _ _ _ _ hi' a3 hni
      rcases hinv j Lj hLj with ⟨b1, b2, b3⟩ | ⟨bh, bm⟩
      · have hj' := hnewO j false o'.1 o'.2 b1 b2 hj
        have := h'.objNe (i - n) (j - n) _ _ Li Lj hi' hj' a3 b3 hni hnj heq
        omega
      · have := hlt_old j o' Lj (hliveO j _ bh hj) bm hnj
        omega
    · have := hlt_old i o Li (hliveO i _ ah hi) am hni
      rcases hinv j Lj hLj with ⟨b1, b2, b3⟩ | ⟨bh, bm⟩
      · have hj' := hnewO j false o'.1 o'.2 b1 b2 hj
        have := hnewlt _ _ _ _ _ hj' b3 hnj
        omega
      · exact h.objNe i j o o' Li Lj (hliveO i _ ah hi) (hliveO j _ bh hj) am bm hni hnj heq
  · intro i j b o L hi hj hL hnil
    obtain ⟨ls, hls⟩ := h.boxKey i b hi
    obtain ⟨_, T, cs, hc, _⟩ := h.box' hls hi
    have := lt_of_heap hc
    rcases hinv j L hL with ⟨b1, b2, b3⟩ | ⟨bh, bm⟩
    · have hj' := hnewO j false o.1 o.2 b1 b2 hj
      have := hnewlt _ _ _ _ _ hj' b3 hnil
      omega
    · exact h.boxObj i j b o L hi (hliveO j _ bh hj) bm hnil

/-! ### Arguments: what a callee is shown of the caller's own -/

mutual
def Res (rb : List (Nat × List PV)) (ro : List (Nat × Bool × Nat × List (List PV))) : PV → PV → Prop
  | .ow k lo len, q => ∃ fz sz all, (k, fz, sz, all) ∈ ro ∧ lo + len ≤ all.length ∧ q = .sl sz ((all.drop lo).take len)
  | .pt k off, q => ∃ ls, (k, ls) ∈ rb ∧ plainL ls = true ∧ q = .ep (ls.drop off)
  | .ag ps, q => ∃ qs, q = .ag qs ∧ ResL rb ro ps qs
  | .tu ps, q => ∃ qs, q = .tu qs ∧ ResL rb ro ps qs
  | .cl f caps, q => ∃ qs, q = .cl f qs ∧ ResL rb ro caps qs
  | .sc v, q => q = .sc v
  | .sl sz rows, q => q = .sl sz rows
  | .nl, q => q = .nl
  | .ep sfx, q => q = .ep sfx
  | .eo .., _ => False
  | .ub φ, q => q = .ub φ
  | .ls sz rows, q => ∃ rows', q = .sl sz rows' ∧ ResR rb ro rows rows'
  | .lp .., _ => False
  | .bad, q => q = .bad
def ResL (rb : List (Nat × List PV)) (ro : List (Nat × Bool × Nat × List (List PV))) : List PV → List PV → Prop
  | [], qs => qs = []
  | p :: ps, qs => ∃ q r, qs = q :: r ∧ Res rb ro p q ∧ ResL rb ro ps r
def ResR (rb : List (Nat × List PV)) (ro : List (Nat × Bool × Nat × List (List PV))) : List (List PV) → List (List PV) → Prop
  | [], qs => qs = []
  | p :: ps, qs => ∃ q r, qs = q :: r ∧ ResL rb ro p q ∧ ResR rb ro ps r
end

theorem ResL.len {rb : List (Nat × List PV)} {ro : List (Nat × Bool × Nat × List (List PV))} : ∀ {ps qs : List PV}, ResL rb ro ps qs → qs.length = ps.length
  | [], qs, h => by simp only [ResL] at h; simp [h]
  | p :: ps, qs, h => by
    simp only [ResL] at h
    obtain ⟨q, r, rfl, _, h2⟩ := h
    simp [ResL.len h2]
theorem ResR.len {rb : List (Nat × List PV)} {ro : List (Nat × Bool × Nat × List (List PV))} : ∀ {ps qs : List (List PV)}, ResR rb ro ps qs → qs.length = ps.length
  | [], qs, h => by simp only [ResR] at h; simp [h]
  | p :: ps, qs, h => by
    simp only [ResR] at h
    obtain ⟨q, r, rfl, _, h2⟩ := h
    simp [ResR.len h2]

/-- The blocks that a callee may read as stable: the stable ones, and those of the caller's own that it is shown. -/
def shown (M : Mem) (rb : List (Nat × List PV)) (ro : List (Nat × Bool × Nat × List (List PV))) (b : Nat) : Prop :=
  M.st b ∨ (∃ q ∈ rb, M.bx q.1 = some b) ∨ ∃ q ∈ ro, ∃ L, M.ob q.1 = some L ∧ L.nil = false ∧ L.b = b

theorem shown_le {w0 : World} {X : Nat → Prop} {S0 : Base} {M : Mem} {B : BMap} {O : OMap} {w : World} {rb : List (Nat × List PV)} {ro : List (Nat × Bool × Nat × List (List PV))} (h : HRel w0 X S0 M B O w) (hb : ∀ q ∈ rb, B q.1 = some q.2) (ho : ∀ q ∈ ro, O q.1 = some (some q.2)) : ∀ b, shown M rb ro b → b < w.heap.size := by
  rintro b (h1 | ⟨q, hq, h2⟩ | ⟨q, hq, L, h2, h3, rfl⟩)
  · exact h.stlt b h1
  · obtain ⟨_, T, cs, hc, _⟩ := h.box' (hb q hq) h2
    exact lt_of_heap hc
  · obtain ⟨_, hc⟩ := h.obj' (fz := q.2.1) (sz := q.2.2.1) (rows := q.2.2.2) (ho q hq) h2
    rcases hc with ⟨e, _⟩ | ⟨_, _, _, cs, E, hc, _⟩
    · rw [h3] at e; cases e
    · exact lt_of_heap hc

theorem show_le (M : Mem) (rb : List (Nat × List PV)) (ro : List (Nat × Bool × Nat × List (List PV))) (w : World) : M.cl.Le (closedM (shown M rb ro)).cl w w := ⟨fun _ h => Or.inl h, (fun _ _ h => by cases h), (fun _ _ h => by cases h), fun _ _ => rfl⟩

mutual
theorem Res.sound {w0 : World} {X : Nat → Prop} {S0 : Base} {M : Mem} {B : BMap} {O : OMap} {w : World} {rb : List (Nat × List PV)} {ro : List (Nat × Bool × Nat × List (List PV))} (h : HRel w0 X S0 M B O w) (hb : ∀ q ∈ rb, B q.1 = some q.2) (ho : ∀ q ∈ ro, O q.1 = some (some q.2)) :
    ∀ (p q : PV) (v : Value), Res rb ro p q → RV M w p v → RV (closedM (shown M rb ro)) w q v
  | .sc x, q, v, hr, hv => by simp only [Res] at hr; subst hr; simpa [RV] using hv
  | .ag ps, q, v, hr, hv => by
    simp only [Res] at hr
    obtain ⟨qs, rfl, hr⟩ := hr
    simp only [RV] at hv ⊢
    obtain ⟨cs, e, r⟩ := hv
    exact ⟨cs, e, ResL.sound h hb ho ps qs _ hr r⟩
  | .tu ps, q, v, hr, hv => by
    simp only [Res] at hr
    obtain ⟨qs, rfl, hr⟩ := hr
    simp only [RV] at hv ⊢
    obtain ⟨cs, e, r⟩ := hv
    exact ⟨cs, e, ResL.sound h hb ho ps qs _ hr r⟩
  | .cl f caps, q, v, hr, hv => by
    simp only [Res] at hr
    obtain ⟨qs, rfl, hr⟩ := hr
    simp only [RV] at hv ⊢
    obtain ⟨cs, e, r⟩ := hv
    exact ⟨cs, e, ResL.sound h hb ho caps qs _ hr r⟩
  | .sl sz rows, q, v, hr, hv => by
    simp only [Res] at hr; subst hr
    simp only [RV] at hv ⊢
    obtain ⟨a, n, c, e, hn, hc, r⟩ := hv
    refine ⟨a, n, c, e, hn, hc, ?_⟩
    rcases r with r | ⟨b, off, cs, ha, hs, hcl, hR⟩
    · exact .inl r
    · exact .inr ⟨b, off, cs, ha, .inl hs, hcl, RVR.mono (show_le M rb ro w) _ _ _ hR⟩
  | .nl, q, v, hr, hv => by simp only [Res] at hr; subst hr; simpa [RV] using hv
  | .ow k lo len, q, v, hr, hv => by
    simp only [Res] at hr
    obtain ⟨fz, sz, all, hmem, hle, rfl⟩ := hr
    simp only [RV] at hv ⊢
    obtain ⟨L, hL, hcase⟩ := hv
    obtain ⟨hLs, hob⟩ := h.obj' (ho _ hmem) hL
    have hlen : ((all.drop lo).take len).length = len := by simp; omega
    rcases hcase with ⟨hn, rfl, xa, rfl⟩ | ⟨hn, hcap, xa, rfl, hxa⟩
    · exact ⟨xa, 0, 0, rfl, by simp, Nat.le_refl _, .inl (by simp)⟩
    · refine ⟨xa, len, _, rfl, hlen.symm, by omega, ?_⟩
      by_cases h0 : len = 0
      · left; subst h0; simp
      · right
        rcases hob with ⟨e, _⟩ | ⟨_, _, _, cs, E, hh, hcs, _, _, hR⟩
        · rw [hn] at e; cases e
        · have hc : Cells w L.b (0 + lo * sz) (cs.toList.drop (lo * sz)) := (Cells.of_block hh).drop (lo * sz)
          rw [Nat.zero_add] at hc
          refine ⟨L.b, lo * sz, cs.toList.drop (lo * sz), by rw [hxa (by omega), hLs], .inr (.inr ⟨_, hmem, L, hL, hn, rfl⟩), hc, ?_⟩
          exact RVR.mono (show_le M rb ro w) _ _ _ (RVR.takeRows len (RVR.dropRows lo hR))
  | .pt k off, q, v, hr, hv => by
    simp only [Res] at hr
    obtain ⟨ls, hmem, hpl, rfl⟩ := hr
    simp only [RV] at hv ⊢
    obtain ⟨b, hbx, rfl⟩ := hv
    obtain ⟨_, T, cs, hh, hcs⟩ := h.box' (hb _ hmem) hbx
    have hc : Cells w b (0 + off) (cs.toList.drop off) := (Cells.of_block hh).drop off
    rw [Nat.zero_add] at hc
    refine ⟨b, off, cs.toList.drop off, rfl, .inr (.inl ⟨_, hmem, hbx⟩), hc, ?_⟩
    refine RVL.mono (show_le M rb ro w) _ _ (RVL.drop off (RVL.toCl _ _ hpl hcs))
  | .ep sfx, q, v, hr, hv => by
    simp only [Res] at hr; subst hr
    simp only [RV] at hv ⊢
    obtain ⟨b, off, cs, e, hs, hcl, hr⟩ := hv
    exact ⟨b, off, cs, e, .inl hs, hcl, RVL.mono (show_le M rb ro w) _ _ hr⟩
  | .eo k i off, q, v, hr, hv => by simp [Res] at hr
  | .ub φ, q, v, hr, hv => by simp only [Res] at hr; subst hr; simp only [RV] at hv ⊢; exact hv
  | .ls sz rows, q, v, hr, hv => by
    simp only [Res] at hr
    obtain ⟨rows', rfl, hr⟩ := hr
    simp only [RV] at hv ⊢
    obtain ⟨b, cs, e, hs, hcl, hR⟩ := hv
    exact ⟨_, _, _, e, hr.len.symm, Nat.le_refl _, .inr ⟨b, 0, cs, rfl, .inl hs, hcl, ResR.sound h hb ho sz rows rows' cs hr hR⟩⟩
  | .lp .., q, v, hr, hv => by simp [Res] at hr
  | .bad, q, v, hr, hv => by simp only [Res] at hr; subst hr; simp [RV]
theorem ResL.sound {w0 : World} {X : Nat → Prop} {S0 : Base} {M : Mem} {B : BMap} {O : OMap} {w : World} {rb : List (Nat × List PV)} {ro : List (Nat × Bool × Nat × List (List PV))} (h : HRel w0 X S0 M B O w) (hb : ∀ q ∈ rb, B q.1 = some q.2) (ho : ∀ q ∈ ro, O q.1 = some (some q.2)) :
    ∀ (ps qs : List PV) (cs : List Value), ResL rb ro ps qs → RVL M w ps cs → RVL (closedM (shown M rb ro)) w qs cs
  | [], qs, cs, hr, hv => by simp only [ResL] at hr; subst hr; simpa [RVL] using hv
  | p :: ps, qs, cs, hr, hv => by
    simp only [ResL] at hr
    obtain ⟨q, r, rfl, h1, h2⟩ := hr
    simp only [RVL] at hv ⊢
    obtain ⟨c, rr, e, h3, h4⟩ := hv
    exact ⟨c, rr, e, Res.sound h hb ho p q c h1 h3, ResL.sound h hb ho ps r rr h2 h4⟩
theorem ResR.sound {w0 : World} {X : Nat → Prop} {S0 : Base} {M : Mem} {B : BMap} {O : OMap} {w : World} {rb : List (Nat × List PV)} {ro : List (Nat × Bool × Nat × List (List PV))} (h : HRel w0 X S0 M B O w) (hb : ∀ q ∈ rb, B q.1 = some q.2) (ho : ∀ q ∈ ro, O q.1 = some (some q.2)) (sz : Nat) :
    ∀ (ps qs : List (List PV)) (cs : List Value), ResR rb ro ps qs → RVR M w sz ps cs → RVR (closedM (shown M rb ro)).cl w sz qs cs
  | [], qs, cs, hr, hv => by simp only [ResR] at hr; subst hr; simp [RVR]
  | p :: ps, qs, cs, hr, hv => by
    simp only [ResR] at hr
    obtain ⟨q, r, rfl, h1, h2⟩ := hr
    simp only [RVR] at hv ⊢
    obtain ⟨c1, c2, e, hl, h3, h4⟩ := hv
    exact ⟨c1, c2, e, h1.len.trans hl, ResL.sound h hb ho p q c1 h1 h3, ResR.sound h hb ho sz ps r c2 h2 h4⟩
end

/-- Scalars alone: no memory behind them. -/
def scal : PV → Bool
  | .sc _ => true
  | .ag ps => ps.all fun p => match p with | .sc _ => true | .nl => true | _ => false
  | .tu ps => ps.all fun p => match p with | .sc _ => true | .nl => true | .ag qs => qs.all (fun q => match q with | .sc _ => true | .nl => true | _ => false) | _ => false
  | .nl => true
  | _ => false

theorem RVL.scal1 {M M' : Mem} {w : World} : ∀ (ps : List PV) (cs : List Value), (ps.all fun p => match p with | .sc _ => true | .nl => true | _ => false) = true → RVL M w ps cs → RVL M' w ps cs
  | [], cs, _, hv => by simpa [RVL] using hv
  | p :: ps, cs, hp, hv => by
    simp only [RVL] at hv ⊢
    simp only [List.all_cons, Bool.and_eq_true] at hp
    obtain ⟨c, r, e, h1, h2⟩ := hv
    refine ⟨c, r, e, ?_, RVL.scal1 ps r hp.2 h2⟩
    cases p <;> first | (simp only [RV] at h1 ⊢; exact h1) | (exact absurd hp.1 (by simp))

theorem RV.scal {M M' : Mem} {w : World} (p : PV) (v : Value) (hp : Pv.scal p = true) (hv : RV M w p v) : RV M' w p v := by
  cases p with
  | sc x => simpa [RV] using hv
  | nl => simpa [RV] using hv
  | ag ps =>
    simp only [RV] at hv ⊢
    obtain ⟨cs, e, r⟩ := hv
    exact ⟨cs, e, RVL.scal1 ps _ (by simpa [Pv.scal] using hp) r⟩
  | tu ps =>
    simp only [RV] at hv ⊢
    obtain ⟨cs, e, r⟩ := hv
    refine ⟨cs, e, ?_⟩
    unfold Pv.scal at hp
    clear e
    generalize cs.toList = l at r
    induction ps generalizing l with
    | nil => simpa [RVL] using r
    | cons p ps ih =>
      simp only [RVL] at r ⊢
      simp only [List.all_cons, Bool.and_eq_true] at hp
      obtain ⟨c, q, e, h1, h2⟩ := r
      refine ⟨c, q, e, ?_, ih hp.2 _ h2⟩
      cases p with
      | sc x => simpa [RV] using h1
      | nl => simpa [RV] using h1
      | ag qs =>
        simp only [RV] at h1 ⊢
        obtain ⟨ds, e', r'⟩ := h1
        exact ⟨ds, e', RVL.scal1 qs _ hp.1 r'⟩
      | _ => exact absurd hp.1 (by simp)
  | _ => simp [Pv.scal] at hp

/-- What a call is: of a function by its name, or of a function value; the arguments, then what was captured. -/
def callee (ts : List PV) (c : Callee) (args : List Operand) : Option (Nat × List PV) :=
  match c with
  | .value f => match aev ts f with
    | .cl g caps => some (g, args.map (aev ts) ++ caps)
    | _ => none
  | _ => none

theorem callee_sound {P : Program} {w0 : World} {X : Nat → Prop} {S0 : Base} {M : Mem} {s : St} {a : Act} {w : World} {ts : List PV} {o : Oper} {c : Call} {f : Nat} {ps : List PV} (hr : Rel w0 X S0 M s a w) (ho : o.op = .call c) (hl : ∀ x ∈ o.op.operands.toList, aev s.tmps x = aev ts x) (hc : callee ts c.callee c.args.toList = some (f, ps)) :
    ∃ vs : List Value, RVL M w ps vs ∧ (execOp a.eval o).run P w = (callFunc f vs.toArray).run P w := by
  unfold callee at hc
  split at hc
  · rename_i g hg
    split at hc
    · rename_i g' caps hcl
      cases hc
      rw [ho] at hl
      have h1 := ev_of hr hl (x := g) (by simp [Op.operands, Call.operands, hg]) hcl
      simp only [RV] at h1
      obtain ⟨cs, hv, hcs⟩ := h1
      have hargs := map_eval hr ts c.args.toList (fun x hx => hl x (by simp only [Op.operands, Call.operands]; simp; right; simpa using hx))
      refine ⟨c.args.toList.map a.eval ++ cs.toList, hargs.append hcs, ?_⟩
      have e : (c.args.toList.map a.eval ++ cs.toList).toArray = c.args.map a.eval ++ cs := by apply Array.ext'; simp
      rw [e]
      simp [execOp, ho, resolve, hg, hv, Deferred.ofValue, invoke]
    · cases hc
  · cases hc

/-- A call that answers scalars: it may be shown all that is the caller's own. -/
theorem os_callS {P : Program} {o : Oper} {ts : List PV} {c : Call} {f : Nat} {ps qs : List PV} {r : PV} {rb : List (Nat × List PV)} {ro : List (Nat × Bool × Nat × List (List PV))} (ho : o.op = .call c) (hc : callee ts c.callee c.args.toList = some (f, ps)) (hres : ResL rb ro ps qs) (hspec : Ctr P f qs r []) (hsc : scal r = true) :
    OpSem P o ⟨r, rb, ro, [], [], [], []⟩ ts := by
  intro w0 X S0 M s a w Q K hr hl hs hk
  obtain ⟨vs, hvs, hrun⟩ := callee_sound (P := P) hr ho hl hc
  have hq := ResL.sound hr.toHRel hs.1 hs.2.1 ps qs vs hres hvs
  have hS := hspec.run w (shown M rb ro) vs (shown_le hr.toHRel hs.1 hs.2.1) hq
  unfold Oper.wp
  rw [hrun]
  have fin : ∀ e w', (∃ v M', e = Ending.returned v ∧ RV M' w' r v ∧ HRel w (fun _ => False) (Base.of (shown M rb ro)) M' (fun _ => none) (osMap []) w') → ∃ v, e = .returned v ∧ K (a.put o.dst v) w' := by
    rintro e w' ⟨v, M', he, hrv, hrel⟩
    refine ⟨v, he, hk M _ _ ?_⟩
    have hold : ∀ b, b < w.heap.size → w'.heap[b]? = w.heap[b]? := fun b hb => hrel.kept b hb (fun x => x)
    have hle : M.Le M w w' := ⟨fun _ h => h, fun _ _ h => h, fun _ _ h => h, fun b hb => hold b (hr.stlt b hb)⟩
    have hr' := hr.world hle hrel.os hrel.tape hrel.out hrel.size hold
    have := rel_put hr' o.dst (RV.scal r v hsc hrv)
    simpa [St.apply, upd_nil] using this
  rcases hS with ⟨h1, h2⟩ | ⟨v, w', h1, h2⟩
  · rw [h1, Oper.upon_enter]
    refine h2.mono ?_
    intro e w' he
    obtain ⟨v, rfl, hK⟩ := fin e w' he
    exact hK
  · rw [h1, Oper.upon_value]
    obtain ⟨v', e, hK⟩ := fin _ w' h2
    cases e
    exact hK

/-- Objects that are frozen, one after the other. -/
def frozen (ro : List (Nat × Bool × Nat × List (List PV))) : List (Nat × Option (Bool × Nat × List (List PV))) := ro.map fun q => (q.1, some (true, q.2.2))

theorem upd_cons {α : Type} (f : Nat → Option α) (p : Nat × α) (l : List (Nat × α)) : upd f (p :: l) = upd (upd f l) [p] := by
  funext j
  obtain ⟨k, v⟩ := p
  rw [upd_one]
  unfold upd
  rw [List.find?_cons]
  by_cases e : k = j
  · subst e; simp
  · have e' : ¬ j = k := fun x => e x.symm
    have e2 : (k == j) = false := by simp [e]
    rw [if_neg e']
    simp only [e2]

theorem HRel.freezeAll {w0 : World} {X : Nat → Prop} {S0 : Base} {M : Mem} {B : BMap} {O : OMap} {w : World} (h : HRel w0 X S0 M B O w) : ∀ (ro : List (Nat × Bool × Nat × List (List PV))), (∀ q ∈ ro, O q.1 = some (some q.2)) →
    ∃ M', HRel w0 X S0 M' B (upd O (frozen ro)) w ∧ M.Le M' w w ∧ M'.ob = M.ob ∧ M'.bx = M.bx ∧ ∀ q ∈ ro, ∀ L, M.ob q.1 = some L → L.nil = false → M'.st L.b
  | [], _ => ⟨M, by simpa [frozen, upd_nil] using h, Mem.Le.refl M w, rfl, rfl, by simp⟩
  | q :: ro, hro => by
    obtain ⟨M1, h1, hle1, hob1, hbx1, hst1⟩ := HRel.freezeAll h ro (fun x hx => hro x (by simp [hx]))
    have hq : ∃ fz, upd O (frozen ro) q.1 = some (some (fz, q.2.2)) := by
      unfold upd
      cases hf : (frozen ro).find? (fun p => p.1 == q.1) with
      | none => exact ⟨q.2.1, hro q (by simp)⟩
      | some p =>
        have hm := List.mem_of_find?_eq_some hf
        have hk := List.find?_some hf
        simp only [frozen, List.mem_map] at hm
        obtain ⟨x, hx, rfl⟩ := hm
        simp at hk
        have e1 := hro x (by simp [hx])
        have e2 := hro q (by simp)
        rw [hk] at e1
        rw [e1] at e2
        simp only [Option.some.injEq] at e2
        exact ⟨true, by rw [e2]⟩
    obtain ⟨fz, hq⟩ := hq
    obtain ⟨M2, h2, hle2, hob2, hbx2⟩ := h1.freeze (k := q.1) (fz := fz) (sz := q.2.2.1) (rows := q.2.2.2) hq
    refine ⟨M2, ?_, hle1.trans hle2, hob2.trans hob1, hbx2.trans hbx1, ?_⟩
    · show HRel w0 X S0 M2 B (upd O ((q.1, some (true, q.2.2)) :: frozen ro)) w
      rw [upd_cons]
      exact h2
    · intro x hx L hL hn
      rcases List.mem_cons.1 hx with rfl | hx
      · obtain ⟨_, hc⟩ := h2.obj' (k := x.1) (fz := true) (sz := x.2.2.1) (rows := x.2.2.2) (L := L) (by rw [upd_one, if_pos rfl]) (by rw [hob2, hob1]; exact hL)
        rcases hc with ⟨e, _⟩ | ⟨_, hf, _⟩
        · rw [hn] at e; cases e
        · exact hf rfl
      · exact hle2.st _ (hst1 x hx L hL hn)

/-- A call that answers slices: what it was shown of the caller's own slices is not written any more; its new slices are the caller's, under keys from n on. -/
theorem os_callF {P : Program} {o : Oper} {ts : List PV} {c : Call} {f n : Nat} {ps qs : List PV} {r : PV} {os : List (Nat × List (List PV))} {ro : List (Nat × Bool × Nat × List (List PV))} (ho : o.op = .call c) (hc : callee ts c.callee c.args.toList = some (f, ps)) (hres : ResL [] ro ps qs) (hspec : Ctr P f qs r os)
    (hkeys : ∀ q ∈ ro, ¬ (n ≤ q.1 ∧ q.1 < n + os.length)) :
    OpSem P o ⟨shift n r, [], ro, [], (List.range os.length).map (n + ·), [], newObjs n os ++ frozen ro⟩ ts := by
  intro w0 X S0 M s a w Q K hr hl hs hk
  obtain ⟨vs, hvs, hrun⟩ := callee_sound (P := P) hr ho hl hc
  obtain ⟨M1, h1, hle1, hob1, hbx1, hst1⟩ := hr.toHRel.freezeAll ro hs.2.1
  have hq := ResL.sound hr.toHRel (rb := []) (by simp) hs.2.1 ps qs vs hres hvs
  have hsub : ∀ b, shown M [] ro b → M1.st b := by
    rintro b (h | ⟨q, hq, _⟩ | ⟨q, hq, L, h2, h3, rfl⟩)
    · exact hle1.st b h
    · simp at hq
    · exact hst1 q hq L h2 h3
  have hS := hspec.run w (shown M [] ro) vs (shown_le hr.toHRel (rb := []) (by simp) hs.2.1) hq
  unfold Oper.wp
  rw [hrun]
  have hfree : ∀ k, n ≤ k → k < n + os.length → upd s.O (frozen ro) k = none := by
    intro k h1 h2
    rw [upd_ne]
    · exact hs.2.2.2 k (List.mem_map.2 ⟨k - n, List.mem_range.2 (by omega), by omega⟩)
    · intro hm
      simp only [frozen, List.map_map, List.mem_map] at hm
      obtain ⟨q, hq, e⟩ := hm
      simp at e
      exact hkeys q hq ⟨by omega, by omega⟩
  have fin : ∀ e w', (∃ v M', e = Ending.returned v ∧ RV M' w' r v ∧ HRel w (fun _ => False) (Base.of (shown M [] ro)) M' (fun _ => none) (osMap os) w') → ∃ v, e = .returned v ∧ K (a.put o.dst v) w' := by
    rintro e w' ⟨v, M', he, hrv, hrel⟩
    obtain ⟨M'', hm, hle, hsh⟩ := h1.merge hrel hsub n hfree
    refine ⟨v, he, hk M'' _ _ ?_⟩
    have happ : upd (upd s.O (frozen ro)) (newObjs n os) = upd s.O (newObjs n os ++ frozen ro) := by
      funext k
      unfold upd
      rw [List.find?_append]
      cases (newObjs n os).find? (fun p => p.1 == k) <;> simp
    have hr' : Rel w0 X S0 M'' ⟨s.tmps, s.B, upd s.O (newObjs n os ++ frozen ro)⟩ a w' := ⟨by rw [← happ]; exact hm, hr.dfr, hr.len, fun t => RV.mono (hle1.trans hle) _ _ (hr.tmp t)⟩
    have := rel_put hr' o.dst (RV.shift hsh r v hrv)
    simpa [St.apply, upd_nil] using this
  rcases hS with ⟨h1, h2⟩ | ⟨v, w', h1, h2⟩
  · rw [h1, Oper.upon_enter]
    refine h2.mono ?_
    intro e w' he
    obtain ⟨v, rfl, hK⟩ := fin e w' he
    exact hK
  · rw [h1, Oper.upon_value]
    obtain ⟨v', e, hK⟩ := fin _ w' h2
    cases e
    exact hK

end Go.Pv
