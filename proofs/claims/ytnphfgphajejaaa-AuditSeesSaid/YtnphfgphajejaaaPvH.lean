/-
  How the memory of a call changes: boxes, objects, stable blocks. Generic over the program.
-/
import Derived.Test.YtnphfgphajejaaaPvB
namespace Go.Pv

abbrev BMap := Nat → Option (List PV)
abbrev OMap := Nat → Option (Option (Bool × Nat × List (List PV)))

section
variable {w0 : World} {X : Nat → Prop} {S0 : Base} {M : Mem} {B : BMap} {O : OMap} {w : World}

theorem upd_one {α : Type} (f : Nat → Option α) (k : Nat) (v : α) (j : Nat) : upd f [(k, v)] j = if j = k then some v else f j := by
  unfold upd
  by_cases h : j = k
  · simp [h]
  · have : ¬ k = j := fun e => h e.symm
    simp [this, h]

theorem HRel.box' (h : HRel w0 X S0 M B O w) {k b : Nat} {ls : List PV} (hk : B k = some ls) (hb : M.bx k = some b) : Own w0 X M b ∧ ∃ T cs, w.heap[b]? = some (.cells cs T (0, 0)) ∧ RVL M w ls cs.toList := by
  obtain ⟨b', T, cs, h1, h2, h3, h4⟩ := h.box k ls hk
  rw [hb] at h1; cases h1
  exact ⟨h2, T, cs, h3, h4⟩

theorem HRel.setBox (h : HRel w0 X S0 M B O w) {k b : Nat} {T : TypeId} {cs cs' : Array Value} {ls ls' : List PV} (hk : B k = some ls) (hb : M.bx k = some b) (hh : w.heap[b]? = some (.cells cs T (0, 0))) (hr : RVL M w ls' cs'.toList) :
    HRel w0 X S0 M (upd B [(k, ls')]) O (w.setRow b cs') ∧ M.Le M w (w.setRow b cs') := by
  obtain ⟨hown, _⟩ := h.box' hk hb
  have hne : ∀ x, M.st x → x ≠ b := fun x hx e => hown.2 (e ▸ hx)
  have hle : M.Le M w (w.setRow b cs') := ⟨fun _ h => h, fun _ _ h => h, fun _ _ h => h, fun x hx => setRow_other w b x cs' (hne x hx)⟩
  refine ⟨{ os := h.os, tape := h.tape, out := h.out, size := by simpa using h.size, kept := ?_, stlt := by simpa using h.stlt, stok := h.stok, box := ?_, boxKey := ?_, obj := ?_, objKey := h.objKey, boxNe := h.boxNe, objNe := h.objNe, boxObj := h.boxObj, pinB := fun k b hk => hle.bx k b (h.pinB k b hk), pinO := fun k L hk => hle.ob k L (h.pinO k L hk) }, hle⟩
  · intro x hx hX
    have : x ≠ b := by
      intro e; subst e
      rcases hown.1 with h1 | h1
      · omega
      · exact hX h1
    rw [setRow_other w b x cs' this]
    exact h.kept x hx hX
  · intro j lj hj
    rw [upd_one] at hj
    by_cases e : j = k
    · subst e
      rw [if_pos rfl] at hj; cases hj
      exact ⟨b, T, cs', hb, hown, setRow_heap w b cs cs' T (0, 0) hh, RVL.mono hle _ _ hr⟩
    · rw [if_neg e] at hj
      obtain ⟨b', T', cs'', h1, h2, h3, h4⟩ := h.box j lj hj
      have : b' ≠ b := fun eb => e (h.boxNe j k b' h1 (eb ▸ hb))
      exact ⟨b', T', cs'', h1, h2, by rw [setRow_other w b b' cs' this]; exact h3, RVL.mono hle _ _ h4⟩
  · intro j b' hj
    rw [upd_one]
    by_cases e : j = k
    · exact ⟨ls', by simp [e]⟩
    · rw [if_neg e]; exact h.boxKey j b' hj
  · intro j fz sz rows hj
    obtain ⟨L, h1, h2, h3⟩ := h.obj j fz sz rows hj
    refine ⟨L, h1, h2, ?_⟩
    rcases h3 with h3 | ⟨h3, hf, ho, c, E, h5, h6, h7, h8, h9⟩
    · exact .inl h3
    · have : L.b ≠ b := by
        cases fz with
        | true => exact hne _ (hf rfl)
        | false => exact fun e => h.boxObj k j b _ L hb hj h1 h3 e.symm
      exact .inr ⟨h3, hf, ho, c, E, by rw [setRow_other w b L.b cs' this]; exact h5, h6, h7, h8, RVR.mono hle.cl _ _ _ h9⟩

theorem heap_alloc_ne (w : World) (o : Obj) {b : Nat} (h : b < w.heap.size) : (w.alloc o).heap[b]? = w.heap[b]? := RowKit.Below.heap_alloc w o b h
theorem heap_alloc_eq (w : World) (o : Obj) : (w.alloc o).heap[w.heap.size]? = some o := heap_alloc_new w o

theorem lt_of_heap {w : World} {b : Nat} {o : Obj} (h : w.heap[b]? = some o) : b < w.heap.size := (Array.getElem?_eq_some_iff.1 h).1

theorem HRel.allocBox (h : HRel w0 X S0 M B O w) {d : Nat} (hd : B d = none) (cs : Array Value) (T : TypeId) {ls : List PV} (hr : RVL M w ls cs.toList) :
    ∃ M', HRel w0 X S0 M' (upd B [(d, ls)]) O (w.alloc (.cells cs T)) ∧ M.Le M' w (w.alloc (.cells cs T)) ∧ M'.bx d = some w.heap.size := by
  have hMd : M.bx d = none := by
    cases hx : M.bx d with
    | none => rfl
    | some b => obtain ⟨ls, hl⟩ := h.boxKey d b hx; rw [hd] at hl; cases hl
  let M' : Mem := ⟨M.st, fun k => if k = d then some w.heap.size else M.bx k, M.ob⟩
  have hbx : ∀ k b, M.bx k = some b → M'.bx k = some b := by
    intro k b hk
    show (if k = d then some w.heap.size else M.bx k) = some b
    rw [if_neg (fun e => by rw [e, hMd] at hk; cases hk)]; exact hk
  have hle : M.Le M' w (w.alloc (.cells cs T)) := ⟨fun _ h => h, hbx, fun _ _ h => h, fun x hx => heap_alloc_ne w _ (h.stlt x hx)⟩
  have hinv : ∀ k b, M'.bx k = some b → (k = d ∧ b = w.heap.size) ∨ (k ≠ d ∧ M.bx k = some b ∧ b < w.heap.size) := by
    intro k b hk
    by_cases e : k = d
    · left
      have : (if k = d then some w.heap.size else M.bx k) = some b := hk
      rw [if_pos e] at this; cases this; exact ⟨e, rfl⟩
    · right
      have : (if k = d then some w.heap.size else M.bx k) = some b := hk
      rw [if_neg e] at this
      obtain ⟨ls, hl⟩ := h.boxKey k b this
      obtain ⟨_, T, cs, hh, _⟩ := h.box' hl this
      exact ⟨e, this, lt_of_heap hh⟩
  refine ⟨M', { os := h.os, tape := h.tape, out := h.out, size := by simp; have := h.size; omega, kept := ?_, stlt := ?_, stok := h.stok, box := ?_, boxKey := ?_, obj := ?_, objKey := h.objKey, boxNe := ?_, objNe := h.objNe, boxObj := ?_, pinB := fun k b hk => hle.bx k b (h.pinB k b hk), pinO := fun k L hk => hle.ob k L (h.pinO k L hk) }, hle, by show (if d = d then some w.heap.size else M.bx d) = _; simp⟩
  · intro x hx hX
    rw [heap_alloc_ne w _ (Nat.lt_of_lt_of_le hx h.size)]
    exact h.kept x hx hX
  · intro x hx
    have := h.stlt x hx
    simp; omega
  · intro j lj hj
    rw [upd_one] at hj
    by_cases e : j = d
    · subst e
      rw [if_pos rfl] at hj; cases hj
      refine ⟨w.heap.size, T, cs, by show (if j = j then some w.heap.size else M.bx j) = _; simp, ⟨.inl h.size, fun hs => by have := h.stlt _ hs; omega⟩, heap_alloc_eq w _, RVL.mono hle _ _ hr⟩
    · rw [if_neg e] at hj
      obtain ⟨b', T', cs'', h1, h2, h3, h4⟩ := h.box j lj hj
      exact ⟨b', T', cs'', hbx _ _ h1, h2, by rw [heap_alloc_ne w _ (lt_of_heap h3)]; exact h3, RVL.mono hle _ _ h4⟩
  · intro j b' hj
    rw [upd_one]
    rcases hinv j b' hj with ⟨e, _⟩ | ⟨e, hm, _⟩
    · exact ⟨ls, by simp [e]⟩
    · rw [if_neg e]; exact h.boxKey j b' hm
  · intro j fz sz rows hj
    obtain ⟨L, h1, h2, h3⟩ := h.obj j fz sz rows hj
    refine ⟨L, h1, h2, ?_⟩
    rcases h3 with h3 | ⟨h3, hf, ho, c, E, h5, h6, h7, h8, h9⟩
    · exact .inl h3
    · exact .inr ⟨h3, hf, ho, c, E, by rw [heap_alloc_ne w _ (lt_of_heap h5)]; exact h5, h6, h7, h8, RVR.mono hle.cl _ _ _ h9⟩
  · intro k k' b hk hk'
    rcases hinv k b hk with ⟨e, eb⟩ | ⟨e, hm, hlt⟩
    · rcases hinv k' b hk' with ⟨e', _⟩ | ⟨_, _, hlt'⟩
      · rw [e, e']
      · omega
    · rcases hinv k' b hk' with ⟨_, eb'⟩ | ⟨_, hm', _⟩
      · omega
      · exact h.boxNe k k' b hm hm'
  · intro k k' b o L hk ho hL hn
    rcases hinv k b hk with ⟨e, eb⟩ | ⟨e, hm, hlt⟩
    · obtain ⟨L', h1, h2, h3⟩ := h.obj k' false o.1 o.2 ho
      have hL' : M.ob k' = some L := hL
      rw [hL'] at h1; cases h1
      rcases h3 with ⟨h3, _⟩ | ⟨_, _, _, c, E, h5, _⟩
      · rw [hn] at h3; cases h3
      · have := lt_of_heap h5; omega
    · exact h.boxObj k k' b o L hm ho hL hn

theorem HRel.allocSt (h : HRel w0 X S0 M B O w) (o : Obj) :
    ∃ M', HRel w0 X S0 M' B O (w.alloc o) ∧ M.Le M' w (w.alloc o) ∧ M'.st w.heap.size := by
  let M' : Mem := ⟨fun b => M.st b ∨ b = w.heap.size, M.bx, M.ob⟩
  have hle : M.Le M' w (w.alloc o) := ⟨fun _ h => .inl h, fun _ _ h => h, fun _ _ h => h, fun x hx => heap_alloc_ne w _ (h.stlt x hx)⟩
  have hown : ∀ b, b < w.heap.size → Own w0 X M b → Own w0 X M' b := fun b hb ⟨h1, h2⟩ => ⟨h1, fun hs => by rcases hs with hs | hs; exact h2 hs; omega⟩
  refine ⟨M', { os := h.os, tape := h.tape, out := h.out, size := by simp; have := h.size; omega, kept := ?_, stlt := ?_, stok := (fun b hb => by rcases hb with hb | hb; exact h.stok b hb; exact .inr (.inl (by rw [hb]; exact h.size))), box := ?_, boxKey := h.boxKey, obj := ?_, objKey := h.objKey, boxNe := h.boxNe, objNe := h.objNe, boxObj := h.boxObj, pinB := fun k b hk => hle.bx k b (h.pinB k b hk), pinO := fun k L hk => hle.ob k L (h.pinO k L hk) }, hle, .inr rfl⟩
  · intro x hx hX
    rw [heap_alloc_ne w _ (Nat.lt_of_lt_of_le hx h.size)]
    exact h.kept x hx hX
  · intro x hx
    simp
    rcases hx with hx | hx
    · have := h.stlt x hx; omega
    · omega
  · intro j lj hj
    obtain ⟨b', T', cs'', h1, h2, h3, h4⟩ := h.box j lj hj
    exact ⟨b', T', cs'', h1, hown _ (lt_of_heap h3) h2, by rw [heap_alloc_ne w _ (lt_of_heap h3)]; exact h3, RVL.mono hle _ _ h4⟩
  · intro j fz sz rows hj
    obtain ⟨L, h1, h2, h3⟩ := h.obj j fz sz rows hj
    refine ⟨L, h1, h2, ?_⟩
    rcases h3 with h3 | ⟨h3, hf, ho, c, E, h5, h6, h7, h8, h9⟩
    · exact .inl h3
    · exact .inr ⟨h3, fun e => .inl (hf e), fun e => hown _ (lt_of_heap h5) (ho e), c, E, by rw [heap_alloc_ne w _ (lt_of_heap h5)]; exact h5, h6, h7, h8, RVR.mono hle.cl _ _ _ h9⟩

/-- A new key for an object: what is known of the others stays. -/
theorem HRel.ob_none (h : HRel w0 X S0 M B O w) {k : Nat} (hk : O k = none) : M.ob k = none := by
  cases hx : M.ob k with
  | none => rfl
  | some L => obtain ⟨o, ho⟩ := h.objKey k L hx; rw [hk] at ho; cases ho

theorem HRel.obj' (h : HRel w0 X S0 M B O w) {k : Nat} {fz : Bool} {sz : Nat} {rows : List (List PV)} {L : Loc} (hk : O k = some (some (fz, sz, rows))) (hL : M.ob k = some L) :
    L.sz = sz ∧ ((L.nil = true ∧ rows = []) ∨ (L.nil = false ∧ (fz = true → M.st L.b) ∧ (fz = false → Own w0 X M L.b) ∧ ∃ cs E, w.heap[L.b]? = some (.cells cs E (0, 0)) ∧ cs.size = L.cap * sz ∧ rows.length ≤ L.cap ∧ L.cap ≤ maxLen ∧ RVR M.cl w sz rows cs.toList)) := by
  obtain ⟨L', h1, h2, h3⟩ := h.obj k fz sz rows hk
  rw [hL] at h1; cases h1
  exact ⟨h2, h3⟩

/-- An object at a place that nobody else has: no cell of the world changes. -/
theorem HRel.addObj (h : HRel w0 X S0 M B O w) {k : Nat} (hk : O k = none) (L : Loc) {rows : List (List PV)}
    (hc : (L.nil = true ∧ rows = []) ∨ (L.nil = false ∧ Own w0 X M L.b ∧ ∃ cs E, w.heap[L.b]? = some (.cells cs E (0, 0)) ∧ cs.size = L.cap * L.sz ∧ rows.length ≤ L.cap ∧ L.cap ≤ maxLen ∧ RVR M.cl w L.sz rows cs.toList))
    (hbox : ∀ j b, M.bx j = some b → L.nil = false → b ≠ L.b) (hobj : ∀ j o L', O j = some (some (false, o)) → M.ob j = some L' → L'.nil = false → L.nil = false → L'.b ≠ L.b) :
    ∃ M', HRel w0 X S0 M' B (upd O [(k, some (false, L.sz, rows))]) w ∧ M.Le M' w w ∧ M'.ob k = some L := by
  have hMk := h.ob_none hk
  let M' : Mem := ⟨M.st, M.bx, fun j => if j = k then some L else M.ob j⟩
  have hob : ∀ j L', M.ob j = some L' → M'.ob j = some L' := by
    intro j L' hj
    show (if j = k then some L else M.ob j) = some L'
    rw [if_neg (fun e => by rw [e, hMk] at hj; cases hj)]; exact hj
  have hle : M.Le M' w w := ⟨fun _ h => h, fun _ _ h => h, hob, fun _ _ => rfl⟩
  have hinv : ∀ j L', M'.ob j = some L' → (j = k ∧ L' = L) ∨ (j ≠ k ∧ M.ob j = some L') := by
    intro j L' hj
    have hj' : (if j = k then some L else M.ob j) = some L' := hj
    by_cases e : j = k
    · rw [if_pos e] at hj'; cases hj'; exact .inl ⟨e, rfl⟩
    · rw [if_neg e] at hj'; exact .inr ⟨e, hj'⟩
  have holo : ∀ j o, j ≠ k → upd O [(k, some (false, L.sz, rows))] j = o → O j = o := fun j o e ho => by rw [upd_one, if_neg e] at ho; exact ho
  refine ⟨M', { os := h.os, tape := h.tape, out := h.out, size := h.size, kept := h.kept, stlt := h.stlt, stok := h.stok, box := ?_, boxKey := h.boxKey, obj := ?_, objKey := ?_, boxNe := h.boxNe, objNe := ?_, boxObj := ?_, pinB := fun k b hk => hle.bx k b (h.pinB k b hk), pinO := fun k L hk => hle.ob k L (h.pinO k L hk) }, hle, by show (if k = k then some L else M.ob k) = _; simp⟩
  · intro j lj hj
    obtain ⟨b', T', cs'', h1, h2, h3, h4⟩ := h.box j lj hj
    exact ⟨b', T', cs'', h1, h2, h3, RVL.mono hle _ _ h4⟩
  · intro j fz sz rs hj
    by_cases e : j = k
    · subst e
      rw [upd_one, if_pos rfl] at hj
      simp only [Option.some.injEq, Prod.mk.injEq] at hj
      obtain ⟨rfl, rfl, rfl⟩ := hj
      refine ⟨L, by show (if j = j then some L else M.ob j) = _; simp, rfl, ?_⟩
      rcases hc with hc | ⟨hn, ho, cs, E, h5, h6, h7, h8, h9⟩
      · exact .inl hc
      · exact .inr ⟨hn, (fun e => by cases e), fun _ => ho, cs, E, h5, h6, h7, h8, RVR.mono hle.cl _ _ _ h9⟩
    · have hj := holo j _ e hj
      obtain ⟨L', h1, h2, h3⟩ := h.obj j fz sz rs hj
      refine ⟨L', hob _ _ h1, h2, ?_⟩
      rcases h3 with h3 | ⟨h3, hf, ho, c, E, h5, h6, h7, h8, h9⟩
      · exact .inl h3
      · exact .inr ⟨h3, hf, ho, c, E, h5, h6, h7, h8, RVR.mono hle.cl _ _ _ h9⟩
  · intro j L' hj
    rw [upd_one]
    rcases hinv j L' hj with ⟨e, _⟩ | ⟨e, hm⟩
    · exact ⟨_, if_pos e⟩
    · rw [if_neg e]; exact h.objKey j L' hm
  · intro i j o o' Li Lj hi hj hLi hLj hni hnj heq
    rcases hinv i Li hLi with ⟨e, eL⟩ | ⟨e, hm⟩
    · rcases hinv j Lj hLj with ⟨e', _⟩ | ⟨e', hm'⟩
      · rw [e, e']
      · subst eL
        exact absurd heq.symm (hobj j o' Lj (holo j _ e' hj) hm' hnj hni)
    · rcases hinv j Lj hLj with ⟨e', eL⟩ | ⟨e', hm'⟩
      · subst eL
        exact absurd heq (hobj i o Li (holo i _ e hi) hm hni hnj)
      · exact h.objNe i j o o' Li Lj (holo i _ e hi) (holo j _ e' hj) hm hm' hni hnj heq
  · intro i j b o Lj hi hj hLj hnj
    rcases hinv j Lj hLj with ⟨e', eL⟩ | ⟨e', hm'⟩
    · subst eL; exact hbox i b hi hnj
    · exact h.boxObj i j b o Lj hi (holo j _ e' hj) hm' hnj

/-- An object is used up: it is no longer read. -/
theorem HRel.killObj (h : HRel w0 X S0 M B O w) (k : Nat) : HRel w0 X S0 M B (upd O [(k, none)]) w := by
  have holo : ∀ j q, upd O [(k, none)] j = some (some q) → O j = some (some q) ∧ j ≠ k := by
    intro j q hj
    rw [upd_one] at hj
    by_cases e : j = k
    · rw [if_pos e] at hj; simp at hj
    · rw [if_neg e] at hj; exact ⟨hj, e⟩
  refine { os := h.os, tape := h.tape, out := h.out, size := h.size, kept := h.kept, stlt := h.stlt, stok := h.stok, box := h.box, boxKey := h.boxKey, obj := ?_, objKey := ?_, boxNe := h.boxNe, objNe := ?_, boxObj := ?_, pinB := h.pinB, pinO := h.pinO }
  · intro j fz sz rs hj; exact h.obj j fz sz rs (holo j _ hj).1
  · intro j L hj
    rw [upd_one]
    by_cases e : j = k
    · exact ⟨_, if_pos e⟩
    · rw [if_neg e]; exact h.objKey j L hj
  · intro i j o o' Li Lj hi hj; exact h.objNe i j o o' Li Lj (holo i _ hi).1 (holo j _ hj).1
  · intro i j b o L hi hj; exact h.boxObj i j b o L hi (holo j _ hj).1

/-- The cells of a live object's block are written, or a block that has no key any more: whoever reads it is gone. -/
theorem HRel.setFree (h : HRel w0 X S0 M B O w) {b : Nat} (hown : Own w0 X M b) (hbox : ∀ k, M.bx k ≠ some b) (hobj : ∀ k o L, O k = some (some (false, o)) → M.ob k = some L → L.nil = false → L.b ≠ b) (cs' : Array Value) :
    HRel w0 X S0 M B O (w.setRow b cs') ∧ M.Le M w (w.setRow b cs') := by
  have hne : ∀ x, M.st x → x ≠ b := fun x hx e => hown.2 (e ▸ hx)
  have hle : M.Le M w (w.setRow b cs') := ⟨fun _ h => h, fun _ _ h => h, fun _ _ h => h, fun x hx => setRow_other w b x cs' (hne x hx)⟩
  refine ⟨{ os := h.os, tape := h.tape, out := h.out, size := by simpa using h.size, kept := ?_, stlt := by simpa using h.stlt, stok := h.stok, box := ?_, boxKey := h.boxKey, obj := ?_, objKey := h.objKey, boxNe := h.boxNe, objNe := h.objNe, boxObj := h.boxObj, pinB := fun k b hk => hle.bx k b (h.pinB k b hk), pinO := fun k L hk => hle.ob k L (h.pinO k L hk) }, hle⟩
  · intro x hx hX
    have : x ≠ b := by
      intro e; subst e
      rcases hown.1 with h1 | h1
      · omega
      · exact hX h1
    rw [setRow_other w b x cs' this]
    exact h.kept x hx hX
  · intro j lj hj
    obtain ⟨b', T', cs'', h1, h2, h3, h4⟩ := h.box j lj hj
    have : b' ≠ b := fun e => hbox j (e ▸ h1)
    exact ⟨b', T', cs'', h1, h2, by rw [setRow_other w b b' cs' this]; exact h3, RVL.mono hle _ _ h4⟩
  · intro j fz sz rs hj
    obtain ⟨L, h1, h2, h3⟩ := h.obj j fz sz rs hj
    refine ⟨L, h1, h2, ?_⟩
    rcases h3 with h3 | ⟨h3, hf, ho, c, E, h5, h6, h7, h8, h9⟩
    · exact .inl h3
    · have : L.b ≠ b := by
        cases fz with
        | true => exact hne _ (hf rfl)
        | false => exact hobj j _ L hj h1 h3
      exact .inr ⟨h3, hf, ho, c, E, by rw [setRow_other w b L.b cs' this]; exact h5, h6, h7, h8, RVR.mono hle.cl _ _ _ h9⟩

/-- A draw. -/
theorem HRel.drew (h : HRel w0 X S0 M B O w) : HRel w0 X S0 M B O w.drew ∧ M.Le M w w.drew :=
  have hle : M.Le M w w.drew := ⟨fun _ h => h, fun _ _ h => h, fun _ _ h => h, fun _ _ => rfl⟩
  ⟨h.world hle rfl rfl rfl (Nat.le_refl _) (fun _ _ => rfl), hle⟩

/-- A live object becomes stable: nobody writes it any more. -/
theorem HRel.freeze (h : HRel w0 X S0 M B O w) {k : Nat} {fz : Bool} {sz : Nat} {rows : List (List PV)} (hk : O k = some (some (fz, sz, rows))) :
    ∃ M', HRel w0 X S0 M' B (upd O [(k, some (true, sz, rows))]) w ∧ M.Le M' w w ∧ M'.ob = M.ob ∧ M'.bx = M.bx := by
  obtain ⟨L, hL, hsz, hcase⟩ := h.obj k fz sz rows hk
  have hlt : L.nil = false → L.b < w.heap.size := by
    intro hn
    rcases hcase with ⟨h1, _⟩ | ⟨_, _, _, cs, E, h5, _⟩
    · rw [hn] at h1; cases h1
    · exact lt_of_heap h5
  let M' : Mem := ⟨fun b => M.st b ∨ (L.nil = false ∧ b = L.b), M.bx, M.ob⟩
  have hle : M.Le M' w w := ⟨fun _ h => .inl h, fun _ _ h => h, fun _ _ h => h, fun _ _ => rfl⟩
  have holo : ∀ j q, upd O [(k, some (true, sz, rows))] j = some (some (false, q)) → O j = some (some (false, q)) ∧ j ≠ k := by
    intro j q hj
    rw [upd_one] at hj
    by_cases e : j = k
    · rw [if_pos e] at hj; simp at hj
    · rw [if_neg e] at hj; exact ⟨hj, e⟩
  refine ⟨M', { os := h.os, tape := h.tape, out := h.out, size := h.size, kept := h.kept, stlt := ?_, stok := ?_, box := ?_, boxKey := h.boxKey, obj := ?_, objKey := ?_, boxNe := h.boxNe, objNe := ?_, boxObj := ?_, pinB := fun k b hk => hle.bx k b (h.pinB k b hk), pinO := fun k L hk => hle.ob k L (h.pinO k L hk) }, hle, rfl, rfl⟩
  · intro b hb
    rcases hb with hb | ⟨hn, rfl⟩
    · exact h.stlt b hb
    · exact hlt hn
  · intro b hb
    rcases hb with hb | ⟨hn, rfl⟩
    · exact h.stok b hb
    · rcases hcase with ⟨h1, _⟩ | ⟨_, hf, ho, _⟩
      · rw [hn] at h1; cases h1
      · cases fz with
        | true => exact h.stok _ (hf rfl)
        | false => exact .inr (ho rfl).1
  · intro j lj hj
    obtain ⟨b', T', cs'', h1, h2, h3, h4⟩ := h.box j lj hj
    refine ⟨b', T', cs'', h1, ⟨h2.1, ?_⟩, h3, RVL.mono hle _ _ h4⟩
    rintro (hs | ⟨hn, rfl⟩)
    · exact h2.2 hs
    · cases fz with
      | true =>
        rcases hcase with ⟨h1, _⟩ | ⟨_, hf, _⟩
        · rw [hn] at h1; cases h1
        · exact h2.2 (hf rfl)
      | false => exact h.boxObj j k L.b _ L h1 hk hL hn rfl
  · intro j fz' sz' rs hj
    by_cases e : j = k
    · subst e
      rw [upd_one, if_pos rfl] at hj
      simp only [Option.some.injEq, Prod.mk.injEq] at hj
      obtain ⟨rfl, rfl, rfl⟩ := hj
      refine ⟨L, hL, hsz, ?_⟩
      rcases hcase with hc | ⟨hn, _, _, cs, E, h5, h6, h7, h8, h9⟩
      · exact .inl hc
      · exact .inr ⟨hn, fun _ => .inr ⟨hn, rfl⟩, (fun e => by cases e), cs, E, h5, h6, h7, h8, RVR.mono hle.cl _ _ _ h9⟩
    · rw [upd_one, if_neg e] at hj
      obtain ⟨L', h1, h2, h3⟩ := h.obj j fz' sz' rs hj
      refine ⟨L', h1, h2, ?_⟩
      rcases h3 with h3 | ⟨h3, hf, ho, c, E, h5, h6, h7, h8, h9⟩
      · exact .inl h3
      · refine .inr ⟨h3, fun e => .inl (hf e), fun ef => ⟨(ho ef).1, ?_⟩, c, E, h5, h6, h7, h8, RVR.mono hle.cl _ _ _ h9⟩
        rintro (hs | ⟨hn, hb⟩)
        · exact (ho ef).2 hs
        · subst ef
          cases fz with
          | true =>
            rcases hcase with ⟨h1, _⟩ | ⟨_, hf', _⟩
            · rw [hn] at h1; cases h1
            · exact (ho rfl).2 (hb ▸ hf' rfl)
          | false => exact e (h.objNe j k _ _ L' L hj hk h1 hL h3 hn hb)
  · intro j L' hj
    rw [upd_one]
    by_cases e : j = k
    · exact ⟨_, if_pos e⟩
    · rw [if_neg e]; exact h.objKey j L' hj
  · intro i j o o' Li Lj hi hj; exact h.objNe i j o o' Li Lj (holo i _ hi).1 (holo j _ hj).1
  · intro i j b o L' hi hj; exact h.boxObj i j b o L' hi (holo j _ hj).1

end
end Go.Pv
