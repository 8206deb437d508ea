/-
  The abstract state of a call, its tie to the model's world, the effect of one operation, and a region's operations in whatever order the model draws. Generic over the program.
-/
import Derived.Test.YtnphfgphajejaaaPvA
namespace Go.Pv

structure St where
  tmps : List PV
  B : Nat → Option (List PV)
  O : Nat → Option (Option (Bool × Nat × List (List PV)))

/-- A constant: the nil slice has a form of its own. -/
def cst (v : Value) : PV := match v with
  | .slice none 0 0 => .nl
  | v => .sc v

def aev (ts : List PV) : Operand → PV
  | .tmp t => ts.getD t .bad
  | .const v => cst v
  | .global g => .sc (.pointer (some ⟨g, 0, none⟩))
  | .func f => .cl f []

/-- What a call begins with: the blocks that nobody writes; and what the caller holds on to: boxes and slices under keys from 1000000 on, each in the place where it is. -/
structure Base where
  st : Nat → Prop
  pb : Nat → Option Nat
  po : Nat → Option Loc
  hb : ∀ k b, pb k = some b → 1000000 ≤ k
  ho : ∀ k L, po k = some L → 1000000 ≤ k

def Base.of (st : Nat → Prop) : Base := ⟨st, fun _ => none, fun _ => none, (fun _ _ h => by cases h), (fun _ _ h => by cases h)⟩

def Own (w0 : World) (X : Nat → Prop) (M : Mem) (b : Nat) : Prop := (w0.heap.size ≤ b ∨ X b) ∧ ¬ M.st b

/-- The memory of a call: what was there (but for the blocks of X) is as it was; boxes and live objects lie in blocks of the call's own; a frozen object, as all that is stable, is never written again. -/
structure HRel (w0 : World) (X : Nat → Prop) (S0 : Base) (M : Mem) (B : Nat → Option (List PV)) (O : Nat → Option (Option (Bool × Nat × List (List PV)))) (w : World) : Prop where
  os : w.os = w0.os
  tape : w.tape = w0.tape
  out : w.output = w0.output
  size : w0.heap.size ≤ w.heap.size
  kept : ∀ b, b < w0.heap.size → ¬ X b → w.heap[b]? = w0.heap[b]?
  stlt : ∀ b, M.st b → b < w.heap.size
  stok : ∀ b, M.st b → S0.st b ∨ w0.heap.size ≤ b ∨ X b
  box : ∀ k ls, B k = some ls → ∃ b T cs, M.bx k = some b ∧ Own w0 X M b ∧ w.heap[b]? = some (.cells cs T (0, 0)) ∧ RVL M w ls cs.toList
  boxKey : ∀ k b, M.bx k = some b → ∃ ls, B k = some ls
  obj : ∀ k fz sz rows, O k = some (some (fz, sz, rows)) → ∃ L, M.ob k = some L ∧ L.sz = sz ∧
    ((L.nil = true ∧ rows = []) ∨ (L.nil = false ∧ (fz = true → M.st L.b) ∧ (fz = false → Own w0 X M L.b) ∧ ∃ cs E, w.heap[L.b]? = some (.cells cs E (0, 0)) ∧ cs.size = L.cap * sz ∧ rows.length ≤ L.cap ∧ L.cap ≤ maxLen ∧ RVR M.cl w sz rows cs.toList))
  objKey : ∀ k L, M.ob k = some L → ∃ o, O k = some o
  boxNe : ∀ k k' b, M.bx k = some b → M.bx k' = some b → k = k'
  objNe : ∀ k k' o o' L L', O k = some (some (false, o)) → O k' = some (some (false, o')) → M.ob k = some L → M.ob k' = some L' → L.nil = false → L'.nil = false → L.b = L'.b → k = k'
  boxObj : ∀ k k' b o L, M.bx k = some b → O k' = some (some (false, o)) → M.ob k' = some L → L.nil = false → b ≠ L.b
  pinB : ∀ k b, S0.pb k = some b → M.bx k = some b
  pinO : ∀ k L, S0.po k = some L → M.ob k = some L

structure Rel (w0 : World) (X : Nat → Prop) (S0 : Base) (M : Mem) (s : St) (a : Act) (w : World) : Prop extends HRel w0 X S0 M s.B s.O w where
  dfr : a.defers = []
  len : s.tmps.length = a.tmps.size
  tmp : ∀ t, RV M w (s.tmps.getD t .bad) (a.tmps.getD t undef)

theorem Rel.eval {w0 : World} {X : Nat → Prop} {S0 : Base} {M : Mem} {s : St} {a : Act} {w : World} (h : Rel w0 X S0 M s a w) (x : Operand) : RV M w (aev s.tmps x) (a.eval x) := by
  cases x with
  | tmp t => exact h.tmp t
  | const v =>
    simp only [aev, Act.eval, cst]
    split
    · simp only [RV]; exact ⟨none, rfl⟩
    · simp [RV]
  | global g => simp [aev, Act.eval, RV]
  | func f => simp [aev, Act.eval, RV, RVL]

theorem HRel.world {w0 : World} {X : Nat → Prop} {S0 : Base} {M : Mem} {B : Nat → Option (List PV)} {O : Nat → Option (Option (Bool × Nat × List (List PV)))} {w w' : World} (h : HRel w0 X S0 M B O w) (hle : M.Le M w w')
    (ho : w'.os = w.os) (ht : w'.tape = w.tape) (hu : w'.output = w.output) (hz : w.heap.size ≤ w'.heap.size) (hh : ∀ b, b < w.heap.size → w'.heap[b]? = w.heap[b]?) : HRel w0 X S0 M B O w' where
  os := ho.trans h.os
  tape := ht.trans h.tape
  out := hu.trans h.out
  size := Nat.le_trans h.size hz
  kept := fun b hb hx => (hh b (Nat.lt_of_lt_of_le hb h.size)).trans (h.kept b hb hx)
  stlt := fun b hb => Nat.lt_of_lt_of_le (h.stlt b hb) hz
  stok := h.stok
  box := fun k ls hk => by
    obtain ⟨b, T, cs, h1, h2, h3, h4⟩ := h.box k ls hk
    exact ⟨b, T, cs, h1, h2, (hh b (Array.getElem?_eq_some_iff.1 h3).1).trans h3, RVL.mono hle _ _ h4⟩
  boxKey := h.boxKey
  obj := fun k fz sz rows hk => by
    obtain ⟨L, h1, h2, h3⟩ := h.obj k fz sz rows hk
    refine ⟨L, h1, h2, ?_⟩
    rcases h3 with h3 | ⟨h3, h3', h4, cs, E, h5, h6, h7, h8, h9⟩
    · exact .inl h3
    · exact .inr ⟨h3, h3', h4, cs, E, (hh L.b (Array.getElem?_eq_some_iff.1 h5).1).trans h5, h6, h7, h8, RVR.mono hle.cl _ _ _ h9⟩
  objKey := h.objKey
  boxNe := h.boxNe
  objNe := h.objNe
  boxObj := h.boxObj
  pinB := fun k b hk => hle.bx k b (h.pinB k b hk)
  pinO := fun k L hk => hle.ob k L (h.pinO k L hk)

theorem Rel.world {w0 : World} {X : Nat → Prop} {S0 : Base} {M : Mem} {s : St} {a : Act} {w w' : World} (h : Rel w0 X S0 M s a w) (hle : M.Le M w w')
    (ho : w'.os = w.os) (ht : w'.tape = w.tape) (hu : w'.output = w.output) (hz : w.heap.size ≤ w'.heap.size) (hh : ∀ b, b < w.heap.size → w'.heap[b]? = w.heap[b]?) : Rel w0 X S0 M s a w' :=
  ⟨h.toHRel.world hle ho ht hu hz hh, h.dfr, h.len, fun t => RV.mono hle _ _ (h.tmp t)⟩

structure Eff where
  val : PV
  rb : List (Nat × List PV)
  ro : List (Nat × Bool × Nat × List (List PV))
  fb : List Nat
  fo : List Nat
  wb : List (Nat × List PV)
  wo : List (Nat × Option (Bool × Nat × List (List PV)))

def Sat (s : St) (E : Eff) : Prop :=
  (∀ p ∈ E.rb, s.B p.1 = some p.2) ∧ (∀ p ∈ E.ro, s.O p.1 = some (some p.2)) ∧ (∀ k ∈ E.fb, s.B k = none) ∧ (∀ k ∈ E.fo, s.O k = none)

def setT (ts : List PV) : Option Nat → PV → List PV
  | some d, v => ts.set d v
  | none, _ => ts

def upd {α : Type} (f : Nat → Option α) (l : List (Nat × α)) (k : Nat) : Option α :=
  match l.find? (fun p => p.1 == k) with
  | some p => some p.2
  | none => f k

def St.apply (s : St) (dst : Option Nat) (E : Eff) : St := ⟨setT s.tmps dst E.val, upd s.B E.wb, upd s.O E.wo⟩

/-- What one operation does, whatever the state that agrees with 'ts' on what it looks at. -/
def OpSem (P : Program) (o : Oper) (E : Eff) (ts : List PV) : Prop :=
  ∀ (w0 : World) (X : Nat → Prop) (S0 : Base) (M : Mem) (s : St) (a : Act) (w : World) (Q : Exit → Act → World → Prop) (K : Act → World → Prop),
    Rel w0 X S0 M s a w → (∀ x ∈ o.op.operands.toList, aev s.tmps x = aev ts x) → Sat s E →
    (∀ M' a' w', Rel w0 X S0 M' (s.apply o.dst E) a' w' → K a' w') → o.wp P a w K Q

def OpSemG (P : Program) (ops : Array Oper) (i : Nat) (o : Oper) (E : Eff) (ts : List PV) : Prop :=
  ∀ (w0 : World) (X : Nat → Prop) (S0 : Base) (M : Mem) (s : St) (a : Act) (w : World) (Q : Exit → Act → World → Prop) (K : Act → World → Prop),
    Rel w0 X S0 M s a w → (∀ t ∈ o.looksAt ops, s.tmps.getD t .bad = ts.getD t .bad) → Sat s E →
    (∀ M' a' w', Rel w0 X S0 M' (s.apply o.dst E) a' w' → K a' w') → wpOp P ops Q i K a w

def skipE : Eff := ⟨.sc undef, [], [], [], [], [], []⟩

theorem rel_put {w0 : World} {X : Nat → Prop} {S0 : Base} {M : Mem} {s : St} {a : Act} {w : World} (h : Rel w0 X S0 M s a w) (dst : Option Nat) {p : PV} {v : Value} (hv : RV M w p v) :
    Rel w0 X S0 M ⟨setT s.tmps dst p, s.B, s.O⟩ (a.put dst v) w := by
  cases dst with
  | none => exact ⟨h.toHRel, h.dfr, h.len, h.tmp⟩
  | some d =>
    refine ⟨h.toHRel, h.dfr, by simp [setT, Act.put, h.len], ?_⟩
    intro t
    have hl := h.len
    by_cases e : d = t
    · subst e
      by_cases hd : d < s.tmps.length
      · simp [setT, Act.put, List.getD, Array.getD, hd, hl ▸ hd]
        exact hv
      · have hd' : ¬ d < a.tmps.size := hl ▸ hd
        simp [setT, Act.put, List.getD, Array.getD, hd, hd', RV]
    · have := h.tmp t
      simpa [setT, Act.put, List.getD, List.getElem?_set_ne e, Array.getD_eq_getD_getElem?, Array.getElem?_setIfInBounds_ne e] using this

theorem upd_nil {α : Type} (f : Nat → Option α) : upd f [] = f := rfl

theorem skip_apply (s : St) (dst : Option Nat) : s.apply dst skipE = ⟨setT s.tmps dst (.sc undef), s.B, s.O⟩ := rfl

theorem looks_operand {ops : Array Oper} {o : Oper} {ts ts' : List PV} (h : ∀ t ∈ o.looksAt ops, ts.getD t .bad = ts'.getD t .bad) : ∀ x ∈ o.op.operands.toList, aev ts x = aev ts' x := by
  intro x hx
  cases x with
  | tmp t =>
    refine h t ?_
    unfold Oper.looksAt
    refine List.mem_append_left _ (List.mem_filterMap.2 ⟨.tmp t, hx, rfl⟩)
  | _ => rfl

theorem opSemG_plain {P : Program} {ops : Array Oper} {i : Nat} {o : Oper} {E : Eff} {ts : List PV} (ho : ops[i]? = some o) (hg : o.guard = none) (h : OpSem P o E ts) : OpSemG P ops i o E ts := by
  intro w0 X S0 M s a w Q K hr hl hs hk
  unfold wpOp
  simp only [ho, Region.wanted, hg, if_true]
  exact .inl (h w0 X S0 M s a w Q K hr (looks_operand hl) hs hk)

theorem yield_of {ops : Array Oper} {j t : Nat} {w0 : World} {X : Nat → Prop} {S0 : Base} {M : Mem} {s : St} {a : Act} {w : World} {b : Bool} (h : Rel w0 X S0 M s a w) (hj : (ops[j]?).bind (·.dst) = some t)
    (hv : s.tmps.getD t .bad = .sc (.bool b)) : yielded ops a.tmps j = some b := by
  have hr := h.tmp t
  rw [hv] at hr
  simp only [RV] at hr
  unfold yielded
  simp only [hj, Option.bind_some]
  rw [Array.getD_eq_getD_getElem?] at hr
  cases hx : a.tmps[t]? with
  | none => rw [hx] at hr; simp [undef] at hr
  | some v => rw [hx] at hr; simp only [Option.getD_some] at hr; rw [hr]

theorem looks_guard {ops : Array Oper} {o : Oper} {j t : Nat} {want : Bool} (hg : o.guard = some (j, want)) (hj : (ops[j]?).bind (·.dst) = some t) : t ∈ o.looksAt ops := by
  unfold Oper.looksAt
  simp [hg, hj]

theorem opSemG_taken {P : Program} {ops : Array Oper} {i j t : Nat} {o : Oper} {E : Eff} {ts : List PV} {want : Bool} (ho : ops[i]? = some o) (hg : o.guard = some (j, want)) (hj : (ops[j]?).bind (·.dst) = some t)
    (hv : ts.getD t .bad = .sc (.bool want)) (h : OpSem P o E ts) : OpSemG P ops i o E ts := by
  intro w0 X S0 M s a w Q K hr hl hs hk
  have hy := yield_of (j := j) hr hj ((hl t (looks_guard hg hj)).trans hv)
  unfold wpOp
  simp only [ho, Region.wanted, hg, hy, beq_self_eq_true, if_true]
  exact .inl (h w0 X S0 M s a w Q K hr (looks_operand hl) hs hk)

theorem opSemG_left {P : Program} {ops : Array Oper} {i j t : Nat} {o : Oper} {ts : List PV} {want : Bool} (ho : ops[i]? = some o) (hg : o.guard = some (j, want)) (hj : (ops[j]?).bind (·.dst) = some t)
    (hv : ts.getD t .bad = .sc (.bool (!want))) : OpSemG P ops i o skipE ts := by
  intro w0 X S0 M s a w Q K hr hl hs hk
  have hy := yield_of (j := j) hr hj ((hl t (looks_guard hg hj)).trans hv)
  have hne : (some (!want) == some want) = false := by cases want <;> rfl
  unfold wpOp
  simp only [ho, Region.wanted, hg, hy, hne, Bool.false_eq_true, if_false]
  exact hk M _ _ (rel_put hr o.dst (p := .sc undef) (v := undef) (by simp [RV]))

/-- A guard that was left itself. -/
theorem opSemG_left' {P : Program} {ops : Array Oper} {i j t : Nat} {o : Oper} {ts : List PV} {want : Bool} {a : Array Value} (ho : ops[i]? = some o) (hg : o.guard = some (j, want)) (hj : (ops[j]?).bind (·.dst) = some t)
    (hv : ts.getD t .bad = .sc (.tuple a)) : OpSemG P ops i o skipE ts := by
  intro w0 X S0 M s a w Q K hr hl hs hk
  have hy : yielded ops a.tmps j = none := by
    have h := hr.tmp t
    rw [(hl t (looks_guard hg hj)).trans hv] at h
    simp only [RV] at h
    unfold yielded
    simp only [hj, Option.bind_some]
    rw [Array.getD_eq_getD_getElem?] at h
    cases hx : a.tmps[t]? with
    | none => rfl
    | some v => rw [hx] at h; simp only [Option.getD_some] at h; rw [h]
  have hne : (none == some want) = false := by cases want <;> rfl
  unfold wpOp
  simp only [ho, Region.wanted, hg, hy, hne, Bool.false_eq_true, if_false]
  exact hk M _ _ (rel_put hr o.dst (p := .sc undef) (v := undef) (by simp [RV]))

/-- Operations one after the other, in the order of the text. -/
theorem seq_sim {P : Program} {ops : Array Oper} {Q : Exit → Act → World → Prop} {w0 : World} {X : Nat → Prop} {S0 : Base} (Es : Nat → Eff) (ss : Nat → St) :
    ∀ (m i : Nat), i + m = ops.size → (∀ j o, i ≤ j → ops[j]? = some o → OpSemG P ops j o (Es j) (ss j).tmps ∧ Sat (ss j) (Es j) ∧ ss (j + 1) = (ss j).apply o.dst (Es j)) →
    (∀ M a w, Rel w0 X S0 M (ss ops.size) a w → Q .normal a w) →
    ∀ M a w, Rel w0 X S0 M (ss i) a w → wpOps P ops Q (List.range' i m) a w := by
  intro m
  induction m with
  | zero =>
    intro i hi _ hq M a w hr
    simp only [List.range'_zero, wpOps]
    exact hq M a w (by rw [← hi]; simpa using hr)
  | succ m ih =>
    intro i hi hstep hq M a w hr
    rw [List.range'_succ, wpOps_cons]
    have hlt : i < ops.size := by omega
    obtain ⟨h1, h2, h3⟩ := hstep i ops[i] (Nat.le_refl _) (by simp [hlt])
    refine h1 w0 X S0 M (ss i) a w Q _ hr (fun _ _ => rfl) h2 ?_
    intro M' a' w' hr'
    rw [← h3] at hr'
    exact ih (i + 1) (by omega) (fun j o hj => hstep j o (by omega)) hq M' a' w' hr'

/-! ### An order that is drawn -/

def dstOf (ops : Array Oper) (i : Nat) : Option Nat := (ops[i]?).bind (·.dst)

def sOf (ops : Array Oper) (Es : Nat → Eff) (s0 : St) (L : Nat → Bool) : Nat → St
  | 0 => s0
  | m + 1 => if L m then (sOf ops Es s0 L m).apply (dstOf ops m) (Es m) else sOf ops Es s0 L m

section draw
variable (ops : Array Oper) (Es : Nat → Eff) (s0 : St)

theorem setT_length (ts : List PV) (d : Option Nat) (v : PV) : (setT ts d v).length = ts.length := by cases d <;> simp [setT]

theorem sOf_length (L : Nat → Bool) : ∀ m, (sOf ops Es s0 L m).tmps.length = s0.tmps.length
  | 0 => rfl
  | m + 1 => by
    unfold sOf
    split
    · simp [St.apply, setT_length, sOf_length L m]
    · exact sOf_length L m

theorem setT_getD_ne {ts : List PV} {d : Option Nat} {v : PV} {t : Nat} (h : d ≠ some t) : (setT ts d v).getD t .bad = ts.getD t .bad := by
  cases d with
  | none => rfl
  | some d =>
    have : d ≠ t := fun e => h (by rw [e])
    simp [setT, List.getD, List.getElem?_set_ne this]

theorem setT_getD_eq {ts ts' : List PV} {v : PV} {t : Nat} (h : ts.length = ts'.length) : (setT ts (some t) v).getD t .bad = (setT ts' (some t) v).getD t .bad := by
  simp [setT, List.getD, List.getElem?_set_self']
  by_cases ht : t < ts'.length
  · simp [ht, h ▸ ht]
  · simp [ht, h ▸ ht]

theorem sOf_tmp (L L' : Nat → Bool) (t : Nat) : ∀ m, (∀ i, i < m → dstOf ops i = some t → L i = L' i) → (sOf ops Es s0 L m).tmps.getD t .bad = (sOf ops Es s0 L' m).tmps.getD t .bad
  | 0, _ => rfl
  | m + 1, h => by
    have ih := sOf_tmp L L' t m (fun i hi => h i (by omega))
    by_cases hd : dstOf ops m = some t
    · have hL := h m (by omega) hd
      unfold sOf
      rw [hL]
      split
      · simp only [St.apply, hd]
        exact setT_getD_eq (by rw [sOf_length, sOf_length])
      · exact ih
    · have e : ∀ L : Nat → Bool, (sOf ops Es s0 L (m + 1)).tmps.getD t .bad = (sOf ops Es s0 L m).tmps.getD t .bad := by
        intro L
        show (if L m then (sOf ops Es s0 L m).apply (dstOf ops m) (Es m) else sOf ops Es s0 L m).tmps.getD t .bad = _
        split
        · simp only [St.apply]; exact setT_getD_ne hd
        · rfl
      rw [e, e, ih]

theorem upd_ne {α : Type} {f : Nat → Option α} {l : List (Nat × α)} {k : Nat} (h : k ∉ l.map (·.1)) : upd f l k = f k := by
  unfold upd
  have : l.find? (fun p => p.1 == k) = none := by
    rw [List.find?_eq_none]
    intro p hp
    simp
    exact fun e => h (List.mem_map.2 ⟨p, hp, e⟩)
  rw [this]

theorem upd_congr {α : Type} {f g : Nat → Option α} {l : List (Nat × α)} {k : Nat} (h : f k = g k) : upd f l k = upd g l k := by
  unfold upd
  split
  · rfl
  · exact h

theorem upd_comm {α : Type} {f : Nat → Option α} {l l' : List (Nat × α)} (h : ∀ k, k ∈ l.map (·.1) → k ∉ l'.map (·.1)) : upd (upd f l) l' = upd (upd f l') l := by
  funext k
  by_cases hk : k ∈ l.map (·.1)
  · rw [upd_ne (h k hk)]
    exact upd_congr (upd_ne (h k hk)).symm
  · rw [upd_ne (f := upd f l') hk]
    exact upd_congr (upd_ne hk)

def Wb (E : Eff) : List Nat := E.wb.map (·.1)
def Wo (E : Eff) : List Nat := E.wo.map (·.1)
def Fb (E : Eff) : List Nat := E.rb.map (·.1) ++ E.fb ++ E.wb.map (·.1)
def Fo (E : Eff) : List Nat := E.ro.map (·.1) ++ E.fo ++ E.wo.map (·.1)

theorem sOf_B (L L' : Nat → Bool) (k : Nat) : ∀ m, (∀ i, i < m → k ∈ Wb (Es i) → L i = L' i) → (sOf ops Es s0 L m).B k = (sOf ops Es s0 L' m).B k
  | 0, _ => rfl
  | m + 1, h => by
    have ih := sOf_B L L' k m (fun i hi => h i (by omega))
    by_cases hd : k ∈ Wb (Es m)
    · have hL := h m (by omega) hd
      unfold sOf
      rw [hL]
      split
      · simp only [St.apply]; exact upd_congr ih
      · exact ih
    · have e : ∀ L : Nat → Bool, (sOf ops Es s0 L (m + 1)).B k = (sOf ops Es s0 L m).B k := by
        intro L
        show (if L m then (sOf ops Es s0 L m).apply (dstOf ops m) (Es m) else sOf ops Es s0 L m).B k = _
        split
        · simp only [St.apply]; exact upd_ne hd
        · rfl
      rw [e, e, ih]

theorem sOf_O (L L' : Nat → Bool) (k : Nat) : ∀ m, (∀ i, i < m → k ∈ Wo (Es i) → L i = L' i) → (sOf ops Es s0 L m).O k = (sOf ops Es s0 L' m).O k
  | 0, _ => rfl
  | m + 1, h => by
    have ih := sOf_O L L' k m (fun i hi => h i (by omega))
    by_cases hd : k ∈ Wo (Es m)
    · have hL := h m (by omega) hd
      unfold sOf
      rw [hL]
      split
      · simp only [St.apply]; exact upd_congr ih
      · exact ih
    · have e : ∀ L : Nat → Bool, (sOf ops Es s0 L (m + 1)).O k = (sOf ops Es s0 L m).O k := by
        intro L
        show (if L m then (sOf ops Es s0 L m).apply (dstOf ops m) (Es m) else sOf ops Es s0 L m).O k = _
        split
        · simp only [St.apply]; exact upd_ne hd
        · rfl
      rw [e, e, ih]

theorem sOf_congr {L L' : Nat → Bool} : ∀ m, (∀ i, i < m → L i = L' i) → sOf ops Es s0 L m = sOf ops Es s0 L' m
  | 0, _ => rfl
  | m + 1, h => by
    unfold sOf
    rw [h m (by omega), sOf_congr m (fun i hi => h i (by omega))]

/-- All up to j, of m. -/
theorem sOf_upto (j : Nat) : ∀ m, j ≤ m → sOf ops Es s0 (fun i => decide (i < j)) m = sOf ops Es s0 (fun _ => true) j := by
  intro m
  induction m with
  | zero => intro h; obtain rfl : j = 0 := by omega
            rfl
  | succ m ih =>
    intro h
    by_cases e : j = m + 1
    · subst e
      exact sOf_congr ops Es s0 _ (fun i hi => by simp [hi])
    · have := ih (by omega)
      conv => lhs; unfold sOf
      rw [if_neg (by simp; omega)]
      exact this

theorem apply_comm {s : St} {di dj : Option Nat} {Ei Ej : Eff} (hd : ∀ t, di = some t → dj ≠ some t) (hb : ∀ k, k ∈ Wb Ei → k ∉ Wb Ej) (ho : ∀ k, k ∈ Wo Ei → k ∉ Wo Ej) :
    (s.apply di Ei).apply dj Ej = (s.apply dj Ej).apply di Ei := by
  simp only [St.apply, St.mk.injEq]
  refine ⟨?_, upd_comm hb, upd_comm ho⟩
  cases di with
  | none => rfl
  | some x =>
    cases dj with
    | none => rfl
    | some y =>
      have : x ≠ y := fun e => hd x rfl (by rw [e])
      simp only [setT]
      exact List.set_comm _ _ this

def TConf (i j : Nat) : Prop := ∃ t, (dstOf ops i = some t ∧ (dstOf ops j = some t ∨ ∃ o, ops[j]? = some o ∧ t ∈ o.looksAt ops)) ∨ (dstOf ops j = some t ∧ ∃ o, ops[i]? = some o ∧ t ∈ o.looksAt ops)
def BConf (i j : Nat) : Prop := ∃ k, (k ∈ Wb (Es i) ∧ k ∈ Fb (Es j)) ∨ (k ∈ Wb (Es j) ∧ k ∈ Fb (Es i))
def OConf (i j : Nat) : Prop := ∃ k, (k ∈ Wo (Es i) ∧ k ∈ Fo (Es j)) ∨ (k ∈ Wo (Es j) ∧ k ∈ Fo (Es i))

/-- j stands behind i, by one edge that binds. -/
def edgeTo (i j : Nat) : Prop := ∃ o, ops[j]? = some o ∧ ∃ e ∈ o.after.toList, Region.binds .any e = true ∧ e.on = i

inductive Pre : Nat → Nat → Prop where
  | one {i j : Nat} : edgeTo ops i j → Pre i j
  | more {i j k : Nat} : Pre i j → edgeTo ops j k → Pre i k

variable {ops}
theorem Pre.closed {L : Nat → Bool} (hD : ∀ i j, edgeTo ops i j → L j = true → L i = true) {i j : Nat} (h : Pre ops i j) (hj : L j = true) : L i = true := by
  induction h with
  | one h => exact hD _ _ h hj
  | more h e ih => exact ih (hD _ _ e hj)

theorem Pre.ready {L : Nat → Bool} (hD : ∀ i j, edgeTo ops i j → L j = true → L i = true) {i j : Nat} (h : Pre ops i j) (hj : ∀ i, edgeTo ops i j → L i = true) : L i = true := by
  cases h with
  | one h => exact hj _ h
  | more h e => exact Pre.closed hD h (hj _ e)

variable (ops)
theorem sOf_add {L : Nat → Bool} {j : Nat} (hj : L j = false) (hc : ∀ i, j < i → L i = true → i < ops.size → ¬ TConf ops j i ∧ ¬ BConf Es j i ∧ ¬ OConf Es j i) :
    ∀ m, j < m → m ≤ ops.size → sOf ops Es s0 (fun i => if i = j then true else L i) m = (sOf ops Es s0 L m).apply (dstOf ops j) (Es j) := by
  intro m
  induction m with
  | zero => intro h; omega
  | succ m ih =>
    intro h hm
    by_cases e : j = m
    · subst e
      unfold sOf
      simp only [if_true, hj, Bool.false_eq_true, if_false]
      rw [sOf_congr ops Es s0 (L := fun i => if i = j then true else L i) (L' := L) j (fun i hi => by rw [if_neg (by omega)])]
    · have hne : ¬ m = j := fun x => e x.symm
      have ih' := ih (by omega) (by omega)
      conv => lhs; unfold sOf
      simp only [hne, if_false]
      conv => rhs; unfold sOf
      by_cases hL : L m = true
      · rw [if_pos hL, if_pos hL, ih']
        obtain ⟨h1, h2, h3⟩ := hc m (by omega) hL (by omega)
        refine apply_comm ?_ ?_ ?_
        · intro t ht ht'
          exact h1 ⟨t, .inl ⟨ht, .inl ht'⟩⟩
        · intro k hk hk'
          exact h2 ⟨k, .inl ⟨hk, by unfold Fb; unfold Wb at hk'; simp [hk']⟩⟩
        · intro k hk hk'
          exact h3 ⟨k, .inl ⟨hk, by unfold Fo; unfold Wo at hk'; simp [hk']⟩⟩
      · rw [if_neg hL, if_neg hL, ih']

theorem ready_mem {listed : Array Bool} {j : Nat} (h : j ∈ Region.ready .any ops listed) : j < ops.size ∧ listed.getD j true = false ∧ ∀ i, edgeTo ops i j → listed.getD i false = true := by
  unfold Region.ready at h
  rw [List.mem_filter, List.mem_range] at h
  obtain ⟨h1, h2⟩ := h
  simp only [Bool.and_eq_true, Bool.not_eq_true'] at h2
  refine ⟨h1, h2.1, ?_⟩
  rintro i ⟨o, ho, e, he, hb, rfl⟩
  have h3 := h2.2
  rw [ho] at h3
  simp only [Option.map_some, Option.getD_some] at h3
  have h4 := (Array.all_eq_true_iff_forall_mem.1 h3) e (by simpa using he)
  simpa [hb] using h4

theorem ready_of {listed : Array Bool} {j : Nat} (h1 : j < ops.size) (h2 : listed.getD j true = false) (h3 : ∀ i, edgeTo ops i j → listed.getD i false = true) : j ∈ Region.ready .any ops listed := by
  unfold Region.ready
  rw [List.mem_filter, List.mem_range]
  refine ⟨h1, ?_⟩
  simp only [h2, Bool.not_false, Bool.true_and, Array.getElem?_eq_getElem h1, Option.map_some, Option.getD_some]
  rw [Array.all_eq_true_iff_forall_mem]
  intro e he
  cases hb : Region.binds .any e with
  | false => simp
  | true => simpa using h3 e.on ⟨ops[j], by simp [h1], e, by simpa using he, hb, rfl⟩

def openN (listed : Array Bool) : Nat := ((List.range ops.size).filter fun i => !listed.getD i false).length

theorem filter_lt {p q : Nat → Bool} (l : List Nat) (j : Nat) (hj : j ∈ l) (hp : p j = true) (hq : q j = false) (hpq : ∀ i, q i = true → p i = true) : (l.filter q).length < (l.filter p).length := by
  induction l with
  | nil => simp at hj
  | cons x l ih =>
    have hle : (l.filter q).length ≤ (l.filter p).length := by
      clear ih hj
      induction l with
      | nil => simp
      | cons y l ih2 =>
        simp only [List.filter_cons]
        cases hy : q y with
        | false => cases hy' : p y <;> simp <;> omega
        | true => simp [hpq y hy]; omega
    simp only [List.filter_cons]
    by_cases e : j = x
    · subst e
      simp [hp, hq]; omega
    · have := ih (by simpa [e] using hj)
      cases hx : q x with
      | false => cases hx' : p x <;> simp <;> omega
      | true => simp [hpq x hx]; omega

theorem draw_sim {P : Program} {Q : Exit → Act → World → Prop} {w0 : World} {X : Nat → Prop} {S0 : Base} {id : Nat} (hm : P.follows .mixedOrders = true)
    (hback : ∀ i j, edgeTo ops i j → i < j)
    (hstep : ∀ j o, ops[j]? = some o → OpSemG P ops j o (Es j) (sOf ops Es s0 (fun _ => true) j).tmps ∧ Sat (sOf ops Es s0 (fun _ => true) j) (Es j))
    (hcf : ∀ i j, i < j → j < ops.size → (TConf ops i j ∨ BConf Es i j ∨ OConf Es i j) → Pre ops i j)
    (hq : ∀ M a w, Rel w0 X S0 M (sOf ops Es s0 (fun _ => true) ops.size) a w → Q .normal a w)
    {M : Mem} {a : Act} {w : World} (hr : Rel w0 X S0 M s0 a w) : (Code.region id ops true).wp P Q a w := by
  refine wp_region_any hm ?_
  have key : ∀ (fuel : Nat) (listed : Array Bool) (a : Act) (w : World), listed.size = ops.size → openN ops listed ≤ fuel →
      (∀ i j, edgeTo ops i j → listed.getD j false = true → listed.getD i false = true) →
      (∃ M, Rel w0 X S0 M (sOf ops Es s0 (fun i => listed.getD i false) ops.size) a w) → wpAny P .any ops Q fuel listed a w := by
    intro fuel
    induction fuel with
    | zero =>
      intro listed a w hsz hopen hD ⟨M, hr⟩
      have hall : ∀ i, i < ops.size → listed.getD i false = true := by
        intro i hi
        cases hx : listed.getD i false with
        | true => rfl
        | false =>
          have : i ∈ (List.range ops.size).filter fun i => !listed.getD i false := by
            rw [List.mem_filter, List.mem_range]; exact ⟨hi, by simp [hx]⟩
          have := List.length_pos_of_mem this
          unfold openN at hopen; omega
      refine ⟨?_, hq M a w ?_⟩
      · rw [List.eq_nil_iff_forall_not_mem]
        intro j hj
        obtain ⟨h1, h2, _⟩ := ready_mem ops hj
        have h3 := hall j h1
        simp only [Array.getD_eq_getD_getElem?] at h2 h3
        rw [Array.getElem?_eq_getElem (by omega)] at h2 h3
        simp at h2 h3
        rw [h2] at h3; cases h3
      · rw [sOf_congr ops Es s0 (L := fun i => listed.getD i false) (L' := fun _ => true) _ (fun i hi => hall i hi)] at hr
        exact hr
    | succ fuel ih =>
      intro listed a w hsz hopen hD ⟨M, hr⟩
      refine ⟨?_, ?_⟩
      · intro hnil
        have hall : ∀ i, i < ops.size → listed.getD i false = true := by
          intro i
          induction i using Nat.strongRecOn with
          | _ i ihi =>
            intro hi
            cases hx : listed.getD i false with
            | true => rfl
            | false =>
              have hx' : listed.getD i true = false := by
                simp only [Array.getD_eq_getD_getElem?] at hx ⊢
                rw [Array.getElem?_eq_getElem (by omega)] at hx ⊢
                simpa using hx
              have := ready_of ops hi hx' (fun k hk => ihi k (hback k i hk) (by have := hback k i hk; omega))
              rw [hnil] at this
              simp at this
        refine hq M a w ?_
        rw [sOf_congr ops Es s0 (L := fun i => listed.getD i false) (L' := fun _ => true) _ (fun i hi => hall i hi)] at hr
        exact hr
      · intro j hj
        obtain ⟨hjn, hj2, hj3⟩ := ready_mem ops hj
        have hjf : listed.getD j false = false := by
          simp only [Array.getD_eq_getD_getElem?] at hj2 ⊢
          rw [Array.getElem?_eq_getElem (by omega)] at hj2 ⊢
          simpa using hj2
        -- who stands ahead of j and touches what j touches is listed; who stands behind is not
        have hsame : ∀ i, i < ops.size → i ≠ j → (TConf ops i j ∨ TConf ops j i ∨ BConf Es i j ∨ BConf Es j i ∨ OConf Es i j ∨ OConf Es j i) → listed.getD i false = decide (i < j) := by
          intro i hi hne hconf
          rcases Nat.lt_or_ge i j with hlt | hge
          · have hpre : Pre ops i j := by
              refine hcf i j hlt hjn ?_
              rcases hconf with h | h | h | h | h | h
              · exact .inl h
              · exact .inl (by obtain ⟨t, h⟩ := h; exact ⟨t, by rcases h with ⟨x, y | y⟩ | ⟨x, y⟩; exact .inl ⟨y, .inl x⟩; exact .inr ⟨x, y⟩; exact .inl ⟨x, .inr y⟩⟩)
              · exact .inr (.inl h)
              · exact .inr (.inl (by obtain ⟨k, h⟩ := h; exact ⟨k, h.symm⟩))
              · exact .inr (.inr h)
              · exact .inr (.inr (by obtain ⟨k, h⟩ := h; exact ⟨k, h.symm⟩))
            rw [Pre.ready (L := fun i => listed.getD i false) hD hpre hj3]
            simp [hlt]
          · have hlt : j < i := by omega
            have hpre : Pre ops j i := by
              refine hcf j i hlt hi ?_
              rcases hconf with h | h | h | h | h | h
              · exact .inl (by obtain ⟨t, h⟩ := h; exact ⟨t, by rcases h with ⟨x, y | y⟩ | ⟨x, y⟩; exact .inl ⟨y, .inl x⟩; exact .inr ⟨x, y⟩; exact .inl ⟨x, .inr y⟩⟩)
              · exact .inl h
              · exact .inr (.inl (by obtain ⟨k, h⟩ := h; exact ⟨k, h.symm⟩))
              · exact .inr (.inl h)
              · exact .inr (.inr (by obtain ⟨k, h⟩ := h; exact ⟨k, h.symm⟩))
              · exact .inr (.inr h)
            cases hx : listed.getD i false with
            | false => simp; omega
            | true =>
              have := Pre.closed (L := fun i => listed.getD i false) hD hpre hx
              rw [hjf] at this; cases this
        obtain ⟨h1, h2⟩ := hstep j ops[j] (by simp [hjn])
        refine h1 w0 X S0 M _ a w Q _ hr ?_ ?_ ?_
        · intro t ht
          rw [← sOf_upto ops Es s0 j ops.size (Nat.le_of_lt hjn)]
          refine sOf_tmp ops Es s0 _ _ t _ ?_
          intro i hi hd
          by_cases e : i = j
          · subst e; simp [hjf]
          · exact hsame i hi e (.inl ⟨t, .inl ⟨hd, .inr ⟨ops[j], by simp [hjn], ht⟩⟩⟩)
        · have hB : ∀ k, k ∈ Fb (Es j) → (sOf ops Es s0 (fun i => listed.getD i false) ops.size).B k = (sOf ops Es s0 (fun _ => true) j).B k := by
            intro k hk
            rw [← sOf_upto ops Es s0 j ops.size (Nat.le_of_lt hjn)]
            refine sOf_B ops Es s0 _ _ k _ ?_
            intro i hi hw
            by_cases e : i = j
            · subst e; simp [hjf]
            · exact hsame i hi e (.inr (.inr (.inl ⟨k, .inl ⟨hw, hk⟩⟩)))
          have hO : ∀ k, k ∈ Fo (Es j) → (sOf ops Es s0 (fun i => listed.getD i false) ops.size).O k = (sOf ops Es s0 (fun _ => true) j).O k := by
            intro k hk
            rw [← sOf_upto ops Es s0 j ops.size (Nat.le_of_lt hjn)]
            refine sOf_O ops Es s0 _ _ k _ ?_
            intro i hi hw
            by_cases e : i = j
            · subst e; simp [hjf]
            · exact hsame i hi e (.inr (.inr (.inr (.inr (.inl ⟨k, .inl ⟨hw, hk⟩⟩)))))
          obtain ⟨s1, s2, s3, s4⟩ := h2
          refine ⟨fun p hp => ?_, fun p hp => ?_, fun k hk => ?_, fun k hk => ?_⟩
          · rw [hB p.1 (by unfold Fb; simp; exact .inl ⟨_, hp⟩)]; exact s1 p hp
          · rw [hO p.1 (by unfold Fo; exact List.mem_append_left _ (List.mem_append_left _ (List.mem_map.2 ⟨p, hp, rfl⟩)))]; exact s2 p hp
          · rw [hB k (by unfold Fb; simp [hk])]; exact s3 k hk
          · rw [hO k (by unfold Fo; simp [hk])]; exact s4 k hk
        · intro M' a' w' hr'
          have hset : ∀ i, (listed.setIfInBounds j true).getD i false = if i = j then true else listed.getD i false := by
            intro i
            by_cases e : i = j
            · subst e
              simp [Array.getD_eq_getD_getElem?, hsz, hjn]
            · rw [if_neg e]
              simp [Array.getD_eq_getD_getElem?, Array.getElem?_setIfInBounds_ne (fun x => e x.symm)]
          refine ih _ a' w' (by simp [hsz]) ?_ ?_ ⟨M', ?_⟩
          · have : openN ops (listed.setIfInBounds j true) < openN ops listed := by
              unfold openN
              refine filter_lt _ j (List.mem_range.2 hjn) (by simp [hjf]) (by simp [hset]) ?_
              intro i hi
              rw [hset] at hi
              by_cases e : i = j
              · simp [e] at hi
              · simpa [e] using hi
            omega
          · intro i k he hk
            rw [hset] at hk ⊢
            by_cases e : i = j
            · simp [e]
            · rw [if_neg e]
              by_cases e' : k = j
              · subst e'; exact hj3 i he
              · rw [if_neg e'] at hk; exact hD i k he hk
          · have hadd := sOf_add ops Es s0 (L := fun i => listed.getD i false) (j := j) hjf (by
              intro i hlt hL hi
              have hno : ∀ (hc : TConf ops j i ∨ BConf Es j i ∨ OConf Es j i), False := by
                intro hc
                have := hsame i hi (by omega) (by rcases hc with h | h | h; exact .inr (.inl h); exact .inr (.inr (.inr (.inl h))); exact .inr (.inr (.inr (.inr (.inr h)))))
                rw [hL] at this
                simp at this
                omega
              exact ⟨fun h => hno (.inl h), fun h => hno (.inr (.inl h)), fun h => hno (.inr (.inr h))⟩) ops.size hjn (Nat.le_refl _)
            have hfun : (fun i => (listed.setIfInBounds j true).getD i false) = (fun i => if i = j then true else listed.getD i false) := funext hset
            rw [hfun, hadd]
            have hdst : ops[j].dst = dstOf ops j := by simp [dstOf, hjn]
            rw [hdst] at hr'
            exact hr'
  refine key ops.size _ a _ (by simp) ?_ ?_ ⟨M, ?_⟩
  · unfold openN
    exact Nat.le_trans (List.length_filter_le _ _) (by simp)
  · intro i j _ hj
    simp only [Array.getD_eq_getD_getElem?, Array.getElem?_replicate] at hj
    split at hj <;> simp at hj
  · have h0 : sOf ops Es s0 (fun i => (Array.replicate ops.size false).getD i false) ops.size = s0 := by
      have : ∀ m, sOf ops Es s0 (fun i => (Array.replicate ops.size false).getD i false) m = s0 := by
        intro m
        induction m with
        | zero => rfl
        | succ m ih =>
          unfold sOf
          rw [if_neg (by simp only [Array.getD_eq_getD_getElem?, Array.getElem?_replicate]; split <;> simp), ih]
      exact this _
    rw [h0]
    have hle : M.Le M w { w with drawn := w.drawn + 1 } := ⟨fun _ h => h, fun _ _ h => h, fun _ _ h => h, fun _ _ => rfl⟩
    exact hr.world hle rfl rfl rfl (Nat.le_refl _) (fun _ _ => rfl)
end draw
end Go.Pv
