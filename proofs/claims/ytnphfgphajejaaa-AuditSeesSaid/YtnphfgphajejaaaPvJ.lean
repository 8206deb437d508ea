/-
  The evaluator: what an operation does to a state that is written out. Everything is in continuation form, so that weak head normal form computes it. Generic over the program.
-/
import Derived.Test.YtnphfgphajejaaaPvI
namespace Go.Pv

structure CSt where
  tm : List PV
  bx : List (Nat × List PV)
  ob : List (Nat × Option (Bool × Nat × List (List PV)))

def lkA {α : Type} : List (Nat × α) → Nat → Option α
  | [], _ => none
  | (j, v) :: r, k => bif Nat.beq j k then some v else lkA r k

def CSt.st (c : CSt) : St := ⟨c.tm, lkA c.bx, lkA c.ob⟩

/-! ### Continuation forms -/

def lkK {α : Type} (d : α) : List α → Nat → (α → Prop) → Prop
  | [], _, k => k d
  | x :: _, 0, k => k x
  | _ :: xs, n + 1, k => lkK d xs n k

theorem lkK_eq {α : Type} (d : α) : ∀ (l : List α) (n : Nat) (k : α → Prop), lkK d l n k = k (l.getD n d)
  | [], n, k => by simp [lkK]
  | x :: xs, 0, k => by simp [lkK]
  | x :: xs, n + 1, k => by simp [lkK, lkK_eq d xs n k]

def evK (ts : List PV) (x : Operand) (k : PV → Prop) : Prop :=
  match x with
  | .tmp t => lkK .bad ts t k
  | .const v => match v with
    | .slice none 0 0 => k .nl
    | v => k (.sc v)
  | .global g => k (.sc (.pointer (some ⟨g, 0, none⟩)))
  | .func f => k (.cl f [])

theorem evK_eq (ts : List PV) (x : Operand) (k : PV → Prop) : evK ts x k = k (aev ts x) := by
  cases x
  case const v =>
    simp only [evK, aev, cst]
    split
    · rfl
    · rename_i h
      split
      · exact absurd rfl h
      · rfl
  all_goals simp [evK, aev, lkK_eq]

def evLK (ts : List PV) : List Operand → (List PV → Prop) → Prop
  | [], k => k []
  | x :: xs, k => evK ts x fun p => evLK ts xs fun ps => k (p :: ps)

theorem evLK_eq (ts : List PV) : ∀ (xs : List Operand) (k : List PV → Prop), evLK ts xs k = k (xs.map (aev ts))
  | [], k => rfl
  | x :: xs, k => by simp [evLK, evK_eq, evLK_eq ts xs]

def takeK {α : Type} : Nat → List α → (List α → Prop) → Prop
  | 0, _, k => k []
  | _ + 1, [], k => k []
  | n + 1, x :: xs, k => takeK n xs fun ys => k (x :: ys)

theorem takeK_eq {α : Type} : ∀ (n : Nat) (l : List α) (k : List α → Prop), takeK n l k = k (l.take n)
  | 0, l, k => by simp [takeK]
  | n + 1, [], k => by simp [takeK]
  | n + 1, x :: xs, k => by simp [takeK, takeK_eq n xs]

def dropK {α : Type} : Nat → List α → (List α → Prop) → Prop
  | 0, l, k => k l
  | _ + 1, [], k => k []
  | n + 1, _ :: xs, k => dropK n xs k

theorem dropK_eq {α : Type} : ∀ (n : Nat) (l : List α) (k : List α → Prop), dropK n l k = k (l.drop n)
  | 0, l, k => by simp [dropK]
  | n + 1, [], k => by simp [dropK]
  | n + 1, x :: xs, k => by simp [dropK, dropK_eq n xs]

def appK {α : Type} : List α → List α → (List α → Prop) → Prop
  | [], m, k => k m
  | x :: xs, m, k => appK xs m fun ys => k (x :: ys)

theorem appK_eq {α : Type} : ∀ (l m : List α) (k : List α → Prop), appK l m k = k (l ++ m)
  | [], m, k => rfl
  | x :: xs, m, k => by simp [appK, appK_eq xs m]

def mapK {α β : Type} (f : α → (β → Prop) → Prop) : List α → (List β → Prop) → Prop
  | [], k => k []
  | x :: xs, k => f x fun y => mapK f xs fun ys => k (y :: ys)

theorem mapK_eq {α β : Type} (f : α → (β → Prop) → Prop) (g : α → β) (h : ∀ x k, f x k = k (g x)) : ∀ (l : List α) (k : List β → Prop), mapK f l k = k (l.map g)
  | [], k => rfl
  | x :: xs, k => by simp [mapK, h, mapK_eq f g h xs]

def spliceK (ls : List PV) (off : Nat) (ns : List PV) (k : List PV → Prop) : Prop :=
  takeK off ls fun a => dropK (off + ns.length) ls fun b => appK ns b fun c => appK a c k

theorem spliceK_eq (ls : List PV) (off : Nat) (ns : List PV) (k : List PV → Prop) : spliceK ls off ns k = k (splice ls off ns) := by
  simp [spliceK, takeK_eq, dropK_eq, appK_eq, splice]

def setK {α : Type} : List (Nat × α) → Nat → α → (List (Nat × α) → Prop) → Prop
  | [], n, v, k => k [(n, v)]
  | (j, u) :: r, n, v, k => bif Nat.beq j n then k ((n, v) :: r) else setK r n v fun r' => k ((j, u) :: r')

def setA {α : Type} : List (Nat × α) → Nat → α → List (Nat × α)
  | [], n, v => [(n, v)]
  | (j, u) :: r, n, v => bif Nat.beq j n then (n, v) :: r else (j, u) :: setA r n v

theorem setK_eq {α : Type} : ∀ (l : List (Nat × α)) (n : Nat) (v : α) (k : List (Nat × α) → Prop), setK l n v k = k (setA l n v)
  | [], n, v, k => rfl
  | (j, u) :: r, n, v, k => by
    simp only [setK, setA]
    cases Nat.beq j n <;> simp [setK_eq r]

theorem beq_ne {i j : Nat} (h : i ≠ j) : Nat.beq i j = false := by
  cases hb : Nat.beq i j with
  | false => rfl
  | true => exact absurd (Nat.eq_of_beq_eq_true hb) h

theorem lkA_setA {α : Type} : ∀ (l : List (Nat × α)) (n : Nat) (v : α) (j : Nat), lkA (setA l n v) j = if j = n then some v else lkA l j
  | [], n, v, j => by
    simp only [setA, lkA]
    by_cases h : j = n
    · subst h; simp
    · have : Nat.beq n j = false := beq_ne fun e => h e.symm
      simp [this, h]
  | (i, u) :: r, n, v, j => by
    simp only [setA]
    by_cases h1 : i = n
    · subst h1
      simp only [Nat.beq_refl, cond_true, lkA]
      by_cases h : j = i
      · subst h; simp
      · have : Nat.beq i j = false := beq_ne fun e => h e.symm
        simp [this, h]
    · have hb : Nat.beq i n = false := beq_ne h1
      simp only [hb, cond_false, lkA]
      by_cases h : Nat.beq i j = true
      · have : i = j := Nat.eq_of_beq_eq_true h
        subst this
        simp [h1]
      · simp only [Bool.not_eq_true] at h
        simp [h, lkA_setA r n v j]

def setsK {α : Type} (l : List (Nat × α)) : List (Nat × α) → (List (Nat × α) → Prop) → Prop
  | [], k => k l
  | (n, v) :: us, k => setsK l us fun l' => setK l' n v k

def setsA {α : Type} (l : List (Nat × α)) : List (Nat × α) → List (Nat × α)
  | [] => l
  | (n, v) :: us => setA (setsA l us) n v

theorem setsK_eq {α : Type} (l : List (Nat × α)) : ∀ (us : List (Nat × α)) (k : List (Nat × α) → Prop), setsK l us k = k (setsA l us)
  | [], k => rfl
  | (n, v) :: us, k => by simp [setsK, setsA, setsK_eq l us, setK_eq]

theorem lkA_setsA {α : Type} (l : List (Nat × α)) : ∀ (us : List (Nat × α)), lkA (setsA l us) = upd (lkA l) us
  | [] => rfl
  | (n, v) :: us => by
    funext j
    rw [upd_cons, upd_one, ← lkA_setsA l us]
    simp only [setsA, lkA_setA]

def stK : List PV → Nat → PV → (List PV → Prop) → Prop
  | [], _, _, k => k []
  | _ :: xs, 0, v, k => k (v :: xs)
  | x :: xs, n + 1, v, k => stK xs n v fun ys => k (x :: ys)

theorem stK_eq : ∀ (ts : List PV) (n : Nat) (v : PV) (k : List PV → Prop), stK ts n v k = k (ts.set n v)
  | [], n, v, k => by simp [stK]
  | x :: xs, 0, v, k => by simp [stK]
  | x :: xs, n + 1, v, k => by simp [stK, stK_eq xs n v]

def putK (ts : List PV) (dst : Option Nat) (v : PV) (k : List PV → Prop) : Prop :=
  match dst with
  | some d => stK ts d v k
  | none => k ts

theorem putK_eq (ts : List PV) (dst : Option Nat) (v : PV) (k : List PV → Prop) : putK ts dst v k = k (setT ts dst v) := by
  cases dst <;> simp [putK, setT, stK_eq]

def applyK (c : CSt) (dst : Option Nat) (E : Eff) (k : CSt → Prop) : Prop :=
  match c, E with
  | ⟨tm, bx, ob⟩, ⟨v, _, _, _, _, wb, wo⟩ => putK tm dst v fun tm => setsK bx wb fun bx => setsK ob wo fun ob => k ⟨tm, bx, ob⟩

theorem applyK_eq (c : CSt) (dst : Option Nat) (E : Eff) (k : CSt → Prop) : applyK c dst E k = k ⟨setT c.tm dst E.val, setsA c.bx E.wb, setsA c.ob E.wo⟩ := by
  simp [applyK, putK_eq, setsK_eq]

theorem apply_st (c : CSt) (dst : Option Nat) (E : Eff) : (CSt.mk (setT c.tm dst E.val) (setsA c.bx E.wb) (setsA c.ob E.wo)).st = c.st.apply dst E := by
  simp [CSt.st, St.apply, lkA_setsA]

/-- A test: where its outcome is written out, one way; else both. -/
def splitK (b : Bool) (k : Bool → Prop) : Prop := @Bool.rec (fun _ => Prop) (k false) (k true) b

theorem splitK_eq (b : Bool) (k : Bool → Prop) : splitK b k = k b := by cases b <;> rfl
theorem split_intro {b : Bool} {X Y : Prop} (h1 : b = true → Y) (h2 : b = false → X) : @Bool.rec (fun _ => Prop) X Y b := by
  cases b
  · exact h2 rfl
  · exact h1 rfl

theorem splitK_intro {b : Bool} {k : Bool → Prop} (h1 : b = true → k true) (h2 : b = false → k false) : splitK b k := by
  cases b
  · exact h2 rfl
  · exact h1 rfl

def okK (b : Bool) (k : Prop) : Prop := match b with | true => k | false => False
theorem okK_iff {b : Bool} {k : Prop} (h : okK b k) : b = true ∧ k := by cases b; exact h.elim; exact ⟨rfl, h⟩

/-! ### One operation -/

def lvK (p : PV) (k : List PV → Prop) : Prop := match p with | .ag ps => k ps | p => k [p]
theorem lvK_eq (p : PV) (k : List PV → Prop) : lvK p k = k (leaves p) := by cases p <;> rfl

def ldK (P : Program) (t : TypeId) (sfx : List PV) (k : PV → Prop) : Prop :=
  match P.underlying t, P.info? t with
  | some d, some ⟨_, _, n, _, _, _, _, _, _, _⟩ => match isAggD d with
    | true => okK (Nat.ble n sfx.length) (takeK n sfx fun l => k (.ag l))
    | false => match sfx with
      | p :: _ => k p
      | [] => False
  | _, _ => False

theorem ldK_sound {P : Program} {t : TypeId} {sfx : List PV} {k : PV → Prop} (h : ldK P t sfx k) : ∃ d inf p, P.underlying t = some d ∧ P.info? t = some inf ∧ leafVal (isAggD d) inf.size sfx = some p ∧ k p := by
  unfold ldK at h
  split at h
  · rename_i d a b n c e f g i j l h1 h2
    split at h
    · rename_i hd
      obtain ⟨hb, hk⟩ := okK_iff h
      rw [takeK_eq] at hk
      have hle : n ≤ sfx.length := by simpa using hb
      exact ⟨d, _, .ag (sfx.take n), h1, h2, by simp [leafVal, hd, hle], hk⟩
    · rename_i hd
      split at h
      · rename_i p r
        exact ⟨d, _, p, h1, h2, by simp [leafVal, hd], h⟩
      · exact h.elim
  · exact h.elim

def fldK (P : Program) (t : TypeId) (i : Nat) (k : Nat → Prop) : Prop :=
  match P.underlying t with
  | some (.struct fs) => match fs.toList[i]? with
    | some ⟨_, ty, off, _, _, _, _⟩ => match P.info? ty with
      | some ⟨_, _, n, _, _, _, _, _, _, _⟩ => match n with | 0 => False | _ + 1 => k off
      | none => False
    | none => False
  | _ => False

theorem fldK_sound {P : Program} {t : TypeId} {i : Nat} {k : Nat → Prop} (h : fldK P t i k) : ∃ (fs : Array Field) (f : Field) (inf : TypeInfo), P.underlying t = some (.struct fs) ∧ fs[i]? = some f ∧ P.info? f.type = some inf ∧ inf.size ≠ 0 ∧ k f.offset := by
  unfold fldK at h
  split at h
  · rename_i fs h1
    split at h
    · rename_i a ty off b c d e h2
      split at h
      · rename_i h3
        split at h
        · exact h.elim
        · exact ⟨fs, _, _, h1, by simpa using h2, h3, by simp, h⟩
      · exact h.elim
    · exact h.elim
  · exact h.elim

def paddK (p : PV) (n : Nat) (k : PV → Prop) : Prop :=
  match p with
  | .pt key off => k (.pt key (off + n))
  | .ep sfx => dropK n sfx fun s => k (.ep s)
  | .eo key i off => k (.eo key i (off + n))
  | _ => False

theorem paddK_sound {p : PV} {n : Nat} {k : PV → Prop} (h : paddK p n k) : ∃ q, padd p n = some q ∧ k q := by
  cases p with
  | pt key off => exact ⟨_, rfl, h⟩
  | ep sfx => simp only [paddK, dropK_eq] at h; exact ⟨_, rfl, h⟩
  | eo key i off => exact ⟨_, rfl, h⟩
  | _ => exact h.elim

noncomputable def binK (P : Program) (op : BinOp) (t : TypeId) (p q : PV) (k : PV → Prop) : Prop :=
  match p, q with
  | .sc u, .sc v => match pbin op u v with
    | some r => k (.sc r)
    | none => match pdiv op u v with
      | some (r, (m, n)) => (m ≠ 0 ∧ 0 ≤ n) ∧ k (.sc r)
      | none => match op, u, v with
        | .eql, .bool a, .bool b => P.underlying t = some .bool ∧ k (.sc (.bool (a == b)))
        | .neq, .bool a, .bool b => P.underlying t = some .bool ∧ k (.sc (.bool (a != b)))
        | _, _, _ => False
  | .ag xs, .ag ys => match op with
    | .eql => EqOk P t ∧ ∃ r, eqInts (P.fieldsOf t).toList xs ys = some r ∧ k (.sc (.bool r))
    | .neq => EqOk P t ∧ ∃ r, eqInts (P.fieldsOf t).toList xs ys = some r ∧ k (.sc (.bool (!r)))
    | _ => False
  | _, _ => False

/-- Objects and boxes that values show. -/
def rowsK (c : CSt) (key lo len : Nat) (k : Bool → Nat → List (List PV) → Prop) : Prop :=
  match lkA c.ob key with
  | some (some (fz, sz, rows)) => lo + len ≤ rows.length ∧ k fz sz rows
  | _ => False

/-- The elements that a slice shows, and what must be there for it. -/
def srcK (c : CSt) (p : PV) (sz : Nat) (k : List (Nat × Bool × Nat × List (List PV)) → List (List PV) → Prop) : Prop :=
  match p with
  | .sl sz' rows => sz' = sz ∧ k [] rows
  | .nl => k [] []
  | .ow key lo len => match lkA c.ob key with
    | some (some (fz, sz', all)) => (sz' = sz ∧ lo + len ≤ all.length) ∧ k [(key, fz, sz', all)] ((all.drop lo).take len)
    | _ => False
  | _ => False

theorem srcK_sound {c : CSt} {p : PV} {sz : Nat} {k : List (Nat × Bool × Nat × List (List PV)) → List (List PV) → Prop} (h : srcK c p sz k) : ∃ ro rows, srcOk p sz ro rows ∧ (∀ q ∈ ro, lkA c.ob q.1 = some (some q.2)) ∧ k ro rows := by
  unfold srcK at h
  split at h
  · obtain ⟨rfl, h⟩ := h
    exact ⟨[], _, .inl ⟨rfl, rfl⟩, by simp, h⟩
  · exact ⟨[], [], .inr (.inl ⟨rfl, rfl, rfl⟩), by simp, h⟩
  · rename_i key lo len
    split at h
    · rename_i fz sz' all hk
      obtain ⟨⟨rfl, hle⟩, h⟩ := h
      exact ⟨_, _, .inr (.inr ⟨key, lo, len, fz, all, rfl, rfl, rfl, hle⟩), by simp [hk], h⟩
    · exact h.elim
  · exact h.elim

/-- Arguments of a call, as the callee sees them. -/
def resK (c : CSt) (p : PV) (k : List (Nat × List PV) → List (Nat × Bool × Nat × List (List PV)) → PV → Prop) : Prop :=
  match p with
  | .sc v => k [] [] (.sc v)
  | .sl sz rows => k [] [] (.sl sz rows)
  | .nl => k [] [] .nl
  | .ep sfx => k [] [] (.ep sfx)
  | .ow key lo len => match lkA c.ob key with
    | some (some (fz, sz, all)) => lo + len ≤ all.length ∧ k [] [(key, fz, sz, all)] (.sl sz ((all.drop lo).take len))
    | _ => False
  | .pt key off => match lkA c.bx key with
    | some ls => okK (plainL ls) (dropK off ls fun s => k [(key, ls)] [] (.ep s))
    | none => False
  | _ => False

noncomputable def resLK (c : CSt) (ps : List PV) : (List (Nat × List PV) → List (Nat × Bool × Nat × List (List PV)) → List PV → Prop) → Prop :=
  @List.rec PV (fun _ => (List (Nat × List PV) → List (Nat × Bool × Nat × List (List PV)) → List PV → Prop) → Prop) (fun k => k [] [] [])
    (fun p _ R k => resK c p fun rb ro q => R fun rb' ro' qs => appK rb rb' fun rb'' => appK ro ro' fun ro'' => k rb'' ro'' (q :: qs)) ps
theorem resLK_cons (c : CSt) (p : PV) (ps : List PV) (k : List (Nat × List PV) → List (Nat × Bool × Nat × List (List PV)) → List PV → Prop) : resLK c (p :: ps) k = resK c p fun rb ro q => resLK c ps fun rb' ro' qs => appK rb rb' fun rb'' => appK ro ro' fun ro'' => k rb'' ro'' (q :: qs) := rfl

noncomputable def resRK (c : CSt) (ps : List (List PV)) : (List (Nat × List PV) → List (Nat × Bool × Nat × List (List PV)) → List (List PV) → Prop) → Prop :=
  @List.rec (List PV) (fun _ => (List (Nat × List PV) → List (Nat × Bool × Nat × List (List PV)) → List (List PV) → Prop) → Prop) (fun k => k [] [] [])
    (fun p _ R k => resLK c p fun rb ro q => R fun rb' ro' qs => appK rb rb' fun rb'' => appK ro ro' fun ro'' => k rb'' ro'' (q :: qs)) ps
theorem resRK_cons (c : CSt) (p : List PV) (ps : List (List PV)) (k : List (Nat × List PV) → List (Nat × Bool × Nat × List (List PV)) → List (List PV) → Prop) : resRK c (p :: ps) k = resLK c p fun rb ro q => resRK c ps fun rb' ro' qs => appK rb rb' fun rb'' => appK ro ro' fun ro'' => k rb'' ro'' (q :: qs) := rfl

noncomputable def resVK (c : CSt) (p : PV) (k : List (Nat × List PV) → List (Nat × Bool × Nat × List (List PV)) → PV → Prop) : Prop :=
  match p with
  | .ag ps => resLK c ps fun rb ro qs => k rb ro (.ag qs)
  | .cl f caps => resLK c caps fun rb ro qs => k rb ro (.cl f qs)
  | .ls sz rows => resRK c rows fun rb ro qs => k rb ro (.sl sz qs)
  | p => resK c p k

noncomputable def resAK (c : CSt) (ps : List PV) : (List (Nat × List PV) → List (Nat × Bool × Nat × List (List PV)) → List PV → Prop) → Prop :=
  @List.rec PV (fun _ => (List (Nat × List PV) → List (Nat × Bool × Nat × List (List PV)) → List PV → Prop) → Prop) (fun k => k [] [] [])
    (fun p _ R k => resVK c p fun rb ro q => R fun rb' ro' qs => appK rb rb' fun rb'' => appK ro ro' fun ro'' => k rb'' ro'' (q :: qs)) ps
theorem resAK_cons (c : CSt) (p : PV) (ps : List PV) (k : List (Nat × List PV) → List (Nat × Bool × Nat × List (List PV)) → List PV → Prop) : resAK c (p :: ps) k = resVK c p fun rb ro q => resAK c ps fun rb' ro' qs => appK rb rb' fun rb'' => appK ro ro' fun ro'' => k rb'' ro'' (q :: qs) := rfl

def OkB (c : CSt) (rb : List (Nat × List PV)) : Prop := ∀ q ∈ rb, lkA c.bx q.1 = some q.2
def OkO (c : CSt) (ro : List (Nat × Bool × Nat × List (List PV))) : Prop := ∀ q ∈ ro, lkA c.ob q.1 = some (some q.2)

mutual
theorem Res.mono {rb rb' : List (Nat × List PV)} {ro ro' : List (Nat × Bool × Nat × List (List PV))} (hb : ∀ x ∈ rb, x ∈ rb') (ho : ∀ x ∈ ro, x ∈ ro') : ∀ (p q : PV), Res rb ro p q → Res rb' ro' p q
  | .ow k lo len, q, h => by simp only [Res] at h ⊢; obtain ⟨fz, sz, all, h1, h2⟩ := h; exact ⟨fz, sz, all, ho _ h1, h2⟩
  | .pt k off, q, h => by simp only [Res] at h ⊢; obtain ⟨ls, h1, h2⟩ := h; exact ⟨ls, hb _ h1, h2⟩
  | .ag ps, q, h => by simp only [Res] at h ⊢; obtain ⟨qs, h1, h2⟩ := h; exact ⟨qs, h1, ResL.mono hb ho ps qs h2⟩
  | .tu ps, q, h => by simp only [Res] at h ⊢; obtain ⟨qs, h1, h2⟩ := h; exact ⟨qs, h1, ResL.mono hb ho ps qs h2⟩
  | .cl f ps, q, h => by simp only [Res] at h ⊢; obtain ⟨qs, h1, h2⟩ := h; exact ⟨qs, h1, ResL.mono hb ho ps qs h2⟩
  | .sc v, q, h => by simpa [Res] using h
  | .sl sz rows, q, h => by simpa [Res] using h
  | .nl, q, h => by simpa [Res] using h
  | .ep s, q, h => by simpa [Res] using h
  | .eo .., q, h => by simp [Res] at h
  | .ub φ, q, h => by simpa only [Res] using h
  | .ls sz rows, q, h => by simp only [Res] at h ⊢; obtain ⟨rs, h1, h2⟩ := h; exact ⟨rs, h1, ResR.mono hb ho rows rs h2⟩
  | .lp .., q, h => by simp [Res] at h
  | .bad, q, h => by simpa [Res] using h
theorem ResL.mono {rb rb' : List (Nat × List PV)} {ro ro' : List (Nat × Bool × Nat × List (List PV))} (hb : ∀ x ∈ rb, x ∈ rb') (ho : ∀ x ∈ ro, x ∈ ro') : ∀ (ps qs : List PV), ResL rb ro ps qs → ResL rb' ro' ps qs
  | [], qs, h => by simpa [ResL] using h
  | p :: ps, qs, h => by
    simp only [ResL] at h ⊢
    obtain ⟨q, r, e, h1, h2⟩ := h
    exact ⟨q, r, e, Res.mono hb ho p q h1, ResL.mono hb ho ps r h2⟩
theorem ResR.mono {rb rb' : List (Nat × List PV)} {ro ro' : List (Nat × Bool × Nat × List (List PV))} (hb : ∀ x ∈ rb, x ∈ rb') (ho : ∀ x ∈ ro, x ∈ ro') : ∀ (ps qs : List (List PV)), ResR rb ro ps qs → ResR rb' ro' ps qs
  | [], qs, h => by simpa [ResR] using h
  | p :: ps, qs, h => by
    simp only [ResR] at h ⊢
    obtain ⟨q, r, e, h1, h2⟩ := h
    exact ⟨q, r, e, ResL.mono hb ho p q h1, ResR.mono hb ho ps r h2⟩
end

theorem resK_sound {c : CSt} {p : PV} {k : List (Nat × List PV) → List (Nat × Bool × Nat × List (List PV)) → PV → Prop} (h : resK c p k) : ∃ rb ro q, Res rb ro p q ∧ OkB c rb ∧ OkO c ro ∧ k rb ro q := by
  unfold resK at h
  split at h
  · exact ⟨[], [], _, by simp [Res], by simp [OkB], by simp [OkO], h⟩
  · exact ⟨[], [], _, by simp [Res], by simp [OkB], by simp [OkO], h⟩
  · exact ⟨[], [], _, by simp [Res], by simp [OkB], by simp [OkO], h⟩
  · exact ⟨[], [], _, by simp [Res], by simp [OkB], by simp [OkO], h⟩
  · split at h
    · rename_i fz sz all hk
      obtain ⟨hle, h⟩ := h
      exact ⟨[], _, _, by simp only [Res]; exact ⟨fz, sz, all, by simp, hle, rfl⟩, by simp [OkB], by simp [OkO, hk], h⟩
    · exact h.elim
  · split at h
    · rename_i ls hk
      obtain ⟨hp, h⟩ := okK_iff h
      rw [dropK_eq] at h
      exact ⟨_, [], _, by simp only [Res]; exact ⟨ls, by simp, hp, rfl⟩, by simp [OkB, hk], by simp [OkO], h⟩
    · exact h.elim
  · exact h.elim

theorem resLK_sound {c : CSt} : ∀ {ps : List PV} {k : List (Nat × List PV) → List (Nat × Bool × Nat × List (List PV)) → List PV → Prop}, resLK c ps k → ∃ rb ro qs, ResL rb ro ps qs ∧ OkB c rb ∧ OkO c ro ∧ k rb ro qs
  | [], k, h => ⟨[], [], [], by simp [ResL], by simp [OkB], by simp [OkO], h⟩
  | p :: ps, k, h => by
    rw [resLK_cons] at h
    obtain ⟨rb, ro, q, h1, h2, h3, h⟩ := resK_sound h
    obtain ⟨rb', ro', qs, h4, h5, h6, h⟩ := resLK_sound h
    simp only [appK_eq] at h
    refine ⟨_, _, _, ?_, ?_, ?_, h⟩
    · simp only [ResL]
      exact ⟨q, qs, rfl, Res.mono (by simp +contextual) (by simp +contextual) _ _ h1, ResL.mono (by simp +contextual) (by simp +contextual) _ _ h4⟩
    · intro x hx; rcases List.mem_append.1 hx with hx | hx; exact h2 x hx; exact h5 x hx
    · intro x hx; rcases List.mem_append.1 hx with hx | hx; exact h3 x hx; exact h6 x hx

theorem resRK_sound {c : CSt} : ∀ {ps : List (List PV)} {k : List (Nat × List PV) → List (Nat × Bool × Nat × List (List PV)) → List (List PV) → Prop}, resRK c ps k → ∃ rb ro qs, ResR rb ro ps qs ∧ OkB c rb ∧ OkO c ro ∧ k rb ro qs
  | [], k, h => ⟨[], [], [], by simp [ResR], by simp [OkB], by simp [OkO], h⟩
  | p :: ps, k, h => by
    rw [resRK_cons] at h
    obtain ⟨rb, ro, q, h1, h2, h3, h⟩ := resLK_sound h
    obtain ⟨rb', ro', qs, h4, h5, h6, h⟩ := resRK_sound h
    simp only [appK_eq] at h
    refine ⟨_, _, _, ?_, ?_, ?_, h⟩
    · simp only [ResR]
      exact ⟨q, qs, rfl, ResL.mono (by simp +contextual) (by simp +contextual) _ _ h1, ResR.mono (by simp +contextual) (by simp +contextual) _ _ h4⟩
    · intro x hx; rcases List.mem_append.1 hx with hx | hx; exact h2 x hx; exact h5 x hx
    · intro x hx; rcases List.mem_append.1 hx with hx | hx; exact h3 x hx; exact h6 x hx

theorem resVK_sound {c : CSt} {p : PV} {k : List (Nat × List PV) → List (Nat × Bool × Nat × List (List PV)) → PV → Prop} (h : resVK c p k) : ∃ rb ro q, Res rb ro p q ∧ OkB c rb ∧ OkO c ro ∧ k rb ro q := by
  unfold resVK at h
  split at h
  · obtain ⟨rb, ro, qs, h1, h2, h3, h⟩ := resLK_sound h
    exact ⟨rb, ro, _, by simp only [Res]; exact ⟨qs, rfl, h1⟩, h2, h3, h⟩
  · obtain ⟨rb, ro, qs, h1, h2, h3, h⟩ := resLK_sound h
    exact ⟨rb, ro, _, by simp only [Res]; exact ⟨qs, rfl, h1⟩, h2, h3, h⟩
  · obtain ⟨rb, ro, qs, h1, h2, h3, h⟩ := resRK_sound h
    exact ⟨rb, ro, _, by simp only [Res]; exact ⟨qs, rfl, h1⟩, h2, h3, h⟩
  · exact resK_sound h

theorem resAK_sound {c : CSt} : ∀ {ps : List PV} {k : List (Nat × List PV) → List (Nat × Bool × Nat × List (List PV)) → List PV → Prop}, resAK c ps k → ∃ rb ro qs, ResL rb ro ps qs ∧ OkB c rb ∧ OkO c ro ∧ k rb ro qs
  | [], k, h => ⟨[], [], [], by simp [ResL], by simp [OkB], by simp [OkO], h⟩
  | p :: ps, k, h => by
    rw [resAK_cons] at h
    obtain ⟨rb, ro, q, h1, h2, h3, h⟩ := resVK_sound h
    obtain ⟨rb', ro', qs, h4, h5, h6, h⟩ := resAK_sound h
    simp only [appK_eq] at h
    refine ⟨_, _, _, ?_, ?_, ?_, h⟩
    · simp only [ResL]
      exact ⟨q, qs, rfl, Res.mono (by simp +contextual) (by simp +contextual) _ _ h1, ResL.mono (by simp +contextual) (by simp +contextual) _ _ h4⟩
    · intro x hx; rcases List.mem_append.1 hx with hx | hx; exact h2 x hx; exact h5 x hx
    · intro x hx; rcases List.mem_append.1 hx with hx | hx; exact h3 x hx; exact h6 x hx

end Go.Pv
