/-
  The evaluator, operation by operation, and its soundness. Generic over the program.
-/
import Derived.Test.YtnphfgphajejaaaPvU
namespace Go.Pv

def bndK (ts : List PV) (x : Option Operand) (d : Int) (k : Int → Prop) : Prop :=
  match x with
  | none => k d
  | some x => evK ts x fun p => match p with | .sc (.int _ n) => k n | _ => False

theorem bndK_sound {ts : List PV} {x : Option Operand} {d : Int} {k : Int → Prop} (h : bndK ts x d k) : ∃ n, bndV ts x d = some n ∧ k n := by
  unfold bndK at h
  split at h
  · exact ⟨d, rfl, h⟩
  · rename_i x
    rw [evK_eq] at h
    unfold bndV
    split at h
    · rename_i kk n hx
      exact ⟨n, by simp [hx], h⟩
    · exact h.elim

def pfillK (place : Nat → Option (Nat × Nat)) (ls : List PV) : List (Nat × PV) → (List PV → Prop) → Prop
  | [], k => k ls
  | (i, p) :: rest, k =>
    match place i with
    | none => False
    | some (off, size) => lvK p fun ns => okK (ns.all leaf1 && Nat.beq ns.length size && Nat.ble (off + size) ls.length) (spliceK ls off ns fun ls' => pfillK place ls' rest k)

theorem pfillK_sound {place : Nat → Option (Nat × Nat)} : ∀ {parts : List (Nat × PV)} {ls : List PV} {k : List PV → Prop}, pfillK place ls parts k → ∃ ls', pfill place ls parts = some ls' ∧ k ls'
  | [], ls, k, h => ⟨ls, rfl, h⟩
  | (i, p) :: rest, ls, k, h => by
    simp only [pfillK] at h
    simp only [pfill]
    split at h
    · exact h.elim
    · rename_i off size hp
      rw [lvK_eq] at h
      obtain ⟨hc, h⟩ := okK_iff h
      rw [spliceK_eq] at h
      simp only [Bool.and_eq_true, Nat.beq_eq, Nat.ble_eq] at hc
      obtain ⟨⟨c1, c2⟩, c3⟩ := hc
      simp only [hp]
      rw [if_pos (by simp [c1, c2, c3])]
      exact pfillK_sound h

def partsK (ts : List PV) : List (Nat × Operand) → (List (Nat × PV) → Prop) → Prop
  | [], k => k []
  | (i, x) :: r, k => evK ts x fun p => partsK ts r fun ps => k ((i, p) :: ps)

theorem partsK_eq (ts : List PV) : ∀ (l : List (Nat × Operand)) (k : List (Nat × PV) → Prop), partsK ts l k = k (l.map fun p => (p.1, aev ts p.2))
  | [], k => rfl
  | (i, x) :: r, k => by simp [partsK, evK_eq, partsK_eq ts r]

def zlK : List Value → (List PV → Prop) → Prop
  | [], k => k []
  | v :: vs, k => match v with
    | .slice none 0 0 => zlK vs fun r => k (.nl :: r)
    | v => zlK vs fun r => k (.sc v :: r)

theorem zlK_eq : ∀ (vs : List Value) (k : List PV → Prop), zlK vs k = k (vs.map zleaf)
  | [], k => rfl
  | v :: vs, k => by
    unfold zlK
    split
    · simp [zlK_eq vs, zleaf]
    · rename_i hne
      rw [zlK_eq vs, List.map_cons]
      congr 2
      unfold zleaf
      split
      · exact absurd rfl (hne)
      · rfl

def repK {α : Type} : Nat → List α → (List α → Prop) → Prop
  | 0, _, k => k []
  | n + 1, l, k => repK n l fun r => appK l r k

theorem repK_eq {α : Type} : ∀ (n : Nat) (l : List α) (k : List α → Prop), repK n l k = k (List.replicate n l).flatten
  | 0, l, k => rfl
  | n + 1, l, k => by simp [repK, repK_eq n l, appK_eq, List.replicate_succ]

def chunkK (sz : Nat) : Nat → List PV → (List (List PV) → Prop) → Prop
  | 0, _, k => k []
  | n + 1, ls, k => takeK sz ls fun r => dropK sz ls fun rest => chunkK sz n rest fun rs => k (r :: rs)

theorem chunkK_eq (sz : Nat) : ∀ (n : Nat) (ls : List PV) (k : List (List PV) → Prop), chunkK sz n ls k = k (chunk sz n ls)
  | 0, ls, k => rfl
  | n + 1, ls, k => by simp [chunkK, chunk, takeK_eq, dropK_eq, chunkK_eq sz n]

mutual
def shK (n : Nat) (p : PV) (k : PV → Prop) : Prop :=
  match p with
  | .ag ps => shLK n ps fun qs => k (.ag qs)
  | .tu ps => shLK n ps fun qs => k (.tu qs)
  | .cl f ps => shLK n ps fun qs => k (.cl f qs)
  | .ow key lo len => k (.ow (n + key) lo len)
  | .eo key i off => k (.eo (n + key) i off)
  | .sc v => k (.sc v)
  | .sl sz rows => k (.sl sz rows)
  | .nl => k .nl
  | .pt key off => k (.pt key off)
  | .ep sfx => k (.ep sfx)
  | .ub φ => k (.ub φ)
  | .ls .. => k .bad
  | .lp .. => k .bad
  | .bad => k .bad
def shLK (n : Nat) (ps : List PV) (k : List PV → Prop) : Prop :=
  match ps with
  | [] => k []
  | p :: ps => shK n p fun q => shLK n ps fun qs => k (q :: qs)
end

mutual
theorem shK_eq (n : Nat) : ∀ (p : PV) (k : PV → Prop), shK n p k = k (shift n p)
  | .ag ps, k => by simp [shK, shift, shLK_eq n ps]
  | .tu ps, k => by simp [shK, shift, shLK_eq n ps]
  | .cl f ps, k => by simp [shK, shift, shLK_eq n ps]
  | .ow key lo len, k => by simp [shK, shift]
  | .eo key i off, k => by simp [shK, shift]
  | .sc v, k => by simp [shK, shift]
  | .sl sz rows, k => by simp [shK, shift]
  | .nl, k => by simp [shK, shift]
  | .pt key off, k => by simp [shK, shift]
  | .ep sfx, k => by simp [shK, shift]
  | .ub φ, k => by simp [shK, shift]
  | .ls .., k => by simp [shK, shift]
  | .lp .., k => by simp [shK, shift]
  | .bad, k => by simp [shK, shift]
theorem shLK_eq (n : Nat) : ∀ (ps : List PV) (k : List PV → Prop), shLK n ps k = k (shiftL n ps)
  | [], k => by simp [shLK, shiftL]
  | p :: ps, k => by simp [shLK, shiftL, shK_eq n p, shLK_eq n ps]
end

/-- A call that writes nothing of the caller's. The user gives the contract. -/
noncomputable def callPK (P : Program) (c : CSt) (d : Option Nat) (f : Nat) (ps : List PV) (k : Eff → Prop) : Prop :=
  resAK c ps fun rb ro qs => ∃ r os, Ctr P f qs r os ∧
    match os, scal r with
    | [], true => k ⟨r, rb, ro, [], [], [], []⟩
    | os, _ => match rb with
      | [] => ∃ n, d.map (· * 16) = some n ∧ (∀ q ∈ ro, ¬ (n ≤ q.1 ∧ q.1 < n + os.length)) ∧ (∀ i, i < os.length → lkA c.ob (n + i) = none) ∧ shK n r fun r' => k ⟨r', [], ro, [], (List.range os.length).map (n + ·), [], newObjs n os ++ frozen ro⟩
      | _ => False

/-! ### Calls that write what the caller owns -/

def lkOK {α : Type} (l : List (Nat × α)) (n : Nat) (k : α → Prop) (e : Prop) : Prop :=
  match l with
  | [] => e
  | (j, u) :: r => bif Nat.beq j n then k u else lkOK r n k e
theorem lkOK_eq {α : Type} : ∀ (l : List (Nat × α)) (n : Nat) (k : α → Prop) (e : Prop), lkOK l n k e = match lkA l n with | some v => k v | none => e
  | [], n, k, e => rfl
  | (j, u) :: r, n, k, e => by
    simp only [lkOK, lkA]
    cases Nat.beq j n
    · exact lkOK_eq r n k e
    · rfl

/-- The callee's name of a key of the caller's. -/
def rvK (l : List (Nat × Nat)) (K : Nat) (k : Nat → Prop) (e : Prop) : Prop :=
  match l with
  | [] => e
  | (kk, J) :: r => bif Nat.beq J K then k kk else rvK r K k e
theorem rvK_sound {K : Nat} {k : Nat → Prop} {e : Prop} : ∀ {l : List (Nat × Nat)}, rvK l K k e → (∃ kk, (kk, K) ∈ l ∧ k kk) ∨ e
  | [], h => .inr h
  | (kk, J) :: r, h => by
    simp only [rvK] at h
    by_cases ej : J = K
    · subst ej
      simp only [Nat.beq_refl, cond_true] at h
      exact .inl ⟨kk, by simp, h⟩
    · rw [beq_ne ej] at h
      rcases rvK_sound h with ⟨x, h1, h2⟩ | h
      · exact .inl ⟨x, by simp [h1], h2⟩
      · exact .inr h

def resEK (c : CSt) (kb ki : List (Nat × Nat)) (p : PV) (k : List (Nat × Bool × Nat × List (List PV)) → PV → Prop) : Prop :=
  match p with
  | .sc v => k [] (.sc v)
  | .sl sz rows => k [] (.sl sz rows)
  | .nl => k [] .nl
  | .ep sfx => k [] (.ep sfx)
  | .ow key lo len => rvK ki key (fun kk => k [] (.ow kk lo len)) (match lkA c.ob key with
    | some (some (fz, sz, all)) => lo + len ≤ all.length ∧ k [(key, fz, sz, all)] (.sl sz ((all.drop lo).take len))
    | _ => False)
  | .eo key i off => rvK ki key (fun kk => k [] (.eo kk i off)) False
  | .pt key off => rvK kb key (fun kk => k [] (.pt kk off)) False
  | _ => False

noncomputable def resELK (c : CSt) (kb ki : List (Nat × Nat)) (ps : List PV) : (List (Nat × Bool × Nat × List (List PV)) → List PV → Prop) → Prop :=
  @List.rec PV (fun _ => (List (Nat × Bool × Nat × List (List PV)) → List PV → Prop) → Prop) (fun k => k [] [])
    (fun p _ R k => resEK c kb ki p fun ro q => R fun ro' qs => appK ro ro' fun ro'' => k ro'' (q :: qs)) ps
theorem resELK_cons (c : CSt) (kb ki : List (Nat × Nat)) (p : PV) (ps : List PV) (k : List (Nat × Bool × Nat × List (List PV)) → List PV → Prop) : resELK c kb ki (p :: ps) k = resEK c kb ki p fun ro q => resELK c kb ki ps fun ro' qs => appK ro ro' fun ro'' => k ro'' (q :: qs) := rfl

noncomputable def resEVK (c : CSt) (kb ki : List (Nat × Nat)) (p : PV) (k : List (Nat × Bool × Nat × List (List PV)) → PV → Prop) : Prop :=
  match p with
  | .ag ps => resELK c kb ki ps fun ro qs => k ro (.ag qs)
  | .cl f caps => resELK c kb ki caps fun ro qs => k ro (.cl f qs)
  | p => resEK c kb ki p k

noncomputable def resEAK (c : CSt) (kb ki : List (Nat × Nat)) (ps : List PV) : (List (Nat × Bool × Nat × List (List PV)) → List PV → Prop) → Prop :=
  @List.rec PV (fun _ => (List (Nat × Bool × Nat × List (List PV)) → List PV → Prop) → Prop) (fun k => k [] [])
    (fun p _ R k => resEVK c kb ki p fun ro q => R fun ro' qs => appK ro ro' fun ro'' => k ro'' (q :: qs)) ps
theorem resEAK_cons (c : CSt) (kb ki : List (Nat × Nat)) (p : PV) (ps : List PV) (k : List (Nat × Bool × Nat × List (List PV)) → List PV → Prop) : resEAK c kb ki (p :: ps) k = resEVK c kb ki p fun ro q => resEAK c kb ki ps fun ro' qs => appK ro ro' fun ro'' => k ro'' (q :: qs) := rfl

/-- The boxes that are handed in. -/
noncomputable def bxEK (c : CSt) (kb ki : List (Nat × Nat)) (l : List (Nat × Nat)) : (List (Nat × Bool × Nat × List (List PV)) → List (Nat × List PV) → List (Nat × List PV) → Prop) → Prop :=
  @List.rec (Nat × Nat) (fun _ => (List (Nat × Bool × Nat × List (List PV)) → List (Nat × List PV) → List (Nat × List PV) → Prop) → Prop) (fun k => k [] [] [])
    (fun p _ R k => match p with
      | (kk, K) => match lkA c.bx K with
        | some ls => resEAK c kb ki ls fun ro qs => R fun ro' rb bx => appK ro ro' fun ro'' => k ro'' ((K, ls) :: rb) ((kk, qs) :: bx)
        | none => False) l
theorem bxEK_cons (c : CSt) (kb ki : List (Nat × Nat)) (kk K : Nat) (l : List (Nat × Nat)) (k : List (Nat × Bool × Nat × List (List PV)) → List (Nat × List PV) → List (Nat × List PV) → Prop) : bxEK c kb ki ((kk, K) :: l) k = match lkA c.bx K with
  | some ls => resEAK c kb ki ls fun ro qs => bxEK c kb ki l fun ro' rb bx => appK ro ro' fun ro'' => k ro'' ((K, ls) :: rb) ((kk, qs) :: bx)
  | none => False := rfl

/-- The slices that are handed in. -/
noncomputable def obEK (c : CSt) (l : List (Nat × Nat)) : (List (Nat × Bool × Nat × List (List PV)) → List (Nat × Option (Bool × Nat × List (List PV))) → Prop) → Prop :=
  @List.rec (Nat × Nat) (fun _ => (List (Nat × Bool × Nat × List (List PV)) → List (Nat × Option (Bool × Nat × List (List PV))) → Prop) → Prop) (fun k => k [] [])
    (fun p _ R k => match p with
      | (kk, K) => match lkA c.ob K with
        | some (some (false, sz, rows)) => R fun rs ob => k ((K, false, sz, rows) :: rs) ((kk, some (false, sz, rows)) :: ob)
        | _ => False) l
theorem obEK_cons (c : CSt) (kk K : Nat) (l : List (Nat × Nat)) (k : List (Nat × Bool × Nat × List (List PV)) → List (Nat × Option (Bool × Nat × List (List PV))) → Prop) : obEK c ((kk, K) :: l) k = match lkA c.ob K with
  | some (some (false, sz, rows)) => obEK c l fun rs ob => k ((K, false, sz, rows) :: rs) ((kk, some (false, sz, rows)) :: ob)
  | _ => False := rfl

mutual
def shEK (kb ko : List (Nat × Nat)) (p : PV) (k : PV → Prop) : Prop :=
  match p with
  | .ag ps => shELK kb ko ps fun qs => k (.ag qs)
  | .tu ps => shELK kb ko ps fun qs => k (.tu qs)
  | .cl f ps => shELK kb ko ps fun qs => k (.cl f qs)
  | .ow key lo len => lkOK ko key (fun K => k (.ow K lo len)) (k .bad)
  | .eo key i off => lkOK ko key (fun K => k (.eo K i off)) (k .bad)
  | .sc v => k (.sc v)
  | .sl sz rows => k (.sl sz rows)
  | .nl => k .nl
  | .pt key off => lkOK kb key (fun K => k (.pt K off)) (k .bad)
  | .ep sfx => k (.ep sfx)
  | .ub φ => k (.ub φ)
  | .ls .. => k .bad
  | .lp .. => k .bad
  | .bad => k .bad
def shELK (kb ko : List (Nat × Nat)) (ps : List PV) (k : List PV → Prop) : Prop :=
  match ps with
  | [] => k []
  | p :: ps => shEK kb ko p fun q => shELK kb ko ps fun qs => k (q :: qs)
end

mutual
theorem shEK_eq (kb ko : List (Nat × Nat)) : ∀ (p : PV) (k : PV → Prop), shEK kb ko p k = k (shE kb ko p)
  | .ag ps, k => by simp [shEK, shE, shELK_eq kb ko ps]
  | .tu ps, k => by simp [shEK, shE, shELK_eq kb ko ps]
  | .cl f ps, k => by simp [shEK, shE, shELK_eq kb ko ps]
  | .ow key lo len, k => by simp only [shEK, shE, lkOK_eq]; cases lkA ko key <;> rfl
  | .eo key i off, k => by simp only [shEK, shE, lkOK_eq]; cases lkA ko key <;> rfl
  | .sc v, k => by simp [shEK, shE]
  | .sl sz rows, k => by simp [shEK, shE]
  | .nl, k => by simp [shEK, shE]
  | .pt key off, k => by simp only [shEK, shE, lkOK_eq]; cases lkA kb key <;> rfl
  | .ep sfx, k => by simp [shEK, shE]
  | .ub φ, k => by simp [shEK, shE]
  | .ls .., k => by simp [shEK, shE]
  | .lp .., k => by simp [shEK, shE]
  | .bad, k => by simp [shEK, shE]
theorem shELK_eq (kb ko : List (Nat × Nat)) : ∀ (ps : List PV) (k : List PV → Prop), shELK kb ko ps k = k (shEL kb ko ps)
  | [], k => by simp [shELK, shEL]
  | p :: ps, k => by simp [shELK, shEL, shEK_eq kb ko p, shELK_eq kb ko ps]
end

def tkBK (kb ko : List (Nat × Nat)) (bx' : List (Nat × List PV)) (l : List (Nat × Nat)) (k : List (Nat × List PV) → Prop) : Prop :=
  match l with
  | [] => k []
  | (kk, K) :: r => lkOK bx' kk (fun ls => shELK kb ko ls fun ls' => tkBK kb ko bx' r fun w => k ((K, ls') :: w)) (tkBK kb ko bx' r k)
theorem tkBK_eq (kb ko : List (Nat × Nat)) (bx' : List (Nat × List PV)) : ∀ (l : List (Nat × Nat)) (k : List (Nat × List PV) → Prop), tkBK kb ko bx' l k = k (tkA (shEL kb ko) bx' l)
  | [], k => rfl
  | (kk, K) :: r, k => by
    simp only [tkBK, tkA, lkOK_eq, shELK_eq, tkBK_eq kb ko bx' r]
    cases lkA bx' kk <;> rfl

def tkOK (ob' : List (Nat × Option (Bool × Nat × List (List PV)))) (l : List (Nat × Nat)) (k : List (Nat × Option (Bool × Nat × List (List PV))) → Prop) : Prop :=
  match l with
  | [] => k []
  | (kk, K) :: r => lkOK ob' kk (fun o => tkOK ob' r fun w => k ((K, o) :: w)) (tkOK ob' r k)
theorem tkOK_eq (ob' : List (Nat × Option (Bool × Nat × List (List PV)))) : ∀ (l : List (Nat × Nat)) (k : List (Nat × Option (Bool × Nat × List (List PV))) → Prop), tkOK ob' l k = k (tkA (fun x => x) ob' l)
  | [], k => rfl
  | (kk, K) :: r, k => by
    simp only [tkOK, tkA, lkOK_eq, tkOK_eq ob' r]
    cases lkA ob' kk <;> rfl

def noneB {α : Type} : Option α → Bool
  | none => true
  | some _ => false

/-- What names must be, to be computed. -/
def namesB (c : CSt) (kb ki kn ko : List (Nat × Nat)) (ro : List (Nat × Bool × Nat × List (List PV))) (ob' : List (Nat × Option (Bool × Nat × List (List PV)))) : Bool :=
  oneB kb && oneB ko && (kb.all fun p => Nat.ble 1000000 p.1) && (ki.all fun p => Nat.ble 1000000 p.1) && (kn.all fun p => noneB (lkA c.ob p.2)) && (ob'.all fun p => !noneB (lkA ko p.1)) && (ro.all fun q => ko.all fun p => !Nat.beq p.2 q.1)

/-- A call that writes what the caller owns: the user gives the names (boxes, slices, new slices), then the contract. -/
noncomputable def callEK (P : Program) (c : CSt) (f : Nat) (ps : List PV) (kb ki kn : List (Nat × Nat)) (k : Eff → Prop) : Prop :=
  resEAK c kb ki ps fun ro qs => bxEK c kb ki kb fun ro' rb bx => obEK c ki fun rs ob => appK ro ro' fun ro => appK ki kn fun ko =>
    ∃ r bx' ob', CtrE P f qs bx ob r bx' ob' ∧ okK (namesB c kb ki kn ko ro ob') (shEK kb ko r fun r' => tkBK kb ko bx' kb fun wb => tkOK ob' ko fun wo => appK ro rs fun rr => mapK (fun (p : Nat × Nat) k => k p.2) kn fun fo => mapK (fun (q : Nat × Bool × Nat × List (List PV)) k => match q with | (j, _, x) => k (j, some (true, x))) ro fun fr => appK wo fr fun wo => k ⟨r', rb, rr, [], fo, wb, wo⟩)

theorem resEK_sound {c : CSt} {kb ki : List (Nat × Nat)} (h1 : oneB kb = true) (h2 : oneB ki = true) {p : PV} {k : List (Nat × Bool × Nat × List (List PV)) → PV → Prop} (h : resEK c kb ki p k) : ∃ ro q, ResE kb ki ro p q ∧ OkO c ro ∧ k ro q := by
  unfold resEK at h
  split at h
  · exact ⟨[], _, by simp [ResE], by simp [OkO], h⟩
  · exact ⟨[], _, by simp [ResE], by simp [OkO], h⟩
  · exact ⟨[], _, by simp [ResE], by simp [OkO], h⟩
  · exact ⟨[], _, by simp [ResE], by simp [OkO], h⟩
  · rcases rvK_sound h with ⟨kk, hm, h⟩ | h
    · exact ⟨[], _, by simp only [ResE]; exact .inl ⟨kk, oneB_lk h2 hm, rfl⟩, by simp [OkO], h⟩
    · split at h
      · rename_i fz sz all hk
        obtain ⟨hle, h⟩ := h
        exact ⟨_, _, by simp only [ResE]; exact .inr ⟨fz, sz, all, by simp, hle, rfl⟩, by simp [OkO, hk], h⟩
      · exact h.elim
  · rcases rvK_sound h with ⟨kk, hm, h⟩ | h
    · exact ⟨[], _, by simp only [ResE]; exact ⟨kk, oneB_lk h2 hm, rfl⟩, by simp [OkO], h⟩
    · exact h.elim
  · rcases rvK_sound h with ⟨kk, hm, h⟩ | h
    · exact ⟨[], _, by simp only [ResE]; exact ⟨kk, oneB_lk h1 hm, rfl⟩, by simp [OkO], h⟩
    · exact h.elim
  · exact h.elim

mutual
theorem ResE.mono {kb ki : List (Nat × Nat)} {ro ro' : List (Nat × Bool × Nat × List (List PV))} (ho : ∀ x ∈ ro, x ∈ ro') : ∀ (p q : PV), ResE kb ki ro p q → ResE kb ki ro' p q
  | .ow k lo len, q, h => by
    simp only [ResE] at h ⊢
    rcases h with h | ⟨fz, sz, all, h1, h2⟩
    · exact .inl h
    · exact .inr ⟨fz, sz, all, ho _ h1, h2⟩
  | .pt k off, q, h => by simpa only [ResE] using h
  | .ag ps, q, h => by simp only [ResE] at h ⊢; obtain ⟨qs, h1, h2⟩ := h; exact ⟨qs, h1, ResEL.mono ho ps qs h2⟩
  | .tu ps, q, h => by simp only [ResE] at h ⊢; obtain ⟨qs, h1, h2⟩ := h; exact ⟨qs, h1, ResEL.mono ho ps qs h2⟩
  | .cl f ps, q, h => by simp only [ResE] at h ⊢; obtain ⟨qs, h1, h2⟩ := h; exact ⟨qs, h1, ResEL.mono ho ps qs h2⟩
  | .sc v, q, h => by simpa only [ResE] using h
  | .sl sz rows, q, h => by simpa only [ResE] using h
  | .nl, q, h => by simpa only [ResE] using h
  | .ep s, q, h => by simpa only [ResE] using h
  | .eo .., q, h => by simpa only [ResE] using h
  | .ub φ, q, h => by simpa only [ResE] using h
  | .ls .., q, h => by simp [ResE] at h
  | .lp .., q, h => by simp [ResE] at h
  | .bad, q, h => by simpa only [ResE] using h
theorem ResEL.mono {kb ki : List (Nat × Nat)} {ro ro' : List (Nat × Bool × Nat × List (List PV))} (ho : ∀ x ∈ ro, x ∈ ro') : ∀ (ps qs : List PV), ResEL kb ki ro ps qs → ResEL kb ki ro' ps qs
  | [], qs, h => by simpa only [ResEL] using h
  | p :: ps, qs, h => by
    simp only [ResEL] at h ⊢
    obtain ⟨q, r, e, h1, h2⟩ := h
    exact ⟨q, r, e, ResE.mono ho p q h1, ResEL.mono ho ps r h2⟩
end

theorem resELK_sound {c : CSt} {kb ki : List (Nat × Nat)} (h1 : oneB kb = true) (h2 : oneB ki = true) : ∀ {ps : List PV} {k : List (Nat × Bool × Nat × List (List PV)) → List PV → Prop}, resELK c kb ki ps k → ∃ ro qs, ResEL kb ki ro ps qs ∧ OkO c ro ∧ k ro qs
  | [], k, h => ⟨[], [], by simp [ResEL], by simp [OkO], h⟩
  | p :: ps, k, h => by
    rw [resELK_cons] at h
    obtain ⟨ro, q, g1, g3, h⟩ := resEK_sound h1 h2 h
    obtain ⟨ro', qs, g4, g6, h⟩ := resELK_sound h1 h2 h
    simp only [appK_eq] at h
    refine ⟨_, _, ?_, ?_, h⟩
    · simp only [ResEL]
      exact ⟨q, qs, rfl, ResE.mono (by simp +contextual) _ _ g1, ResEL.mono (by simp +contextual) _ _ g4⟩
    · intro x hx; rcases List.mem_append.1 hx with hx | hx; exact g3 x hx; exact g6 x hx

theorem resEVK_sound {c : CSt} {kb ki : List (Nat × Nat)} (h1 : oneB kb = true) (h2 : oneB ki = true) {p : PV} {k : List (Nat × Bool × Nat × List (List PV)) → PV → Prop} (h : resEVK c kb ki p k) : ∃ ro q, ResE kb ki ro p q ∧ OkO c ro ∧ k ro q := by
  unfold resEVK at h
  split at h
  · obtain ⟨ro, qs, g1, g3, h⟩ := resELK_sound h1 h2 h
    exact ⟨ro, _, by simp only [ResE]; exact ⟨qs, rfl, g1⟩, g3, h⟩
  · obtain ⟨ro, qs, g1, g3, h⟩ := resELK_sound h1 h2 h
    exact ⟨ro, _, by simp only [ResE]; exact ⟨qs, rfl, g1⟩, g3, h⟩
  · exact resEK_sound h1 h2 h

theorem resEAK_sound {c : CSt} {kb ki : List (Nat × Nat)} (h1 : oneB kb = true) (h2 : oneB ki = true) : ∀ {ps : List PV} {k : List (Nat × Bool × Nat × List (List PV)) → List PV → Prop}, resEAK c kb ki ps k → ∃ ro qs, ResEL kb ki ro ps qs ∧ OkO c ro ∧ k ro qs
  | [], k, h => ⟨[], [], by simp [ResEL], by simp [OkO], h⟩
  | p :: ps, k, h => by
    rw [resEAK_cons] at h
    obtain ⟨ro, q, g1, g3, h⟩ := resEVK_sound h1 h2 h
    obtain ⟨ro', qs, g4, g6, h⟩ := resEAK_sound h1 h2 h
    simp only [appK_eq] at h
    refine ⟨_, _, ?_, ?_, h⟩
    · simp only [ResEL]
      exact ⟨q, qs, rfl, ResE.mono (by simp +contextual) _ _ g1, ResEL.mono (by simp +contextual) _ _ g4⟩
    · intro x hx; rcases List.mem_append.1 hx with hx | hx; exact g3 x hx; exact g6 x hx

theorem bxEK_sound {c : CSt} {kb ki : List (Nat × Nat)} (h1 : oneB kb = true) (h2 : oneB ki = true) : ∀ {l : List (Nat × Nat)} {k : List (Nat × Bool × Nat × List (List PV)) → List (Nat × List PV) → List (Nat × List PV) → Prop}, bxEK c kb ki l k → ∃ ro rb bx,
    (∀ kk ls', lkA bx kk = some ls' → ∃ K ls, (kk, K) ∈ l ∧ (K, ls) ∈ rb ∧ ResEL kb ki ro ls ls') ∧ (∀ kk K, (kk, K) ∈ l → ∃ ls, lkA bx kk = some ls) ∧ OkB c rb ∧ OkO c ro ∧ k ro rb bx
  | [], k, h => ⟨[], [], [], by simp [lkA], by simp, by simp [OkB], by simp [OkO], h⟩
  | (kk, K) :: l, k, h => by
    rw [bxEK_cons] at h
    split at h
    · rename_i ls hls
      obtain ⟨ro, qs, g1, g2, h⟩ := resEAK_sound h1 h2 h
      obtain ⟨ro', rb, bx, g3, g4, g5, g6, h⟩ := bxEK_sound h1 h2 h
      simp only [appK_eq] at h
      refine ⟨_, _, _, ?_, ?_, ?_, ?_, h⟩
      · intro j ls' hj
        simp only [lkA] at hj
        by_cases e : kk = j
        · subst e
          simp only [Nat.beq_refl, cond_true, Option.some.injEq] at hj
          subst hj
          exact ⟨K, ls, by simp, by simp, ResEL.mono (by simp +contextual) _ _ g1⟩
        · rw [beq_ne e] at hj
          obtain ⟨K', l2, a1, a2, a3⟩ := g3 j ls' hj
          exact ⟨K', l2, by simp [a1], by simp [a2], ResEL.mono (by simp +contextual) _ _ a3⟩
      · intro j J hj
        simp only [lkA]
        by_cases e : kk = j
        · subst e; exact ⟨qs, by simp⟩
        · rw [beq_ne e]
          rcases List.mem_cons.1 hj with hj | hj
          · cases hj; exact absurd rfl e
          · exact g4 j J hj
      · intro q hq
        rcases List.mem_cons.1 hq with rfl | hq
        · exact hls
        · exact g5 q hq
      · intro x hx; rcases List.mem_append.1 hx with hx | hx; exact g2 x hx; exact g6 x hx
    · exact h.elim

theorem obEK_sound {c : CSt} : ∀ {l : List (Nat × Nat)} {k : List (Nat × Bool × Nat × List (List PV)) → List (Nat × Option (Bool × Nat × List (List PV))) → Prop}, obEK c l k → ∃ rs ob,
    (∀ kk o, lkA ob kk = some o → ∃ K sz rows, (kk, K) ∈ l ∧ (K, false, sz, rows) ∈ rs ∧ o = some (false, sz, rows)) ∧ (∀ kk K, (kk, K) ∈ l → ∃ o, lkA ob kk = some o) ∧ OkO c rs ∧ k rs ob
  | [], k, h => ⟨[], [], by simp [lkA], by simp, by simp [OkO], h⟩
  | (kk, K) :: l, k, h => by
    rw [obEK_cons] at h
    split at h
    · rename_i sz rows hls
      obtain ⟨rs, ob, g3, g4, g5, h⟩ := obEK_sound h
      refine ⟨_, _, ?_, ?_, ?_, h⟩
      · intro j o hj
        simp only [lkA] at hj
        by_cases e : kk = j
        · subst e
          simp only [Nat.beq_refl, cond_true, Option.some.injEq] at hj
          exact ⟨K, sz, rows, by simp, by simp, hj.symm⟩
        · rw [beq_ne e] at hj
          obtain ⟨K', s2, l2, a1, a2, a3⟩ := g3 j o hj
          exact ⟨K', s2, l2, by simp [a1], by simp [a2], a3⟩
      · intro j J hj
        simp only [lkA]
        by_cases e : kk = j
        · subst e; exact ⟨_, by simp; rfl⟩
        · rw [beq_ne e]
          rcases List.mem_cons.1 hj with hj | hj
          · cases hj; exact absurd rfl e
          · exact g4 j J hj
      · intro q hq
        rcases List.mem_cons.1 hq with rfl | hq
        · exact hls
        · exact g5 q hq
    · exact h.elim

theorem callEK_sound {P : Program} {c : CSt} {o : Oper} {cl : Call} {f : Nat} {ps : List PV} {kb ki kn : List (Nat × Nat)} {k : Eff → Prop} (ho : o.op = .call cl) (hc : callee c.tm cl.callee cl.args.toList = some (f, ps)) (h1 : oneB kb = true) (h2 : oneB ki = true) (h : callEK P c f ps kb ki kn k) : ∃ E, OpSem P o E c.tm ∧ Sat c.st E ∧ k E := by
  unfold callEK at h
  obtain ⟨ro, qs, g1, g2, h⟩ := resEAK_sound h1 h2 h
  obtain ⟨ro', rb, bx, g3, g4, g5, g6, h⟩ := bxEK_sound h1 h2 h
  obtain ⟨rs, ob, g7, g8, g9, h⟩ := obEK_sound h
  rw [appK_eq, appK_eq] at h
  obtain ⟨r, bx', ob', hs, h⟩ := h
  obtain ⟨hnm, h⟩ := okK_iff h
  rw [shEK_eq, tkBK_eq, tkOK_eq, appK_eq, mapK_eq _ (fun p : Nat × Nat => p.2) (fun _ _ => rfl), mapK_eq _ (fun q : Nat × Bool × Nat × List (List PV) => (q.1, some (true, q.2.2))) (fun _ _ => rfl), appK_eq] at h
  unfold namesB at hnm
  simp only [Bool.and_eq_true, List.all_eq_true] at hnm
  obtain ⟨⟨⟨⟨⟨⟨n1, n2⟩, n3⟩, n4⟩, n5⟩, n6⟩, n7⟩ := hnm
  refine ⟨_, os_callE (kb := kb) (ki := ki) (kn := kn) (ro := ro ++ ro') (rs := rs) (rb := rb) ho hc (ResEL.mono (by simp +contextual) _ _ g1) hs n1 n2 (by rw [List.all_eq_true]; exact n3) (by rw [List.all_eq_true]; exact n4) ?_ ?_ ?_ ?_ ?_ ?_, ⟨g5, ?_, by simp, ?_⟩, h⟩
  · intro kk ls' hk
    obtain ⟨K, ls, a1, a2, a3⟩ := g3 kk ls' hk
    exact ⟨K, ls, oneB_lk h1 a1, a2, ResEL.mono (by simp +contextual) _ _ a3⟩
  · intro kk K hk; exact g4 kk K (lkA_mem' hk)
  · intro kk o hk
    obtain ⟨K, sz, rows, a1, a2, a3⟩ := g7 kk o hk
    exact ⟨K, sz, rows, oneB_lk h2 a1, a2, a3⟩
  · intro kk K hk; exact g8 kk K (lkA_mem' hk)
  · intro kk o' hk
    have := n6 (kk, o') (lkA_mem' hk)
    cases hl : lkA (ki ++ kn) kk with
    | none => simp [hl, noneB] at this
    | some K => exact ⟨K, rfl⟩
  · intro q hq p hp e
    have := n7 q hq p hp
    rw [e] at this; simp at this
  · intro x hx
    rcases List.mem_append.1 hx with hx | hx
    · rcases List.mem_append.1 hx with hx | hx
      · exact g2 x hx
      · exact g6 x hx
    · exact g9 x hx
  · intro K hK
    obtain ⟨p, hp, rfl⟩ := List.mem_map.1 hK
    have := n5 p hp
    show lkA c.ob p.2 = none
    cases hl : lkA c.ob p.2 with
    | none => rfl
    | some x => rw [hl] at this; simp [noneB] at this

/-- A call. The user says which: none: it writes nothing of the caller's; or the names. -/
noncomputable def callK (P : Program) (c : CSt) (d : Option Nat) (f : Nat) (ps : List PV) (k : Eff → Prop) : Prop :=
  ∃ m : Option (List (Nat × Nat) × List (Nat × Nat) × List (Nat × Nat)), match m with
    | none => callPK P c d f ps k
    | some (kb, ki, kn) => okK (oneB kb && oneB ki) (callEK P c f ps kb ki kn k)

noncomputable def builtinK (P : Program) (c : CSt) (d : Option Nat) (b : Builtin) (args : List Operand) (tys : List TypeId) (k : Eff → Prop) : Prop :=
  match b, args, tys with
  | .len, [x], [t] => evK c.tm x fun p => match P.underlying t with
    | some (.slice _) => match p with
      | .sl _ rows => k (vE (.sc (.int .i64 rows.length)))
      | .nl => k (vE (.sc (.int .i64 (0 : Nat))))
      | .ow _ _ n => k (vE (.sc (.int .i64 n)))
      | .ls _ rows => k (vE (.sc (.int .i64 rows.length)))
      | _ => False
    | some .string => match p with
      | .sc (.string s) => k (vE (.sc (.int .i64 s.size)))
      | _ => False
    | _ => False
  | .max, [x, y], _ => evK c.tm x fun p => evK c.tm y fun q => match p, q with
    | .sc (.int kk m), .sc (.int _ n) => k (vE (.sc (.int kk (if n > m then n else m))))
    | _, _ => False
  | .min, [x, y], _ => evK c.tm x fun p => evK c.tm y fun q => match p, q with
    | .sc (.int kk m), .sc (.int _ n) => k (vE (.sc (.int kk (if n < m then n else m))))
    | _, _ => False
  | .append, [x, y], [t, t'] => match d with
    | none => False
    | some d => okK (Nat.beq t t') (evK c.tm x fun p => evK c.tm y fun q => match P.underlying t with
      | some (.slice e) => match P.info? e with
        | some inf => match inf.zero with
          | some z => okK (Nat.beq z.cells.size inf.size) (match p with
            | .nl => srcK c q inf.size fun ro rows => ((rows.length * inf.bytes ≤ 140737488355328 ∧ rows.length ≤ maxLen) ∧ lkA c.ob (d * 16) = none) ∧ k ⟨.ow (d * 16) 0 rows.length, [], ro, [], [d * 16], [], [(d * 16, some (false, inf.size, rows))]⟩
            | .ow key 0 len => match lkA c.ob key with
              | some (some (false, sz, all)) => srcK c q inf.size fun ro rows => ((sz = inf.size ∧ len ≤ all.length ∧ (len + rows.length) * inf.bytes ≤ 140737488355328 ∧ len + rows.length ≤ maxLen ∧ ∀ r ∈ rows, r.all leaf1 = true) ∧ d * 16 ≠ key ∧ lkA c.ob (d * 16) = none) ∧ k ⟨.ow (d * 16) 0 (len + rows.length), [], (key, false, inf.size, all) :: ro, [], [d * 16], [], [(key, none), (d * 16, some (false, inf.size, all.take len ++ rows))]⟩
              | _ => False
            | _ => False)
          | none => False
        | none => False
      | _ => False)
  | _, _, _ => False

/-- A key that is free: the slot's own number, or one far off. -/
def freshL {α : Type} (bx : List (Nat × α)) (d : Nat) : List Nat → (Nat → Prop) → Prop
  | [], _ => False
  | j :: js, k => match lkA bx (d + 1000 * j) with
    | none => k (d + 1000 * j)
    | some _ => freshL bx d js k
def freshK {α : Type} (bx : List (Nat × α)) (d : Nat) (k : Nat → Prop) : Prop :=
  match lkA bx d with
  | none => k d
  | some _ => freshL bx d [1, 2, 3, 4, 5, 6, 7, 8, 9, 10, 11, 12, 13, 14, 15, 16, 17, 18, 19, 20, 21, 22, 23, 24, 25, 26, 27, 28, 29, 30, 31, 32] k
theorem freshL_sound {α : Type} {bx : List (Nat × α)} {d : Nat} {k : Nat → Prop} : ∀ {js : List Nat}, freshL bx d js k → ∃ n, lkA bx n = none ∧ k n
  | [], h => h.elim
  | j :: js, h => by
    unfold freshL at h
    split at h
    · rename_i e; exact ⟨_, e, h⟩
    · exact freshL_sound h
theorem freshK_sound {α : Type} {bx : List (Nat × α)} {d : Nat} {k : Nat → Prop} (h : freshK bx d k) : ∃ n, lkA bx n = none ∧ k n := by
  unfold freshK at h
  split at h
  · rename_i e; exact ⟨_, e, h⟩
  · exact freshL_sound h

/-- Is an operand the literal nil of a slice? -/
def isNilC : Operand → Bool
  | .const (.slice none 0 0) => true
  | _ => false

/-- A slice compared with nil. -/
def nilK (P : Program) (op : BinOp) (t : TypeId) (p : PV) (k : PV → Prop) : Prop :=
  match op, P.underlying t with
  | .eql, some (.slice _) => match p with
    | .sl _ rows => k (.ub (rows = []))
    | .ow _ _ len => k (.ub (len = 0))
    | .nl => k (.ub True)
    | _ => False
  | _, _ => False

noncomputable def opE (P : Program) (c : CSt) (o : Oper) (k : Eff → Prop) : Prop :=
  match o.op with
  | .move x => evK c.tm x fun p => k (vE p)
  | .assign x => evK c.tm x fun p => k (vE p)
  | .pick q x y => evK c.tm q fun p => match p with
    | .sc (.bool b) => splitK b fun b => match b with
      | true => evK c.tm x fun p => k (vE p)
      | false => evK c.tm y fun p => k (vE p)
    | _ => False
  | .binOp op t x y _ => match isNilC y with
    | true => evK c.tm x fun p => nilK P op t p fun r => k (vE r)
    | false => evK c.tm x fun p => evK c.tm y fun q => binK P op t p q fun r => k (vE r)
  | .unOp op _ x => evK c.tm x fun p => match p with
    | .sc u => match pun op u with
      | some r => k (vE (.sc r))
      | none => False
    | _ => False
  | .convert src dst x => evK c.tm x fun p => match p, P.underlying src, P.underlying dst with
    | .sc (.int _ n), some _, some (.int kk) => k (vE (.sc (.int kk (kk.wrap n))))
    | _, _, _ => False
  | .box _ x => match o.dst with
    | some d => evK c.tm x fun p => lvK p fun ls => okK (ls.all leaf1) (freshK c.bx d fun d => k ⟨.pt d 0, [], [], [d], [], [(d, ls)], []⟩)
    | none => False
  | .alloc t => match o.dst with
    | some d => match P.info? t with
      | some inf => match inf.zero with
        | some z => zlK z.cells.toList fun ls => freshK c.bx d fun d => k ⟨.pt d 0, [], [], [d], [], [(d, ls)], []⟩
        | none => False
      | none => False
    | none => False
  | .build t parts => match zeroT P t, placesOf P t with
    | some z, some place => zlK z.cells.toList fun zs => okK (zs.all leaf1) (partsK c.tm parts.toList fun ps => pfillK place zs ps fun ls => k (vE (.ag ls)))
    | _, _ => False
  | .buildSlice t len parts => match P.underlying t with
    | some (.slice e) => match P.info? e with
      | some inf => match len, parts.toList with
        | 0, [] => k (vE .nl)
        | len, pl => match inf.zero with
          | some z => okK (Nat.beq z.cells.size inf.size && Nat.blt 0 (len * inf.size) && Nat.ble (len * inf.size) 16777216) (zlK z.cells.toList fun zs => okK (zs.all leaf1) (repK len zs fun zz => partsK c.tm pl fun ps => pfillK (fun i => some (i * inf.size, inf.size)) zz ps fun ls => okK (Nat.beq ls.length (len * inf.size)) (match plainL ls with | true => chunkK inf.size len ls fun rows => k (vE (.sl inf.size rows)) | false => chunkK inf.size len ls fun rows => k (vE (.ls inf.size rows)))))
          | none => False
      | none => False
    | _ => False
  | .load t x => evK c.tm x fun p => match p with
    | .pt key off => match lkA c.bx key with
      | some ls => dropK off ls fun sfx => ldK P t sfx fun v => k ⟨v, [(key, ls)], [], [], [], [], []⟩
      | none => False
    | .ep sfx => ldK P t sfx fun v => k (vE v)
    | .lp sfx => ldK P t sfx fun v => k (vE v)
    | .eo key i off => match lkA c.ob key with
      | some (some (fz, sz, rows)) => ∃ row, rows[i]? = some row ∧ dropK off row fun sfx => ldK P t sfx fun v => k ⟨v, [], [(key, fz, sz, rows)], [], [], [], []⟩
      | _ => False
    | _ => False
  | .store t x y => evK c.tm x fun p => evK c.tm y fun q => lvK q fun ns => match P.info? t with
    | some inf => okK (ns.all leaf1 && Nat.beq ns.length inf.size) (match p with
      | .pt key off => match lkA c.bx key with
        | some ls => okK (Nat.ble (off + ns.length) ls.length) (spliceK ls off ns fun ls' => k ⟨.bad, [(key, ls)], [], [], [], [(key, ls')], []⟩)
        | none => False
      | .eo key i off => match lkA c.ob key with
        | some (some (false, sz, rows)) => okK (Nat.ble (off + ns.length) sz && plainL ns) (∃ row, rows[i]? = some row ∧ spliceK row off ns fun row' => k ⟨.bad, [], [(key, false, sz, rows)], [], [], [], [(key, some (false, sz, rows.set i row'))]⟩)
        | _ => False
      | _ => False)
    | none => False
  | .nilCheck x => evK c.tm x fun p => paddK p 0 fun _ => k (vE p)
  | .fieldAddr t x i => evK c.tm x fun p => fldK P t i fun off => paddK p off fun q => k (vE q)
  | .indexAddr t x y => evK c.tm x fun p => evK c.tm y fun q => match q with
    | .sc (.int _ n) => match P.underlying t with
      | some (.array len e) => match P.info? e with
        | some inf => (0 ≤ n ∧ n < (len : Int)) ∧ paddK p (n.toNat * inf.size) fun r => k (vE r)
        | none => False
      | some (.slice e) => match P.info? e with
        | some inf => match p with
          | .sl sz rows => okK (Nat.beq inf.size sz) (0 ≤ n ∧ ∃ row, rows[n.toNat]? = some row ∧ k (vE (.ep row)))
          | .ls sz rows => okK (Nat.beq inf.size sz) (0 ≤ n ∧ ∃ row, rows[n.toNat]? = some row ∧ k (vE (.lp row)))
          | .ow key lo len => match lkA c.ob key with
            | some (some (fz, sz, rows)) => okK (Nat.beq inf.size sz) ((0 ≤ n ∧ n < (len : Int)) ∧ k ⟨.eo key (lo + n.toNat) 0, [], [(key, fz, sz, rows)], [], [], [], []⟩)
            | _ => False
          | _ => False
        | none => False
      | _ => False
    | _ => False
  | .slice t x lo hi mx => evK c.tm x fun p => match P.underlying t with
    | some (.slice e) => match P.info? e with
      | some inf => match mx with
        | none => match p with
          | .sl sz rows => okK (Nat.beq inf.size sz) (bndK c.tm lo 0 fun l => bndK c.tm hi rows.length fun h => (0 ≤ l ∧ l ≤ h ∧ h ≤ rows.length) ∧ k (vE (.sl sz ((rows.take h.toNat).drop l.toNat))))
          | .ow key lo0 len => match lkA c.ob key with
            | some (some (fz, sz, rows)) => okK (Nat.beq inf.size sz) (bndK c.tm lo 0 fun l => bndK c.tm hi len fun h => (0 ≤ l ∧ l ≤ h ∧ h ≤ (len : Int)) ∧ k ⟨.ow key (lo0 + l.toNat) (h.toNat - l.toNat), [], [(key, fz, sz, rows)], [], [], [], []⟩)
            | _ => False
          | .nl => bndK c.tm lo 0 fun l => bndK c.tm hi 0 fun h => (l = 0 ∧ h = 0) ∧ k (vE .nl)
          | _ => False
        | some z => match lo, hi with
          | none, some y => evK c.tm y fun q => evK c.tm z fun r => match q, r with
            | .sc (.int _ 0), .sc (.int _ 0) => match p with
              | .nl => k (vE .nl)
              | .sl _ _ => k (vE .nl)
              | .ow _ _ _ => k (vE .nl)
              | _ => False
            | _, _ => False
          | _, _ => False
      | none => False
    | some .string => match mx, p with
      | none, .sc (.string b) => bndK c.tm lo 0 fun l => bndK c.tm hi b.size fun h => (0 ≤ l ∧ l ≤ h ∧ h ≤ b.size) ∧ k (vE (.sc (.string (b.extract l.toNat h.toNat))))
      | _, _ => False
    | _ => False
  | .extract x i => evK c.tm x fun p => match p with
    | .tu ps => match ps[i]? with
      | some q => k (vE q)
      | none => False
    | _ => False
  | .index t x y => evK c.tm x fun p => evK c.tm y fun q => match q with
    | .sc (.int _ n) => match P.underlying t with
      | some (.array len e) => match P.info? e with
        | some inf => match p with
          | .ag ps => (0 ≤ n ∧ n < (len : Int)) ∧ dropK (n.toNat * inf.size) ps fun sfx => ldK P e sfx fun v => k (vE v)
          | _ => False
        | none => False
      | some .string => match p with
        | .sc (.string s) => 0 ≤ n ∧ ∃ b, s[n.toNat]? = some b ∧ k (vE (.sc (.int .u8 (b.toNat : Int))))
        | _ => False
      | _ => False
    | _ => False
  | .field t x i => evK c.tm x fun p => match p with
    | .ag ps => match P.underlying t with
      | some (.struct fs) => match fs.toList[i]? with
        | some ⟨_, ty, off, _, _, _, _⟩ => dropK off ps fun sfx => ldK P ty sfx fun v => k (vE v)
        | none => False
      | _ => False
    | _ => False
  | .makeFunc (.func f) fst caps => match fst.toList with
    | [] => evLK c.tm caps.toList fun ps => k (vE (.cl f ps))
    | _ => False
  | .call ⟨.value f, args, _⟩ => evK c.tm f fun p => match p with
    | .cl g caps => evLK c.tm args.toList fun ps => appK ps caps fun ps => callK P c o.dst g ps k
    | _ => False
  | .call ⟨.builtin b, args, tys⟩ => builtinK P c o.dst b args.toList tys.toList k
  | _ => False

theorem sat_empty (s : St) (p : PV) : Sat s (vE p) := by simp [Sat, vE]

theorem callK_sound {P : Program} {c : CSt} {o : Oper} {cl : Call} {f : Nat} {ps : List PV} {k : Eff → Prop} (ho : o.op = .call cl) (hc : callee c.tm cl.callee cl.args.toList = some (f, ps)) (h : callK P c o.dst f ps k) : ∃ E, OpSem P o E c.tm ∧ Sat c.st E ∧ k E := by
  obtain ⟨m, h⟩ := h
  split at h
  case h_2 kb ki kn =>
    obtain ⟨h1, h⟩ := okK_iff h
    rw [Bool.and_eq_true] at h1
    exact callEK_sound ho hc h1.1 h1.2 h
  unfold callPK at h
  obtain ⟨rb, ro, qs, h1, h2, h3, r, os, hs, h⟩ := resAK_sound h
  split at h
  · rename_i hsc
    exact ⟨_, os_callS ho hc h1 hs hsc, ⟨h2, h3, by simp, by simp⟩, h⟩
  · split at h
    · obtain ⟨n, _, h5, h6, h⟩ := h
      rw [shK_eq] at h
      exact ⟨_, os_callF (n := n) ho hc h1 hs h5, ⟨by simp, h3, by simp, fun x hx => by
        simp only [List.mem_map, List.mem_range] at hx
        obtain ⟨i, hi, rfl⟩ := hx
        exact h6 i hi⟩, h⟩
    · exact h.elim

theorem builtinK_sound {P : Program} {c : CSt} {o : Oper} {b : Builtin} {args : Array Operand} {tys : Array TypeId} {k : Eff → Prop} (ho : o.op = .call ⟨.builtin b, args, tys⟩) (h : builtinK P c o.dst b args.toList tys.toList k) : ∃ E, OpSem P o E c.tm ∧ Sat c.st E ∧ k E := by
  unfold builtinK at h
  split at h
  · rename_i x t ha ht
    have ea : args = #[x] := by apply Array.ext'; simpa using ha
    have et : tys = #[t] := by apply Array.ext'; simpa using ht
    subst ea et
    rw [evK_eq] at h
    split at h
    · rename_i e hu
      split at h
      · rename_i sz rows hp
        exact ⟨_, os_len ho hu hp (.inl ⟨_, _, rfl, rfl⟩), sat_empty _ _, h⟩
      · rename_i hp
        exact ⟨_, os_len ho hu hp (.inr (.inl ⟨rfl, rfl⟩)), sat_empty _ _, h⟩
      · rename_i hp
        exact ⟨_, os_len ho hu hp (.inr (.inr ⟨_, _, rfl⟩)), sat_empty _ _, h⟩
      · rename_i hp
        exact ⟨_, os_lenLs ho hu hp, sat_empty _ _, h⟩
      · exact h.elim
    · rename_i hu
      split at h
      · rename_i s hp
        exact ⟨_, os_lenStr ho hu hp, sat_empty _ _, h⟩
      · exact h.elim
    · exact h.elim
  · rename_i x y ha
    have ea : args = #[x, y] := by apply Array.ext'; simpa using ha
    subst ea
    rw [evK_eq, evK_eq] at h
    split at h
    · rename_i hp hq
      exact ⟨_, os_max ho hp hq, sat_empty _ _, h⟩
    · exact h.elim
  · rename_i x y ha
    have ea : args = #[x, y] := by apply Array.ext'; simpa using ha
    subst ea
    rw [evK_eq, evK_eq] at h
    split at h
    · rename_i hp hq
      exact ⟨_, os_min ho hp hq, sat_empty _ _, h⟩
    · exact h.elim
  · rename_i x y t t' ha ht
    split at h
    · exact h.elim
    · rename_i d hd
      have ea : args = #[x, y] := by apply Array.ext'; simpa using ha
      have et : tys = #[t, t'] := by apply Array.ext'; simpa using ht
      subst ea et
      have g := (okK_iff h).2
      have htt : t = t' := Nat.eq_of_beq_eq_true (okK_iff h).1
      clear h
      subst htt
      rw [evK_eq, evK_eq] at g
      split at g
      · rename_i e hu
        split at g
        · rename_i inf hi
          split at g
          · rename_i z hz
            obtain ⟨hzs, g⟩ := okK_iff g
            have hzs : z.cells.size = inf.size := Nat.eq_of_beq_eq_true hzs
            split at g
            · rename_i hp
              obtain ⟨ro, rows, hs, hro, ⟨⟨h1, h2⟩, h3⟩, g⟩ := srcK_sound g
              exact ⟨_, os_appNl (d := d * 16) ho hu hi hz hzs hp rfl hs h1 h2, ⟨by simp, hro, by simp, by simp; exact h3⟩, g⟩
            · rename_i key len hp
              split at g
              · rename_i sz all hk
                obtain ⟨ro, rows, hs, hro, ⟨⟨e1, e2, e3, e4, e5⟩, e6, e7⟩, gg⟩ := srcK_sound g
                subst e1
                exact ⟨_, os_appOw (d := d * 16) ho hu hi hz hzs hp rfl hs e6 e2 e3 e4 e5, ⟨by simp, by
                  intro q hq
                  rcases List.mem_cons.1 hq with rfl | hq
                  · exact hk
                  · exact hro q hq, by simp, by simp; exact e7⟩, gg⟩
              · exact g.elim
            · exact g.elim
          · exact g.elim
        · exact g.elim
      · exact g.elim
  · exact h.elim

theorem binK_sound {P : Program} {c : CSt} {o : Oper} {op : BinOp} {t t' : TypeId} {x y : Operand} {k : PV → Prop} (ho : o.op = .binOp op t x y t') (h : binK P op t (aev c.tm x) (aev c.tm y) k) : ∃ r, OpSem P o (vE r) c.tm ∧ k r := by
  unfold binK at h
  split at h
  · rename_i u v hx hy
    split at h
    · rename_i r hr
      exact ⟨_, os_bin ho hx hy hr, h⟩
    · split at h
      · rename_i r m n hr
        exact ⟨_, os_div ho hx hy hr h.1.1 h.1.2, h.2⟩
      · split at h
        · exact ⟨_, os_eqBool ho (.inl rfl) h.1 hx hy, by simpa using h.2⟩
        · exact ⟨_, os_eqBool ho (.inr rfl) h.1 hx hy, by simpa using h.2⟩
        · exact h.elim
  · rename_i xs ys hx hy
    split at h
    · obtain ⟨h1, r, h2, h⟩ := h
      have := os_eqStruct (P := P) (o := o) (ts := c.tm) ho (.inl rfl) h1 hx hy h2
      exact ⟨_, this, by simpa using h⟩
    · obtain ⟨h1, r, h2, h⟩ := h
      have := os_eqStruct (P := P) (o := o) (ts := c.tm) ho (.inr rfl) h1 hx hy h2
      exact ⟨_, this, by simpa using h⟩
    · exact h.elim
  · exact h.elim

theorem nilK_sound {P : Program} {c : CSt} {o : Oper} {op : BinOp} {t t' : TypeId} {x y : Operand} {k : PV → Prop} (ho : o.op = .binOp op t x y t') (hn : isNilC y = true) (h : nilK P op t (aev c.tm x) k) : ∃ r, OpSem P o (vE r) c.tm ∧ k r := by
  have hy : y = .const (.slice none 0 0) := by
    unfold isNilC at hn
    split at hn
    · rfl
    · cases hn
  subst hy
  unfold nilK at h
  split at h
  · rename_i e hu
    split at h
    · rename_i sz rows hx
      exact ⟨_, os_eqNil ho hu hx (fun M w v a n cc hv e => by
        simp only [RV] at hv
        obtain ⟨a', n', c', e1, e2, e3, e4⟩ := hv
        rw [e] at e1; cases e1
        rcases e4 with e4 | ⟨b, off, cs, e5, _⟩
        · exact e4
        · cases e5) (fun M w v hv => by
        simp only [RV] at hv
        obtain ⟨a', n', c', e1, _⟩ := hv
        exact ⟨_, _, _, e1⟩), h⟩
    · rename_i key lo len hx
      exact ⟨_, os_eqNil ho hu hx (fun M w v a n cc hv e => by
        simp only [RV] at hv
        obtain ⟨L, hL, hc⟩ := hv
        rcases hc with ⟨_, h2, _⟩ | ⟨_, h2, a', h3, h4⟩
        · exact h2
        · rw [e] at h3
          by_cases hlt : lo < L.cap
          · have := h4 hlt; cases h3; cases this
          · cases h3; omega) (fun M w v hv => by
        simp only [RV] at hv
        obtain ⟨L, hL, hc⟩ := hv
        rcases hc with ⟨_, _, a, h3⟩ | ⟨_, _, a, h3, _⟩
        · exact ⟨_, _, _, h3⟩
        · exact ⟨_, _, _, h3⟩), h⟩
    · rename_i hx
      exact ⟨_, os_eqNil ho hu hx (fun _ _ _ _ _ _ _ _ => trivial) (fun M w v hv => by
        simp only [RV] at hv
        obtain ⟨a, h3⟩ := hv
        exact ⟨_, _, _, h3⟩), h⟩
    · exact h.elim
  · exact h.elim

theorem opE_sound {P : Program} {c : CSt} {o : Oper} {k : Eff → Prop} (h : opE P c o k) : ∃ E, OpSem P o E c.tm ∧ Sat c.st E ∧ k E := by
  unfold opE at h
  split at h
  · rename_i x ho
    rw [evK_eq] at h
    exact ⟨_, os_move ho, sat_empty _ _, h⟩
  · rename_i x ho
    rw [evK_eq] at h
    exact ⟨_, os_assign ho, sat_empty _ _, h⟩
  · rename_i q x y ho
    rw [evK_eq] at h
    split at h
    · rename_i b hb
      rw [splitK_eq] at h
      have := os_pick (P := P) (ts := c.tm) ho hb
      cases b
      · simp only [evK_eq] at h
        exact ⟨_, by simpa using this, sat_empty _ _, h⟩
      · simp only [evK_eq] at h
        exact ⟨_, by simpa using this, sat_empty _ _, h⟩
    · exact h.elim
  · rename_i op t x y t' ho
    split at h
    · rename_i hn
      rw [evK_eq] at h
      obtain ⟨r, h1, h2⟩ := nilK_sound ho hn h
      exact ⟨_, h1, sat_empty _ _, h2⟩
    · rw [evK_eq, evK_eq] at h
      obtain ⟨r, h1, h2⟩ := binK_sound ho h
      exact ⟨_, h1, sat_empty _ _, h2⟩
  · rename_i op t x ho
    rw [evK_eq] at h
    split at h
    · rename_i u hu
      split at h
      · rename_i r hr
        exact ⟨_, os_un ho hu hr, sat_empty _ _, h⟩
      · exact h.elim
    · exact h.elim
  · rename_i src dst x ho
    rw [evK_eq] at h
    split at h
    · rename_i kk n d kd hx hs hd
      exact ⟨_, os_convInt ho hs hd hx, sat_empty _ _, h⟩
    · exact h.elim
  · rename_i t x ho
    split at h
    · rename_i d hd
      rw [evK_eq, lvK_eq] at h
      obtain ⟨h1, h⟩ := okK_iff h
      obtain ⟨n, hn, h⟩ := freshK_sound h
      exact ⟨_, os_box (d := n) ho rfl h1, ⟨by simp, by simp, (by simp; exact hn), by simp⟩, h⟩
    · exact h.elim
  · rename_i t ho
    split at h
    · rename_i d hd
      split at h
      · rename_i inf hi
        split at h
        · rename_i z hz
          rw [zlK_eq] at h
          obtain ⟨n, hn, h⟩ := freshK_sound h
          exact ⟨_, os_alloc (d := n) ho hi hz, ⟨by simp, by simp, (by simp; exact hn), by simp⟩, h⟩
        · exact h.elim
      · exact h.elim
    · exact h.elim
  · rename_i t parts ho
    split at h
    · rename_i z place hz hp
      rw [zlK_eq] at h
      obtain ⟨h1, h⟩ := okK_iff h
      rw [partsK_eq] at h
      obtain ⟨ls, h2, h⟩ := pfillK_sound h
      exact ⟨_, os_build ho hz hp h1 h2, sat_empty _ _, h⟩
    · exact h.elim
  · rename_i t len parts ho
    split at h
    · rename_i e hu
      split at h
      · rename_i inf hi
        split at h
        · rename_i hpl
          have ep : parts = #[] := by apply Array.ext'; simpa using hpl
          subst ep
          exact ⟨_, os_buildNil ho hu hi, sat_empty _ _, h⟩
        · split at h
          · rename_i z hz
            obtain ⟨h1, h⟩ := okK_iff h
            rw [zlK_eq] at h
            obtain ⟨h2, h⟩ := okK_iff h
            rw [repK_eq, partsK_eq] at h
            obtain ⟨ls, h3, h⟩ := pfillK_sound h
            obtain ⟨h4, h⟩ := okK_iff h
            simp only [Bool.and_eq_true, Nat.beq_eq, Nat.ble_eq] at h1
            have h4 : ls.length = _ := Nat.eq_of_beq_eq_true h4
            split at h
            · rename_i hpl
              rw [chunkK_eq] at h
              exact ⟨_, os_buildSlice ho hu hi hz h1.1.1 (by have := h1.1.2; simp [Nat.blt] at this; omega) (by have := h1.2; omega) h2 h3 h4 hpl, sat_empty _ _, h⟩
            · rw [chunkK_eq] at h
              exact ⟨_, os_buildSliceK ho hu hi hz h1.1.1 (by have := h1.1.2; simp [Nat.blt] at this; omega) (by have := h1.2; omega) h2 h3 h4, sat_empty _ _, h⟩
          · exact h.elim
      · exact h.elim
    · exact h.elim
  · rename_i t x ho
    rw [evK_eq] at h
    split at h
    · rename_i key off hx
      split at h
      · rename_i ls hk
        rw [dropK_eq] at h
        obtain ⟨d, inf, p, h1, h2, h3, h⟩ := ldK_sound h
        exact ⟨_, os_loadPt ho h1 h2 hx h3, ⟨by simp; exact hk, by simp, by simp, by simp⟩, h⟩
      · exact h.elim
    · rename_i sfx hx
      obtain ⟨d, inf, p, h1, h2, h3, h⟩ := ldK_sound h
      exact ⟨_, os_loadEp ho h1 h2 hx h3, sat_empty _ _, h⟩
    · rename_i sfx hx
      obtain ⟨d, inf, p, h1, h2, h3, h⟩ := ldK_sound h
      exact ⟨_, os_loadLp ho h1 h2 hx h3, sat_empty _ _, h⟩
    · rename_i key i off hx
      split at h
      · rename_i fz sz rows hk
        obtain ⟨row, hrow, h⟩ := h
        rw [dropK_eq] at h
        obtain ⟨d, inf, p, h1, h2, h3, h⟩ := ldK_sound h
        exact ⟨_, os_loadEo ho h1 h2 hx hrow h3, ⟨by simp, by simp; exact hk, by simp, by simp⟩, h⟩
      · exact h.elim
    · exact h.elim
  · rename_i t x y ho
    rw [evK_eq, evK_eq, lvK_eq] at h
    split at h
    · rename_i inf hi
      obtain ⟨h1, h⟩ := okK_iff h
      simp only [Bool.and_eq_true, Nat.beq_eq] at h1
      split at h
      · rename_i key off hx
        split at h
        · rename_i ls hk
          obtain ⟨h2, h⟩ := okK_iff h
          rw [spliceK_eq] at h
          exact ⟨_, os_storePt ho hi hx rfl h1.1 h1.2 (by simpa using h2), ⟨by simp; exact hk, by simp, by simp, by simp⟩, h⟩
        · exact h.elim
      · rename_i key i off hx
        split at h
        · rename_i sz rows hk
          obtain ⟨h2, row, hrow, h⟩ := okK_iff h
          simp only [Bool.and_eq_true, Nat.ble_eq] at h2
          rw [spliceK_eq] at h
          exact ⟨_, os_storeEo ho hi hx rfl h1.1 h1.2 hrow h2.1 h2.2, ⟨by simp, by simp; exact hk, by simp, by simp⟩, h⟩
        · exact h.elim
      · exact h.elim
    · exact h.elim
  · rename_i x ho
    rw [evK_eq] at h
    obtain ⟨q, h1, h⟩ := paddK_sound h
    exact ⟨_, os_nilCheck ho rfl h1, sat_empty _ _, h⟩
  · rename_i t x i ho
    rw [evK_eq] at h
    obtain ⟨fs, f, inf, h1, h2, h3, h4, h⟩ := fldK_sound h
    obtain ⟨q, h5, h⟩ := paddK_sound h
    exact ⟨_, os_fieldAddr ho h1 h2 h3 h4 rfl h5, sat_empty _ _, h⟩
  · rename_i t x y ho
    rw [evK_eq, evK_eq] at h
    split at h
    · rename_i kk n hy
      split at h
      · rename_i len e hu
        split at h
        · rename_i inf hi
          obtain ⟨⟨h1, h2⟩, h⟩ := h
          obtain ⟨q, h5, h⟩ := paddK_sound h
          exact ⟨_, os_indexArr ho hu hi rfl hy h1 h2 h5, sat_empty _ _, h⟩
        · exact h.elim
      · rename_i e hu
        split at h
        · rename_i inf hi
          split at h
          · rename_i sz rows hx
            obtain ⟨h1, h2, row, h3, h⟩ := okK_iff h
            exact ⟨_, os_indexSl ho hu hi (Nat.eq_of_beq_eq_true h1) hx hy h2 h3, sat_empty _ _, h⟩
          · rename_i sz rows hx
            obtain ⟨h1, h2, row, h3, h⟩ := okK_iff h
            exact ⟨_, os_indexLs ho hu hi (Nat.eq_of_beq_eq_true h1) hx hy h2 h3, sat_empty _ _, h⟩
          · rename_i key lo len hx
            split at h
            · rename_i fz sz rows hk
              obtain ⟨h1, ⟨h2, h3⟩, h⟩ := okK_iff h
              exact ⟨_, os_indexOw ho hu hi (Nat.eq_of_beq_eq_true h1) hx hy h2 h3, ⟨by simp, by simp; exact hk, by simp, by simp⟩, h⟩
            · exact h.elim
          · exact h.elim
        · exact h.elim
      · exact h.elim
    · exact h.elim
  · rename_i t x lo hi mx ho
    rw [evK_eq] at h
    split at h
    · rename_i e hu
      split at h
      · rename_i inf hin
        split at h
        · split at h
          · rename_i sz rows hx
            obtain ⟨h1, h⟩ := okK_iff h
            obtain ⟨l, h2, h⟩ := bndK_sound h
            obtain ⟨hh, h3, ⟨h4, h5, h6⟩, h⟩ := bndK_sound h
            exact ⟨_, os_sliceSl ho hu hin (Nat.eq_of_beq_eq_true h1) hx h2 h3 h4 h5 h6, sat_empty _ _, h⟩
          · rename_i key lo0 len hx
            split at h
            · rename_i fz sz rows hk
              obtain ⟨h1, h⟩ := okK_iff h
              obtain ⟨l, h2, h⟩ := bndK_sound h
              obtain ⟨hh, h3, ⟨h4, h5, h6⟩, h⟩ := bndK_sound h
              exact ⟨_, os_sliceOw ho hu hin (Nat.eq_of_beq_eq_true h1) hx h2 h3 h4 h5 h6, ⟨by simp, by simp; exact hk, by simp, by simp⟩, h⟩
            · exact h.elim
          · rename_i hx
            obtain ⟨l, h2, h⟩ := bndK_sound h
            obtain ⟨hh, h3, ⟨rfl, rfl⟩, g⟩ := bndK_sound h
            exact ⟨_, os_sliceNl ho hu hin hx h2 h3, sat_empty _ _, g⟩
          · exact h.elim
        · rename_i z
          split at h
          · rename_i y
            rw [evK_eq, evK_eq] at h
            split at h
            · rename_i hy hz
              split at h
              · rename_i hx
                exact ⟨_, os_slice00 ho hu hin hx (.inl rfl) hy hz, sat_empty _ _, h⟩
              · rename_i hx
                exact ⟨_, os_slice00 ho hu hin hx (.inr (.inl ⟨_, _, rfl⟩)) hy hz, sat_empty _ _, h⟩
              · rename_i hx
                exact ⟨_, os_slice00 ho hu hin hx (.inr (.inr ⟨_, _, _, rfl⟩)) hy hz, sat_empty _ _, h⟩
              · exact h.elim
            · exact h.elim
          · exact h.elim
      · exact h.elim
    · rename_i hu
      split at h
      · rename_i b hx
        obtain ⟨l, h2, h⟩ := bndK_sound h
        obtain ⟨hh, h3, ⟨h4, h5, h6⟩, h⟩ := bndK_sound h
        exact ⟨_, os_sliceStr ho hu hx h2 h3 h4 h5 h6, sat_empty _ _, h⟩
      · exact h.elim
    · exact h.elim
  · rename_i x i ho
    rw [evK_eq] at h
    split at h
    · rename_i ps hx
      split at h
      · rename_i q hq
        exact ⟨_, os_extract ho hx hq, sat_empty _ _, h⟩
      · exact h.elim
    · exact h.elim
  · rename_i t x y ho
    rw [evK_eq, evK_eq] at h
    split at h
    · rename_i kk n hy
      split at h
      · rename_i len e hu
        split at h
        · rename_i inf hi
          split at h
          · rename_i ps hx
            obtain ⟨⟨h1, h2⟩, h⟩ := h
            rw [dropK_eq] at h
            obtain ⟨d, inf', p, h3, h4, h5, h⟩ := ldK_sound h
            rw [hi] at h4; cases h4
            exact ⟨_, os_index ho hu h3 hi hx hy h1 h2 h5, sat_empty _ _, h⟩
          · exact h.elim
        · exact h.elim
      · rename_i hu
        split at h
        · rename_i s hx
          obtain ⟨h1, b, h2, h⟩ := h
          exact ⟨_, os_indexStr ho hu hx hy h1 h2, sat_empty _ _, h⟩
        · exact h.elim
      · exact h.elim
    · exact h.elim
  · rename_i t x i ho
    rw [evK_eq] at h
    split at h
    · rename_i ps hx
      split at h
      · rename_i fs hu
        split at h
        · rename_i a ty off b c' d e hf
          rw [dropK_eq] at h
          obtain ⟨d, inf', p, h3, h4, h5, h⟩ := ldK_sound h
          exact ⟨_, os_field ho hu (by simpa using hf) h3 h4 hx h5, sat_empty _ _, h⟩
        · exact h.elim
      · exact h.elim
    · exact h.elim
  · rename_i f fst caps ho
    split at h
    · rename_i hf
      have ef : fst = #[] := by apply Array.ext'; simpa using hf
      subst ef
      rw [evLK_eq] at h
      exact ⟨_, os_makeFunc ho, sat_empty _ _, h⟩
    · exact h.elim
  · rename_i f args tys ho
    rw [evK_eq] at h
    split at h
    · rename_i g caps hf
      rw [evLK_eq, appK_eq] at h
      exact callK_sound ho (by simp [callee, hf]) h
    · exact h.elim
  · rename_i b args tys ho
    exact builtinK_sound ho h
  · exact h.elim

end Go.Pv
