/-
  The evaluator, operation by operation, and its soundness. Generic over the program.
-/
import Derived.Test.YtnphfgphajejaaaPvJ
namespace Go.Pv

def bndK (ts : List PV) (x : Option Operand) (d : Int) (k : Int → Prop) : Prop :=
  match x with
  | none => k d
  | some x => evK ts x fun p => match p with | .sc (.int _ n) => k n | _ => False

theorem bndK_sound {ts : List PV} {x : Option Operand} {d : Int} {k : Int → Prop} (h : bndK ts x d k) : ∃ n, bndV ts x d = some n ∧ k n := by
  unfold bndK at h
  split at h
  · exact ⟨d, rfl, h⟩
  · rename_i x
    rw [evK_eq] at h
    unfold bndV
    split at h
    · rename_i kk n hx
      exact ⟨n, by simp [hx], h⟩
    · exact h.elim

def pfillK (place : Nat → Option (Nat × Nat)) (ls : List PV) : List (Nat × PV) → (List PV → Prop) → Prop
  | [], k => k ls
  | (i, p) :: rest, k =>
    match place i with
    | none => False
    | some (off, size) => lvK p fun ns => okK (ns.all leaf1 && Nat.beq ns.length size && Nat.ble (off + size) ls.length) (spliceK ls off ns fun ls' => pfillK place ls' rest k)

theorem pfillK_sound {place : Nat → Option (Nat × Nat)} : ∀ {parts : List (Nat × PV)} {ls : List PV} {k : List PV → Prop}, pfillK place ls parts k → ∃ ls', pfill place ls parts = some ls' ∧ k ls'
  | [], ls, k, h => ⟨ls, rfl, h⟩
  | (i, p) :: rest, ls, k, h => by
    simp only [pfillK] at h
    simp only [pfill]
    split at h
    · exact h.elim
    · rename_i off size hp
      rw [lvK_eq] at h
      obtain ⟨hc, h⟩ := okK_iff h
      rw [spliceK_eq] at h
      simp only [Bool.and_eq_true, Nat.beq_eq, Nat.ble_eq] at hc
      obtain ⟨⟨c1, c2⟩, c3⟩ := hc
      simp only [hp]
      rw [if_pos (by simp [c1, c2, c3])]
      exact pfillK_sound h

def partsK (ts : List PV) : List (Nat × Operand) → (List (Nat × PV) → Prop) → Prop
  | [], k => k []
  | (i, x) :: r, k => evK ts x fun p => partsK ts r fun ps => k ((i, p) :: ps)

theorem partsK_eq (ts : List PV) : ∀ (l : List (Nat × Operand)) (k : List (Nat × PV) → Prop), partsK ts l k = k (l.map fun p => (p.1, aev ts p.2))
  | [], k => rfl
  | (i, x) :: r, k => by simp [partsK, evK_eq, partsK_eq ts r]

def zlK : List Value → (List PV → Prop) → Prop
  | [], k => k []
  | v :: vs, k => match v with
    | .slice none 0 0 => zlK vs fun r => k (.nl :: r)
    | v => zlK vs fun r => k (.sc v :: r)

theorem zlK_eq : ∀ (vs : List Value) (k : List PV → Prop), zlK vs k = k (vs.map zleaf)
  | [], k => rfl
  | v :: vs, k => by
    unfold zlK
    split
    · simp [zlK_eq vs, zleaf]
    · rename_i hne
      rw [zlK_eq vs, List.map_cons]
      congr 2
      unfold zleaf
      split
      · exact absurd rfl (hne)
      · rfl

def repK {α : Type} : Nat → List α → (List α → Prop) → Prop
  | 0, _, k => k []
  | n + 1, l, k => repK n l fun r => appK l r k

theorem repK_eq {α : Type} : ∀ (n : Nat) (l : List α) (k : List α → Prop), repK n l k = k (List.replicate n l).flatten
  | 0, l, k => rfl
  | n + 1, l, k => by simp [repK, repK_eq n l, appK_eq, List.replicate_succ]

def chunkK (sz : Nat) : Nat → List PV → (List (List PV) → Prop) → Prop
  | 0, _, k => k []
  | n + 1, ls, k => takeK sz ls fun r => dropK sz ls fun rest => chunkK sz n rest fun rs => k (r :: rs)

theorem chunkK_eq (sz : Nat) : ∀ (n : Nat) (ls : List PV) (k : List (List PV) → Prop), chunkK sz n ls k = k (chunk sz n ls)
  | 0, ls, k => rfl
  | n + 1, ls, k => by simp [chunkK, chunk, takeK_eq, dropK_eq, chunkK_eq sz n]

mutual
def shK (n : Nat) (p : PV) (k : PV → Prop) : Prop :=
  match p with
  | .ag ps => shLK n ps fun qs => k (.ag qs)
  | .tu ps => shLK n ps fun qs => k (.tu qs)
  | .cl f ps => shLK n ps fun qs => k (.cl f qs)
  | .ow key lo len => k (.ow (n + key) lo len)
  | .eo key i off => k (.eo (n + key) i off)
  | .sc v => k (.sc v)
  | .sl sz rows => k (.sl sz rows)
  | .nl => k .nl
  | .pt key off => k (.pt key off)
  | .ep sfx => k (.ep sfx)
  | .ub φ => k (.ub φ)
  | .ls .. => k .bad
  | .lp .. => k .bad
  | .bad => k .bad
def shLK (n : Nat) (ps : List PV) (k : List PV → Prop) : Prop :=
  match ps with
  | [] => k []
  | p :: ps => shK n p fun q => shLK n ps fun qs => k (q :: qs)
end

mutual
theorem shK_eq (n : Nat) : ∀ (p : PV) (k : PV → Prop), shK n p k = k (shift n p)
  | .ag ps, k => by simp [shK, shift, shLK_eq n ps]
  | .tu ps, k => by simp [shK, shift, shLK_eq n ps]
  | .cl f ps, k => by simp [shK, shift, shLK_eq n ps]
  | .ow key lo len, k => by simp [shK, shift]
  | .eo key i off, k => by simp [shK, shift]
  | .sc v, k => by simp [shK, shift]
  | .sl sz rows, k => by simp [shK, shift]
  | .nl, k => by simp [shK, shift]
  | .pt key off, k => by simp [shK, shift]
  | .ep sfx, k => by simp [shK, shift]
  | .ub φ, k => by simp [shK, shift]
  | .ls .., k => by simp [shK, shift]
  | .lp .., k => by simp [shK, shift]
  | .bad, k => by simp [shK, shift]
theorem shLK_eq (n : Nat) : ∀ (ps : List PV) (k : List PV → Prop), shLK n ps k = k (shiftL n ps)
  | [], k => by simp [shLK, shiftL]
  | p :: ps, k => by simp [shLK, shiftL, shK_eq n p, shLK_eq n ps]
end

/-- A call. The user gives the contract. -/
noncomputable def callK (P : Program) (c : CSt) (d : Option Nat) (f : Nat) (ps : List PV) (k : Eff → Prop) : Prop :=
  resAK c ps fun rb ro qs => ∃ r os, Ctr P f qs r os ∧
    match os, scal r with
    | [], true => k ⟨r, rb, ro, [], [], [], []⟩
    | os, _ => match rb with
      | [] => ∃ n, d.map (· * 16) = some n ∧ (∀ q ∈ ro, ¬ (n ≤ q.1 ∧ q.1 < n + os.length)) ∧ (∀ i, i < os.length → lkA c.ob (n + i) = none) ∧ shK n r fun r' => k ⟨r', [], ro, [], (List.range os.length).map (n + ·), [], newObjs n os ++ frozen ro⟩
      | _ => False

noncomputable def builtinK (P : Program) (c : CSt) (d : Option Nat) (b : Builtin) (args : List Operand) (tys : List TypeId) (k : Eff → Prop) : Prop :=
  match b, args, tys with
  | .len, [x], [t] => evK c.tm x fun p => match P.underlying t with
    | some (.slice _) => match p with
      | .sl _ rows => k (vE (.sc (.int .i64 rows.length)))
      | .nl => k (vE (.sc (.int .i64 (0 : Nat))))
      | .ow _ _ n => k (vE (.sc (.int .i64 n)))
      | .ls _ rows => k (vE (.sc (.int .i64 rows.length)))
      | _ => False
    | some .string => match p with
      | .sc (.string s) => k (vE (.sc (.int .i64 s.size)))
      | _ => False
    | _ => False
  | .max, [x, y], _ => evK c.tm x fun p => evK c.tm y fun q => match p, q with
    | .sc (.int kk m), .sc (.int _ n) => k (vE (.sc (.int kk (if n > m then n else m))))
    | _, _ => False
  | .min, [x, y], _ => evK c.tm x fun p => evK c.tm y fun q => match p, q with
    | .sc (.int kk m), .sc (.int _ n) => k (vE (.sc (.int kk (if n < m then n else m))))
    | _, _ => False
  | .append, [x, y], [t, t'] => match d with
    | none => False
    | some d => okK (Nat.beq t t') (evK c.tm x fun p => evK c.tm y fun q => match P.underlying t with
      | some (.slice e) => match P.info? e with
        | some inf => match inf.zero with
          | some z => okK (Nat.beq z.cells.size inf.size) (match p with
            | .nl => srcK c q inf.size fun ro rows => ((rows.length * inf.bytes ≤ 140737488355328 ∧ rows.length ≤ maxLen) ∧ lkA c.ob (d * 16) = none) ∧ k ⟨.ow (d * 16) 0 rows.length, [], ro, [], [d * 16], [], [(d * 16, some (false, inf.size, rows))]⟩
            | .ow key 0 len => match lkA c.ob key with
              | some (some (false, sz, all)) => srcK c q inf.size fun ro rows => ((sz = inf.size ∧ len ≤ all.length ∧ (len + rows.length) * inf.bytes ≤ 140737488355328 ∧ len + rows.length ≤ maxLen ∧ ∀ r ∈ rows, r.all leaf1 = true) ∧ d * 16 ≠ key ∧ lkA c.ob (d * 16) = none) ∧ k ⟨.ow (d * 16) 0 (len + rows.length), [], (key, false, inf.size, all) :: ro, [], [d * 16], [], [(key, none), (d * 16, some (false, inf.size, all.take len ++ rows))]⟩
              | _ => False
            | _ => False)
          | none => False
        | none => False
      | _ => False)
  | _, _, _ => False

/-- A key that is free: the slot's own number, or one far off. -/
def freshL {α : Type} (bx : List (Nat × α)) (d : Nat) : List Nat → (Nat → Prop) → Prop
  | [], _ => False
  | j :: js, k => match lkA bx (d + 1000 * j) with
    | none => k (d + 1000 * j)
    | some _ => freshL bx d js k
def freshK {α : Type} (bx : List (Nat × α)) (d : Nat) (k : Nat → Prop) : Prop :=
  match lkA bx d with
  | none => k d
  | some _ => freshL bx d [1, 2, 3, 4, 5, 6, 7, 8, 9, 10, 11, 12, 13, 14, 15, 16, 17, 18, 19, 20, 21, 22, 23, 24, 25, 26, 27, 28, 29, 30, 31, 32] k
theorem freshL_sound {α : Type} {bx : List (Nat × α)} {d : Nat} {k : Nat → Prop} : ∀ {js : List Nat}, freshL bx d js k → ∃ n, lkA bx n = none ∧ k n
  | [], h => h.elim
  | j :: js, h => by
    unfold freshL at h
    split at h
    · rename_i e; exact ⟨_, e, h⟩
    · exact freshL_sound h
theorem freshK_sound {α : Type} {bx : List (Nat × α)} {d : Nat} {k : Nat → Prop} (h : freshK bx d k) : ∃ n, lkA bx n = none ∧ k n := by
  unfold freshK at h
  split at h
  · rename_i e; exact ⟨_, e, h⟩
  · exact freshL_sound h

/-- Is an operand the literal nil of a slice? -/
def isNilC : Operand → Bool
  | .const (.slice none 0 0) => true
  | _ => false

/-- A slice compared with nil. -/
def nilK (P : Program) (op : BinOp) (t : TypeId) (p : PV) (k : PV → Prop) : Prop :=
  match op, P.underlying t with
  | .eql, some (.slice _) => match p with
    | .sl _ rows => k (.ub (rows = []))
    | .ow _ _ len => k (.ub (len = 0))
    | .nl => k (.ub True)
    | _ => False
  | _, _ => False

noncomputable def opE (P : Program) (c : CSt) (o : Oper) (k : Eff → Prop) : Prop :=
  match o.op with
  | .move x => evK c.tm x fun p => k (vE p)
  | .assign x => evK c.tm x fun p => k (vE p)
  | .pick q x y => evK c.tm q fun p => match p with
    | .sc (.bool b) => splitK b fun b => match b with
      | true => evK c.tm x fun p => k (vE p)
      | false => evK c.tm y fun p => k (vE p)
    | _ => False
  | .binOp op t x y _ => match isNilC y with
    | true => evK c.tm x fun p => nilK P op t p fun r => k (vE r)
    | false => evK c.tm x fun p => evK c.tm y fun q => binK P op t p q fun r => k (vE r)
  | .unOp op _ x => evK c.tm x fun p => match p with
    | .sc u => match pun op u with
      | some r => k (vE (.sc r))
      | none => False
    | _ => False
  | .convert src dst x => evK c.tm x fun p => match p, P.underlying src, P.underlying dst with
    | .sc (.int _ n), some _, some (.int kk) => k (vE (.sc (.int kk (kk.wrap n))))
    | _, _, _ => False
  | .box _ x => match o.dst with
    | some d => evK c.tm x fun p => lvK p fun ls => okK (ls.all leaf1) (freshK c.bx d fun d => k ⟨.pt d 0, [], [], [d], [], [(d, ls)], []⟩)
    | none => False
  | .alloc t => match o.dst with
    | some d => match P.info? t with
      | some inf => match inf.zero with
        | some z => zlK z.cells.toList fun ls => freshK c.bx d fun d => k ⟨.pt d 0, [], [], [d], [], [(d, ls)], []⟩
        | none => False
      | none => False
    | none => False
  | .build t parts => match zeroT P t, placesOf P t with
    | some z, some place => zlK z.cells.toList fun zs => okK (zs.all leaf1) (partsK c.tm parts.toList fun ps => pfillK place zs ps fun ls => k (vE (.ag ls)))
    | _, _ => False
  | .buildSlice t len parts => match P.underlying t with
    | some (.slice e) => match P.info? e with
      | some inf => match len, parts.toList with
        | 0, [] => k (vE .nl)
        | len, pl => match inf.zero with
          | some z => okK (Nat.beq z.cells.size inf.size && Nat.blt 0 (len * inf.size) && Nat.ble (len * inf.size) 16777216) (zlK z.cells.toList fun zs => okK (zs.all leaf1) (repK len zs fun zz => partsK c.tm pl fun ps => pfillK (fun i => some (i * inf.size, inf.size)) zz ps fun ls => okK (Nat.beq ls.length (len * inf.size)) (match plainL ls with | true => chunkK inf.size len ls fun rows => k (vE (.sl inf.size rows)) | false => chunkK inf.size len ls fun rows => k (vE (.ls inf.size rows)))))
          | none => False
      | none => False
    | _ => False
  | .load t x => evK c.tm x fun p => match p with
    | .pt key off => match lkA c.bx key with
      | some ls => dropK off ls fun sfx => ldK P t sfx fun v => k ⟨v, [(key, ls)], [], [], [], [], []⟩
      | none => False
    | .ep sfx => ldK P t sfx fun v => k (vE v)
    | .lp sfx => ldK P t sfx fun v => k (vE v)
    | .eo key i off => match lkA c.ob key with
      | some (some (fz, sz, rows)) => ∃ row, rows[i]? = some row ∧ dropK off row fun sfx => ldK P t sfx fun v => k ⟨v, [], [(key, fz, sz, rows)], [], [], [], []⟩
      | _ => False
    | _ => False
  | .store t x y => evK c.tm x fun p => evK c.tm y fun q => lvK q fun ns => match P.info? t with
    | some inf => okK (ns.all leaf1 && Nat.beq ns.length inf.size) (match p with
      | .pt key off => match lkA c.bx key with
        | some ls => okK (Nat.ble (off + ns.length) ls.length) (spliceK ls off ns fun ls' => k ⟨.bad, [(key, ls)], [], [], [], [(key, ls')], []⟩)
        | none => False
      | .eo key i off => match lkA c.ob key with
        | some (some (false, sz, rows)) => okK (Nat.ble (off + ns.length) sz && plainL ns) (∃ row, rows[i]? = some row ∧ spliceK row off ns fun row' => k ⟨.bad, [], [(key, false, sz, rows)], [], [], [], [(key, some (false, sz, rows.set i row'))]⟩)
        | _ => False
      | _ => False)
    | none => False
  | .nilCheck x => evK c.tm x fun p => paddK p 0 fun _ => k (vE p)
  | .fieldAddr t x i => evK c.tm x fun p => fldK P t i fun off => paddK p off fun q => k (vE q)
  | .indexAddr t x y => evK c.tm x fun p => evK c.tm y fun q => match q with
    | .sc (.int _ n) => match P.underlying t with
      | some (.array len e) => match P.info? e with
        | some inf => (0 ≤ n ∧ n < (len : Int)) ∧ paddK p (n.toNat * inf.size) fun r => k (vE r)
        | none => False
      | some (.slice e) => match P.info? e with
        | some inf => match p with
          | .sl sz rows => okK (Nat.beq inf.size sz) (0 ≤ n ∧ ∃ row, rows[n.toNat]? = some row ∧ k (vE (.ep row)))
          | .ls sz rows => okK (Nat.beq inf.size sz) (0 ≤ n ∧ ∃ row, rows[n.toNat]? = some row ∧ k (vE (.lp row)))
          | .ow key lo len => match lkA c.ob key with
            | some (some (fz, sz, rows)) => okK (Nat.beq inf.size sz) ((0 ≤ n ∧ n < (len : Int)) ∧ k ⟨.eo key (lo + n.toNat) 0, [], [(key, fz, sz, rows)], [], [], [], []⟩)
            | _ => False
          | _ => False
        | none => False
      | _ => False
    | _ => False
  | .slice t x lo hi mx => evK c.tm x fun p => match P.underlying t with
    | some (.slice e) => match P.info? e with
      | some inf => match mx with
        | none => match p with
          | .sl sz rows => okK (Nat.beq inf.size sz) (bndK c.tm lo 0 fun l => bndK c.tm hi rows.length fun h => (0 ≤ l ∧ l ≤ h ∧ h ≤ rows.length) ∧ k (vE (.sl sz ((rows.take h.toNat).drop l.toNat))))
          | .ow key lo0 len => match lkA c.ob key with
            | some (some (fz, sz, rows)) => okK (Nat.beq inf.size sz) (bndK c.tm lo 0 fun l => bndK c.tm hi len fun h => (0 ≤ l ∧ l ≤ h ∧ h ≤ (len : Int)) ∧ k ⟨.ow key (lo0 + l.toNat) (h.toNat - l.toNat), [], [(key, fz, sz, rows)], [], [], [], []⟩)
            | _ => False
          | .nl => bndK c.tm lo 0 fun l => bndK c.tm hi 0 fun h => (l = 0 ∧ h = 0) ∧ k (vE .nl)
          | _ => False
        | some z => match lo, hi with
          | none, some y => evK c.tm y fun q => evK c.tm z fun r => match q, r with
            | .sc (.int _ 0), .sc (.int _ 0) => match p with
              | .nl => k (vE .nl)
              | .sl _ _ => k (vE .nl)
              | .ow _ _ _ => k (vE .nl)
              | _ => False
            | _, _ => False
          | _, _ => False
      | none => False
    | some .string => match mx, p with
      | none, .sc (.string b) => bndK c.tm lo 0 fun l => bndK c.tm hi b.size fun h => (0 ≤ l ∧ l ≤ h ∧ h ≤ b.size) ∧ k (vE (.sc (.string (b.extract l.toNat h.toNat))))
      | _, _ => False
    | _ => False
  | .extract x i => evK c.tm x fun p => match p with
    | .tu ps => match ps[i]? with
      | some q => k (vE q)
      | none => False
    | _ => False
  | .index t x y => evK c.tm x fun p => evK c.tm y fun q => match q with
    | .sc (.int _ n) => match P.underlying t with
      | some (.array len e) => match P.info? e with
        | some inf => match p with
          | .ag ps => (0 ≤ n ∧ n < (len : Int)) ∧ dropK (n.toNat * inf.size) ps fun sfx => ldK P e sfx fun v => k (vE v)
          | _ => False
        | none => False
      | some .string => match p with
        | .sc (.string s) => 0 ≤ n ∧ ∃ b, s[n.toNat]? = some b ∧ k (vE (.sc (.int .u8 (b.toNat : Int))))
        | _ => False
      | _ => False
    | _ => False
  | .field t x i => evK c.tm x fun p => match p with
    | .ag ps => match P.underlying t with
      | some (.struct fs) => match fs.toList[i]? with
        | some ⟨_, ty, off, _, _, _, _⟩ => dropK off ps fun sfx => ldK P ty sfx fun v => k (vE v)
        | none => False
      | _ => False
    | _ => False
  | .makeFunc (.func f) fst caps => match fst.toList with
    | [] => evLK c.tm caps.toList fun ps => k (vE (.cl f ps))
    | _ => False
  | .call ⟨.value f, args, _⟩ => evK c.tm f fun p => match p with
    | .cl g caps => evLK c.tm args.toList fun ps => appK ps caps fun ps => callK P c o.dst g ps k
    | _ => False
  | .call ⟨.builtin b, args, tys⟩ => builtinK P c o.dst b args.toList tys.toList k
  | _ => False

theorem sat_empty (s : St) (p : PV) : Sat s (vE p) := by simp [Sat, vE]

theorem callK_sound {P : Program} {c : CSt} {o : Oper} {cl : Call} {f : Nat} {ps : List PV} {k : Eff → Prop} (ho : o.op = .call cl) (hc : callee c.tm cl.callee cl.args.toList = some (f, ps)) (h : callK P c o.dst f ps k) : ∃ E, OpSem P o E c.tm ∧ Sat c.st E ∧ k E := by
  unfold callK at h
  obtain ⟨rb, ro, qs, h1, h2, h3, r, os, hs, h⟩ := resAK_sound h
  split at h
  · rename_i hsc
    exact ⟨_, os_callS ho hc h1 hs hsc, ⟨h2, h3, by simp, by simp⟩, h⟩
  · split at h
    · obtain ⟨n, _, h5, h6, h⟩ := h
      rw [shK_eq] at h
      exact ⟨_, os_callF (n := n) ho hc h1 hs h5, ⟨by simp, h3, by simp, fun x hx => by
        simp only [List.mem_map, List.mem_range] at hx
        obtain ⟨i, hi, rfl⟩ := hx
        exact h6 i hi⟩, h⟩
    · exact h.elim

theorem builtinK_sound {P : Program} {c : CSt} {o : Oper} {b : Builtin} {args : Array Operand} {tys : Array TypeId} {k : Eff → Prop} (ho : o.op = .call ⟨.builtin b, args, tys⟩) (h : builtinK P c o.dst b args.toList tys.toList k) : ∃ E, OpSem P o E c.tm ∧ Sat c.st E ∧ k E := by
  unfold builtinK at h
  split at h
  · rename_i x t ha ht
    have ea : args = #[x] := by apply Array.ext'; simpa using ha
    have et : tys = #[t] := by apply Array.ext'; simpa using ht
    subst ea et
    rw [evK_eq] at h
    split at h
    · rename_i e hu
      split at h
      · rename_i sz rows hp
        exact ⟨_, os_len ho hu hp (.inl ⟨_, _, rfl, rfl⟩), sat_empty _ _, h⟩
      · rename_i hp
        exact ⟨_, os_len ho hu hp (.inr (.inl ⟨rfl, rfl⟩)), sat_empty _ _, h⟩
      · rename_i hp
        exact ⟨_, os_len ho hu hp (.inr (.inr ⟨_, _, rfl⟩)), sat_empty _ _, h⟩
      · rename_i hp
        exact ⟨_, os_lenLs ho hu hp, sat_empty _ _, h⟩
      · exact h.elim
    · rename_i hu
      split at h
      · rename_i s hp
        exact ⟨_, os_lenStr ho hu hp, sat_empty _ _, h⟩
      · exact h.elim
    · exact h.elim
  · rename_i x y ha
    have ea : args = #[x, y] := by apply Array.ext'; simpa using ha
    subst ea
    rw [evK_eq, evK_eq] at h
    split at h
    · rename_i hp hq
      exact ⟨_, os_max ho hp hq, sat_empty _ _, h⟩
    · exact h.elim
  · rename_i x y ha
    have ea : args = #[x, y] := by apply Array.ext'; simpa using ha
    subst ea
    rw [evK_eq, evK_eq] at h
    split at h
    · rename_i hp hq
      exact ⟨_, os_min ho hp hq, sat_empty _ _, h⟩
    · exact h.elim
  · rename_i x y t t' ha ht
    split at h
    · exact h.elim
    · rename_i d hd
      have ea : args = #[x, y] := by apply Array.ext'; simpa using ha
      have et : tys = #[t, t'] := by apply Array.ext'; simpa using ht
      subst ea et
      have g := (okK_iff h).2
      have htt : t = t' := Nat.eq_of_beq_eq_true (okK_iff h).1
      clear h
      subst htt
      rw [evK_eq, evK_eq] at g
      split at g
      · rename_i e hu
        split at g
        · rename_i inf hi
          split at g
          · rename_i z hz
            obtain ⟨hzs, g⟩ := okK_iff g
            have hzs : z.cells.size = inf.size := Nat.eq_of_beq_eq_true hzs
            split at g
            · rename_i hp
              obtain ⟨ro, rows, hs, hro, ⟨⟨h1, h2⟩, h3⟩, g⟩ := srcK_sound g
              exact ⟨_, os_appNl (d := d * 16) ho hu hi hz hzs hp rfl hs h1 h2, ⟨by simp, hro, by simp, by simp; exact h3⟩, g⟩
            · rename_i key len hp
              split at g
              · rename_i sz all hk
                obtain ⟨ro, rows, hs, hro, ⟨⟨e1, e2, e3, e4, e5⟩, e6, e7⟩, gg⟩ := srcK_sound g
                subst e1
                exact ⟨_, os_appOw (d := d * 16) ho hu hi hz hzs hp rfl hs e6 e2 e3 e4 e5, ⟨by simp, by
                  intro q hq
                  rcases List.mem_cons.1 hq with rfl | hq
                  · exact hk
                  · exact hro q hq, by simp, by simp; exact e7⟩, gg⟩
              · exact g.elim
            · exact g.elim
          · exact g.elim
        · exact g.elim
      · exact g.elim
  · exact h.elim

theorem binK_sound {P : Program} {c : CSt} {o : Oper} {op : BinOp} {t t' : TypeId} {x y : Operand} {k : PV → Prop} (ho : o.op = .binOp op t x y t') (h : binK P op t (aev c.tm x) (aev c.tm y) k) : ∃ r, OpSem P o (vE r) c.tm ∧ k r := by
  unfold binK at h
  split at h
  · rename_i u v hx hy
    split at h
    · rename_i r hr
      exact ⟨_, os_bin ho hx hy hr, h⟩
    · split at h
      · rename_i r m n hr
        exact ⟨_, os_div ho hx hy hr h.1.1 h.1.2, h.2⟩
      · split at h
        · exact ⟨_, os_eqBool ho (.inl rfl) h.1 hx hy, by simpa using h.2⟩
        · exact ⟨_, os_eqBool ho (.inr rfl) h.1 hx hy, by simpa using h.2⟩
        · exact h.elim
  · rename_i xs ys hx hy
    split at h
    · obtain ⟨h1, r, h2, h⟩ := h
      have := os_eqStruct (P := P) (o := o) (ts := c.tm) ho (.inl rfl) h1 hx hy h2
      exact ⟨_, this, by simpa using h⟩
    · obtain ⟨h1, r, h2, h⟩ := h
      have := os_eqStruct (P := P) (o := o) (ts := c.tm) ho (.inr rfl) h1 hx hy h2
      exact ⟨_, this, by simpa using h⟩
    · exact h.elim
  · exact h.elim

theorem nilK_sound {P : Program} {c : CSt} {o : Oper} {op : BinOp} {t t' : TypeId} {x y : Operand} {k : PV → Prop} (ho : o.op = .binOp op t x y t') (hn : isNilC y = true) (h : nilK P op t (aev c.tm x) k) : ∃ r, OpSem P o (vE r) c.tm ∧ k r := by
  have hy : y = .const (.slice none 0 0) := by
    unfold isNilC at hn
    split at hn
    · rfl
    · cases hn
  subst hy
  unfold nilK at h
  split at h
  · rename_i e hu
    split at h
    · rename_i sz rows hx
      exact ⟨_, os_eqNil ho hu hx (fun M w v a n cc hv e => by
        simp only [RV] at hv
        obtain ⟨a', n', c', e1, e2, e3, e4⟩ := hv
        rw [e] at e1; cases e1
        rcases e4 with e4 | ⟨b, off, cs, e5, _⟩
        · exact e4
        · cases e5) (fun M w v hv => by
        simp only [RV] at hv
        obtain ⟨a', n', c', e1, _⟩ := hv
        exact ⟨_, _, _, e1⟩), h⟩
    · rename_i key lo len hx
      exact ⟨_, os_eqNil ho hu hx (fun M w v a n cc hv e => by
        simp only [RV] at hv
        obtain ⟨L, hL, hc⟩ := hv
        rcases hc with ⟨_, h2, _⟩ | ⟨_, h2, a', h3, h4⟩
        · exact h2
        · rw [e] at h3
          by_cases hlt : lo < L.cap
          · have := h4 hlt; cases h3; cases this
          · cases h3; omega) (fun M w v hv => by
        simp only [RV] at hv
        obtain ⟨L, hL, hc⟩ := hv
        rcases hc with ⟨_, _, a, h3⟩ | ⟨_, _, a, h3, _⟩
        · exact ⟨_, _, _, h3⟩
        · exact ⟨_, _, _, h3⟩), h⟩
    · rename_i hx
      exact ⟨_, os_eqNil ho hu hx (fun _ _ _ _ _ _ _ _ => trivial) (fun M w v hv => by
        simp only [RV] at hv
        obtain ⟨a, h3⟩ := hv
        exact ⟨_, _, _, h3⟩), h⟩
    · exact h.elim
  · exact h.elim

theorem opE_sound {P : Program} {c : CSt} {o : Oper} {k : Eff → Prop} (h : opE P c o k) : ∃ E, OpSem P o E c.tm ∧ Sat c.st E ∧ k E := by
  unfold opE at h
  split at h
  · rename_i x ho
    rw [evK_eq] at h
    exact ⟨_, os_move ho, sat_empty _ _, h⟩
  · rename_i x ho
    rw [evK_eq] at h
    exact ⟨_, os_assign ho, sat_empty _ _, h⟩
  · rename_i q x y ho
    rw [evK_eq] at h
    split at h
    · rename_i b hb
      rw [splitK_eq] at h
      have := os_pick (P := P) (ts := c.tm) ho hb
      cases b
      · simp only [evK_eq] at h
        exact ⟨_, by simpa using this, sat_empty _ _, h⟩
      · simp only [evK_eq] at h
        exact ⟨_, by simpa using this, sat_empty _ _, h⟩
    · exact h.elim
  · rename_i op t x y t' ho
    split at h
    · rename_i hn
      rw [evK_eq] at h
      obtain ⟨r, h1, h2⟩ := nilK_sound ho hn h
      exact ⟨_, h1, sat_empty _ _, h2⟩
    · rw [evK_eq, evK_eq] at h
      obtain ⟨r, h1, h2⟩ := binK_sound ho h
      exact ⟨_, h1, sat_empty _ _, h2⟩
  · rename_i op t x ho
    rw [evK_eq] at h
    split at h
    · rename_i u hu
      split at h
      · rename_i r hr
        exact ⟨_, os_un ho hu hr, sat_empty _ _, h⟩
      · exact h.elim
    · exact h.elim
  · rename_i src dst x ho
    rw [evK_eq] at h
    split at h
    · rename_i kk n d kd hx hs hd
      exact ⟨_, os_convInt ho hs hd hx, sat_empty _ _, h⟩
    · exact h.elim
  · rename_i t x ho
    split at h
    · rename_i d hd
      rw [evK_eq, lvK_eq] at h
      obtain ⟨h1, h⟩ := okK_iff h
      obtain ⟨n, hn, h⟩ := freshK_sound h
      exact ⟨_, os_box (d := n) ho rfl h1, ⟨by simp, by simp, (by simp; exact hn), by simp⟩, h⟩
    · exact h.elim
  · rename_i t ho
    split at h
    · rename_i d hd
      split at h
      · rename_i inf hi
        split at h
        · rename_i z hz
          rw [zlK_eq] at h
          obtain ⟨n, hn, h⟩ := freshK_sound h
          exact ⟨_, os_alloc (d := n) ho hi hz, ⟨by simp, by simp, (by simp; exact hn), by simp⟩, h⟩
        · exact h.elim
      · exact h.elim
    · exact h.elim
  · rename_i t parts ho
    split at h
    · rename_i z place hz hp
      rw [zlK_eq] at h
      obtain ⟨h1, h⟩ := okK_iff h
      rw [partsK_eq] at h
      obtain ⟨ls, h2, h⟩ := pfillK_sound h
      exact ⟨_, os_build ho hz hp h1 h2, sat_empty _ _, h⟩
    · exact h.elim
  · rename_i t len parts ho
    split at h
    · rename_i e hu
      split at h
      · rename_i inf hi
        split at h
        · rename_i hpl
          have ep : parts = #[] := by apply Array.ext'; simpa using hpl
          subst ep
          exact ⟨_, os_buildNil ho hu hi, sat_empty _ _, h⟩
        · split at h
          · rename_i z hz
            obtain ⟨h1, h⟩ := okK_iff h
            rw [zlK_eq] at h
            obtain ⟨h2, h⟩ := okK_iff h
            rw [repK_eq, partsK_eq] at h
            obtain ⟨ls, h3, h⟩ := pfillK_sound h
            obtain ⟨h4, h⟩ := okK_iff h
            simp only [Bool.and_eq_true, Nat.beq_eq, Nat.ble_eq] at h1
            have h4 : ls.length = _ := Nat.eq_of_beq_eq_true h4
            split at h
            · rename_i hpl
              rw [chunkK_eq] at h
              exact ⟨_, os_buildSlice ho hu hi hz h1.1.1 (by have := h1.1.2; simp [Nat.blt] at this; omega) (by have := h1.2; omega) h2 h3 h4 hpl, sat_empty _ _, h⟩
            · rw [chunkK_eq] at h
              exact ⟨_, os_buildSliceK ho hu hi hz h1.1.1 (by have := h1.1.2; simp [Nat.blt] at this; omega) (by have := h1.2; omega) h2 h3 h4, sat_empty _ _, h⟩
          · exact h.elim
      · exact h.elim
    · exact h.elim
  · rename_i t x ho
    rw [evK_eq] at h
    split at h
    · rename_i key off hx
      split at h
      · rename_i ls hk
        rw [dropK_eq] at h
        obtain ⟨d, inf, p, h1, h2, h3, h⟩ := ldK_sound h
        exact ⟨_, os_loadPt ho h1 h2 hx h3, ⟨by simp; exact hk, by simp, by simp, by simp⟩, h⟩
      · exact h.elim
    · rename_i sfx hx
      obtain ⟨d, inf, p, h1, h2, h3, h⟩ := ldK_sound h
      exact ⟨_, os_loadEp ho h1 h2 hx h3, sat_empty _ _, h⟩
    · rename_i sfx hx
      obtain ⟨d, inf, p, h1, h2, h3, h⟩ := ldK_sound h
      exact ⟨_, os_loadLp ho h1 h2 hx h3, sat_empty _ _, h⟩
    · rename_i key i off hx
      split at h
      · rename_i fz sz rows hk
        obtain ⟨row, hrow, h⟩ := h
        rw [dropK_eq] at h
        obtain ⟨d, inf, p, h1, h2, h3, h⟩ := ldK_sound h
        exact ⟨_, os_loadEo ho h1 h2 hx hrow h3, ⟨by simp, by simp; exact hk, by simp, by simp⟩, h⟩
      · exact h.elim
    · exact h.elim
  · rename_i t x y ho
    rw [evK_eq, evK_eq, lvK_eq] at h
    split at h
    · rename_i inf hi
      obtain ⟨h1, h⟩ := okK_iff h
      simp only [Bool.and_eq_true, Nat.beq_eq] at h1
      split at h
      · rename_i key off hx
        split at h
        · rename_i ls hk
          obtain ⟨h2, h⟩ := okK_iff h
          rw [spliceK_eq] at h
          exact ⟨_, os_storePt ho hi hx rfl h1.1 h1.2 (by simpa using h2), ⟨by simp; exact hk, by simp, by simp, by simp⟩, h⟩
        · exact h.elim
      · rename_i key i off hx
        split at h
        · rename_i sz rows hk
          obtain ⟨h2, row, hrow, h⟩ := okK_iff h
          simp only [Bool.and_eq_true, Nat.ble_eq] at h2
          rw [spliceK_eq] at h
          exact ⟨_, os_storeEo ho hi hx rfl h1.1 h1.2 hrow h2.1 h2.2, ⟨by simp, by simp; exact hk, by simp, by simp⟩, h⟩
        · exact h.elim
      · exact h.elim
    · exact h.elim
  · rename_i x ho
    rw [evK_eq] at h
    obtain ⟨q, h1, h⟩ := paddK_sound h
    exact ⟨_, os_nilCheck ho rfl h1, sat_empty _ _, h⟩
  · rename_i t x i ho
    rw [evK_eq] at h
    obtain ⟨fs, f, inf, h1, h2, h3, h4, h⟩ := fldK_sound h
    obtain ⟨q, h5, h⟩ := paddK_sound h
    exact ⟨_, os_fieldAddr ho h1 h2 h3 h4 rfl h5, sat_empty _ _, h⟩
  · rename_i t x y ho
    rw [evK_eq, evK_eq] at h
    split at h
    · rename_i kk n hy
      split at h
      · rename_i len e hu
        split at h
        · rename_i inf hi
          obtain ⟨⟨h1, h2⟩, h⟩ := h
          obtain ⟨q, h5, h⟩ := paddK_sound h
          exact ⟨_, os_indexArr ho hu hi rfl hy h1 h2 h5, sat_empty _ _, h⟩
        · exact h.elim
      · rename_i e hu
        split at h
        · rename_i inf hi
          split at h
          · rename_i sz rows hx
            obtain ⟨h1, h2, row, h3, h⟩ := okK_iff h
            exact ⟨_, os_indexSl ho hu hi (Nat.eq_of_beq_eq_true h1) hx hy h2 h3, sat_empty _ _, h⟩
          · rename_i sz rows hx
            obtain ⟨h1, h2, row, h3, h⟩ := okK_iff h
            exact ⟨_, os_indexLs ho hu hi (Nat.eq_of_beq_eq_true h1) hx hy h2 h3, sat_empty _ _, h⟩
          · rename_i key lo len hx
            split at h
            · rename_i fz sz rows hk
              obtain ⟨h1, ⟨h2, h3⟩, h⟩ := okK_iff h
              exact ⟨_, os_indexOw ho hu hi (Nat.eq_of_beq_eq_true h1) hx hy h2 h3, ⟨by simp, by simp; exact hk, by simp, by simp⟩, h⟩
            · exact h.elim
          · exact h.elim
        · exact h.elim
      · exact h.elim
    · exact h.elim
  · rename_i t x lo hi mx ho
    rw [evK_eq] at h
    split at h
    · rename_i e hu
      split at h
      · rename_i inf hin
        split at h
        · split at h
          · rename_i sz rows hx
            obtain ⟨h1, h⟩ := okK_iff h
            obtain ⟨l, h2, h⟩ := bndK_sound h
            obtain ⟨hh, h3, ⟨h4, h5, h6⟩, h⟩ := bndK_sound h
            exact ⟨_, os_sliceSl ho hu hin (Nat.eq_of_beq_eq_true h1) hx h2 h3 h4 h5 h6, sat_empty _ _, h⟩
          · rename_i key lo0 len hx
            split at h
            · rename_i fz sz rows hk
              obtain ⟨h1, h⟩ := okK_iff h
              obtain ⟨l, h2, h⟩ := bndK_sound h
              obtain ⟨hh, h3, ⟨h4, h5, h6⟩, h⟩ := bndK_sound h
              exact ⟨_, os_sliceOw ho hu hin (Nat.eq_of_beq_eq_true h1) hx h2 h3 h4 h5 h6, ⟨by simp, by simp; exact hk, by simp, by simp⟩, h⟩
            · exact h.elim
          · rename_i hx
            obtain ⟨l, h2, h⟩ := bndK_sound h
            obtain ⟨hh, h3, ⟨rfl, rfl⟩, g⟩ := bndK_sound h
            exact ⟨_, os_sliceNl ho hu hin hx h2 h3, sat_empty _ _, g⟩
          · exact h.elim
        · rename_i z
          split at h
          · rename_i y
            rw [evK_eq, evK_eq] at h
            split at h
            · rename_i hy hz
              split at h
              · rename_i hx
                exact ⟨_, os_slice00 ho hu hin hx (.inl rfl) hy hz, sat_empty _ _, h⟩
              · rename_i hx
                exact ⟨_, os_slice00 ho hu hin hx (.inr (.inl ⟨_, _, rfl⟩)) hy hz, sat_empty _ _, h⟩
              · rename_i hx
                exact ⟨_, os_slice00 ho hu hin hx (.inr (.inr ⟨_, _, _, rfl⟩)) hy hz, sat_empty _ _, h⟩
              · exact h.elim
            · exact h.elim
          · exact h.elim
      · exact h.elim
    · rename_i hu
      split at h
      · rename_i b hx
        obtain ⟨l, h2, h⟩ := bndK_sound h
        obtain ⟨hh, h3, ⟨h4, h5, h6⟩, h⟩ := bndK_sound h
        exact ⟨_, os_sliceStr ho hu hx h2 h3 h4 h5 h6, sat_empty _ _, h⟩
      · exact h.elim
    · exact h.elim
  · rename_i x i ho
    rw [evK_eq] at h
    split at h
    · rename_i ps hx
      split at h
      · rename_i q hq
        exact ⟨_, os_extract ho hx hq, sat_empty _ _, h⟩
      · exact h.elim
    · exact h.elim
  · rename_i t x y ho
    rw [evK_eq, evK_eq] at h
    split at h
    · rename_i kk n hy
      split at h
      · rename_i len e hu
        split at h
        · rename_i inf hi
          split at h
          · rename_i ps hx
            obtain ⟨⟨h1, h2⟩, h⟩ := h
            rw [dropK_eq] at h
            obtain ⟨d, inf', p, h3, h4, h5, h⟩ := ldK_sound h
            rw [hi] at h4; cases h4
            exact ⟨_, os_index ho hu h3 hi hx hy h1 h2 h5, sat_empty _ _, h⟩
          · exact h.elim
        · exact h.elim
      · rename_i hu
        split at h
        · rename_i s hx
          obtain ⟨h1, b, h2, h⟩ := h
          exact ⟨_, os_indexStr ho hu hx hy h1 h2, sat_empty _ _, h⟩
        · exact h.elim
      · exact h.elim
    · exact h.elim
  · rename_i t x i ho
    rw [evK_eq] at h
    split at h
    · rename_i ps hx
      split at h
      · rename_i fs hu
        split at h
        · rename_i a ty off b c' d e hf
          rw [dropK_eq] at h
          obtain ⟨d, inf', p, h3, h4, h5, h⟩ := ldK_sound h
          exact ⟨_, os_field ho hu (by simpa using hf) h3 h4 hx h5, sat_empty _ _, h⟩
        · exact h.elim
      · exact h.elim
    · exact h.elim
  · rename_i f fst caps ho
    split at h
    · rename_i hf
      have ef : fst = #[] := by apply Array.ext'; simpa using hf
      subst ef
      rw [evLK_eq] at h
      exact ⟨_, os_makeFunc ho, sat_empty _ _, h⟩
    · exact h.elim
  · rename_i f args tys ho
    rw [evK_eq] at h
    split at h
    · rename_i g caps hf
      rw [evLK_eq, appK_eq] at h
      exact callK_sound ho (by simp [callee, hf]) h
    · exact h.elim
  · rename_i b args tys ho
    exact builtinK_sound ho h
  · exact h.elim

end Go.Pv
