/-
  Compound values, slices of slices, equality of structs, append. Generic over the program.
-/
import Derived.Test.YtnphfgphajejaaaPvD
import Derived.Laws.Tables
import Derived.Laws.StructEq
namespace Go.Pv

/-! ### Composite literals -/

def pfill (place : Nat → Option (Nat × Nat)) (ls : List PV) : List (Nat × PV) → Option (List PV)
  | [] => some ls
  | (i, p) :: rest =>
    match place i with
    | none => none
    | some (off, size) => if (leaves p).all leaf1 && (leaves p).length == size && off + size ≤ ls.length then pfill place (splice ls off (leaves p)) rest else none

theorem fold_set (off : Nat) : ∀ (vs : List Value) (j : Nat) (cells : Array Value), off + j + vs.length ≤ cells.size →
    ((vs.zipIdx j).foldl (fun (cs : Array Value) (x : Value × Nat) => cs.setIfInBounds (off + x.2) x.1) cells).toList = cells.toList.take (off + j) ++ vs ++ cells.toList.drop (off + j + vs.length)
  | [], j, cells, _ => by simp
  | v :: vs, j, cells, h => by
    simp only [List.length_cons] at h
    simp only [List.zipIdx_cons, List.foldl_cons]
    rw [fold_set off vs (j + 1) _ (by simp; omega)]
    have e := list_seg_step cells.toList (off + j) v vs (by simp; omega)
    simpa [Array.toList_setIfInBounds, Nat.add_assoc, Nat.add_comm 1] using e

theorem pfill_sound {M : Mem} {w : World} {place : Nat → Option (Nat × Nat)} : ∀ {parts : List (Nat × PV)} {rparts : List (Nat × Value)} {ls : List PV} {cs : Array Value} {ls' : List PV},
    pfill place ls parts = some ls' → RVL M w ls cs.toList → rparts.map (·.1) = parts.map (·.1) → RVL M w (parts.map (·.2)) (rparts.map (·.2)) → ls.all leaf1 = true →
    (∀ p ∈ parts, (leaves p.2).all leaf1 = true → ∀ v, RV M w p.2 v → RVL M w (leaves p.2) v.cells.toList) →
    ∃ cs', Instr.fill place cs rparts = some cs' ∧ RVL M w ls' cs'.toList
  | [], rparts, ls, cs, ls', h, hl, h1, h2, _, _ => by
    simp only [pfill] at h; cases h
    have : rparts = [] := by cases rparts <;> simp_all
    subst this
    exact ⟨cs, rfl, hl⟩
  | (i, p) :: rest, rparts, ls, cs, ls', h, hl, h1, h2, ha, hlv => by
    cases rparts with
    | nil => simp at h1
    | cons rp rr =>
      obtain ⟨i', v⟩ := rp
      simp only [List.map_cons, List.cons.injEq] at h1
      obtain ⟨rfl, h1⟩ := h1
      simp only [List.map_cons, RVL] at h2
      obtain ⟨c, r, hcr, hv, h2⟩ := h2
      simp only [List.cons.injEq] at hcr
      obtain ⟨rfl, rfl⟩ := hcr
      simp only [pfill] at h
      cases hp : place i' with
      | none => simp [hp] at h
      | some os =>
        obtain ⟨off, size⟩ := os
        simp only [hp] at h
        split at h
        · rename_i hc
          simp only [Bool.and_eq_true, beq_iff_eq, decide_eq_true_eq] at hc
          obtain ⟨⟨c1, c2⟩, c3⟩ := hc
          have hlv' := leaves_sound c1 hv
          have hlen : v.cells.size = size := by have := hlv'.length; simp at this; omega
          have hcsz : cs.size = ls.length := by have := hl.length; simpa using this
          have hfold := fold_set off v.cells.toList 0 cs (by simp; omega)
          have hR := RVL.splice off hl hlv'
          simp only [Nat.add_zero] at hfold
          rw [← hfold] at hR
          have hall : (splice ls off (leaves p)).all leaf1 = true := by
            unfold splice
            rw [List.all_append, List.all_append]
            simp only [Bool.and_eq_true]
            refine ⟨⟨?_, c1⟩, ?_⟩
            · rw [List.all_eq_true] at ha ⊢; exact fun x hx => ha x (List.mem_of_mem_take hx)
            · rw [List.all_eq_true] at ha ⊢; exact fun x hx => ha x (List.mem_of_mem_drop hx)
          obtain ⟨cs', h3, h4⟩ := pfill_sound (rparts := rr) h hR h1 h2 hall (fun q hq => hlv q (by simp [hq]))
          refine ⟨cs', ?_, h4⟩
          simp only [Instr.fill, hp]
          rw [if_neg (by simp; omega)]
          rw [← h3]
          congr 1
          rw [← Array.foldl_toList, Array.toList_zipIdx]
        · cases h

def placesOf (P : Program) (t : TypeId) : Option (Nat → Option (Nat × Nat)) :=
  match P.underlying t with
  | some (.array _ e) => match P.info? e with
    | some ie => some fun i => some (i * ie.size, ie.size)
    | none => none
  | some (.struct fields) => match fields.toList.mapM (fun f => (P.info? f.type).map fun i => (f.offset, i.size)) with
    | some places => some fun i => places.toArray[i]?
    | none => none
  | _ => none

def zeroT (P : Program) (t : TypeId) : Option Value := match P.info? t with | some i => i.zero | none => none

theorem zleaf1 (v : Value) (h : v.oneCell' = true) : leaf1 (zleaf v) = true := by
  unfold zleaf
  split
  · rfl
  · exact h

theorem map_eval {w0 : World} {X : Nat → Prop} {S0 : Base} {M : Mem} {s : St} {a : Act} {w : World} (hr : Rel w0 X S0 M s a w) (ts : List PV) : ∀ xs : List Operand, (∀ x ∈ xs, aev s.tmps x = aev ts x) → RVL M w (xs.map (aev ts)) (xs.map a.eval)
  | [], _ => by simp [RVL]
  | x :: xs, h => by
    simp only [List.map_cons, RVL]
    refine ⟨_, _, rfl, ?_, map_eval hr ts xs fun y hy => h y (by simp [hy])⟩
    rw [← h x (by simp)]
    exact hr.eval x

theorem os_build {P : Program} {o : Oper} {ts : List PV} {t : TypeId} {parts : Array (Nat × Operand)} {z : Value} {place : Nat → Option (Nat × Nat)} {ls : List PV} (ho : o.op = .build t parts) (hz : zeroT P t = some z) (hp : placesOf P t = some place)
    (hz1 : (z.cells.toList.map zleaf).all leaf1 = true) (hf : pfill place (z.cells.toList.map zleaf) (parts.toList.map fun p => (p.1, aev ts p.2)) = some ls) : OpSem P o (vE (.ag ls)) ts :=
  os_read rfl rfl fun w0 X S0 M s a w hr hl _ => by
    rw [ho] at hl
    have hmap := map_eval hr ts (parts.toList.map (·.2)) (fun x hx => hl x (by simpa [Op.operands] using hx))
    obtain ⟨cs', h1, h2⟩ := pfill_sound (M := M) (w := w) (rparts := parts.toList.map fun p => (p.1, a.eval p.2)) (cs := z.cells) hf (zleaves_sound _) (by simp) (by simp only [List.map_map] at hmap ⊢; exact hmap) hz1 (fun p _ hp v hv => leaves_sound hp hv)
    refine ⟨.agg cs', ?_, by simp only [vE, RV]; exact ⟨cs', rfl, h2⟩⟩
    have hbuilt : P.built t (parts.toList.map fun p => (p.1, a.eval p.2)) = some cs' := by
      unfold Program.built
      unfold zeroT at hz
      unfold placesOf at hp
      cases hit : P.info? t with
      | none => simp [hit] at hz
      | some it =>
        simp only [hit] at hz
        cases hu : P.underlying t with
        | none => simp [hu] at hp
        | some d =>
          cases d <;> try (simp [hu] at hp; done)
          case array n e =>
            simp only [hu] at hp
            cases hie : P.info? e with
            | none => simp [hie] at hp
            | some ie => simp only [hie] at hp; cases hp; simp only [hz, hie]; exact h1
          case struct fields =>
            simp only [hu] at hp
            cases hm : fields.toList.mapM (fun f => (P.info? f.type).map fun i => (f.offset, i.size)) with
            | none => simp [hm] at hp
            | some places => simp only [hm] at hp; cases hp; simp only [hz, hm]; exact h1
    have := run_build (P := P) w t (parts.map fun p => (p.1, a.eval p.2)) cs' (by simpa using hbuilt)
    simp only [execOp, ho, Sem.run_bind]
    simp [this]

/-- The rows of a flat list. -/
def chunk (sz : Nat) : Nat → List PV → List (List PV)
  | 0, _ => []
  | n + 1, ls => ls.take sz :: chunk sz n (ls.drop sz)

theorem chunk_sound {M : Mem} {w : World} {sz : Nat} : ∀ (n : Nat) {ls : List PV} {cs : List Value}, RVL M w ls cs → n * sz ≤ ls.length → RVR M w sz (chunk sz n ls) cs
  | 0, ls, cs, _, _ => by simp [chunk, RVR]
  | n + 1, ls, cs, h, hl => by
    simp only [Nat.add_mul, Nat.one_mul] at hl
    simp only [chunk, RVR]
    refine ⟨cs.take sz, cs.drop sz, (List.take_append_drop _ _).symm, by simp; omega, h.take sz, chunk_sound n (h.drop sz) (by simp; omega)⟩

theorem chunk_length (sz : Nat) : ∀ (n : Nat) (ls : List PV), (chunk sz n ls).length = n
  | 0, _ => rfl
  | n + 1, ls => by simp [chunk, chunk_length sz n]

theorem os_buildSliceG {P : Program} {o : Oper} {ts : List PV} {t e : TypeId} {len : Nat} {parts : Array (Nat × Operand)} {inf : TypeInfo} {z : Value} {ls : List PV} (ho : o.op = .buildSlice t len parts) (ht : P.underlying t = some (.slice e)) (hi : P.info? e = some inf) (hz : inf.zero = some z)
    (hzs : z.cells.size = inf.size) (hpos : 0 < len * inf.size) (hsm : len * inf.size ≤ 2 ^ 24) (hz1 : (z.cells.toList.map zleaf).all leaf1 = true)
    (hf : pfill (fun i => some (i * inf.size, inf.size)) (List.replicate len (z.cells.toList.map zleaf)).flatten (parts.toList.map fun p => (p.1, aev ts p.2)) = some ls) (hlen : ls.length = len * inf.size) {q : PV} (hq : ∀ (M : Mem) (w : World) (b : Nat) (cs : List Value), M.st b → Cells w b 0 cs → RVL M w ls cs → RV M w q (.slice (some ⟨b, 0, none⟩) len len)) : OpSem P o (vE q) ts := by
  intro w0 X S0 M s a w Q K hr hl hs hk
  rw [ho] at hl
  have hmap := map_eval hr ts (parts.toList.map (·.2)) (fun x hx => hl x (by simpa [Op.operands] using hx))
  have hrep : ∀ n, RVL M w (List.replicate n (z.cells.toList.map zleaf)).flatten (List.replicate n z.cells.toList).flatten := by
    intro n
    induction n with
    | zero => simp [RVL]
    | succ n ih => simp only [List.replicate_succ, List.flatten_cons]; exact (zleaves_sound _).append ih
  have hall : ∀ n, (List.replicate n (z.cells.toList.map zleaf)).flatten.all leaf1 = true := by
    intro n
    induction n with
    | zero => rfl
    | succ n ih => simp only [List.replicate_succ, List.flatten_cons, List.all_append, hz1, ih, Bool.and_true]
  have hzz : (Array.range (len * inf.size)).map (z.cells[· % z.cells.size]!) = ((List.replicate len z.cells.toList).flatten).toArray := by
    rw [hzs]
    have hsz : 0 < inf.size := Nat.pos_of_mul_pos_left hpos
    apply Array.ext'
    simp only [Array.toList_map, Array.toList_range]
    apply List.ext_getElem?
    intro i
    clear hf hpos hsm hlen hall hrep ho
    rw [List.getElem?_map]
    have key : ∀ (n i : Nat), ((List.replicate n z.cells.toList).flatten)[i]? = if i < n * inf.size then z.cells.toList[i % inf.size]? else none := by
      intro n
      induction n with
      | zero => intro i; simp
      | succ n ih =>
        intro i
        simp only [List.replicate_succ, List.flatten_cons]
        rw [List.getElem?_append]
        have hl2 : z.cells.toList.length = inf.size := by simpa using hzs
        by_cases h : i < inf.size
        · rw [if_pos (by omega), if_pos (by rw [Nat.add_mul]; omega), Nat.mod_eq_of_lt h]
        · rw [if_neg (by omega), ih, hl2]
          have e1 : (i - inf.size) % inf.size = i % inf.size := by
            conv => rhs; rw [show i = (i - inf.size) + inf.size by omega, Nat.add_mod_right]
          rw [e1]
          by_cases h2 : i - inf.size < n * inf.size
          · rw [if_pos h2, if_pos (by rw [Nat.add_mul]; omega)]
          · rw [if_neg h2, if_neg (by rw [Nat.add_mul]; omega)]
    rw [key]
    by_cases h : i < len * inf.size
    · have hm : i % inf.size < z.cells.size := by rw [hzs]; exact Nat.mod_lt _ hsz
      rw [if_pos h, List.getElem?_range h]
      simp [hm]
    · rw [if_neg h, List.getElem?_eq_none (by simp; omega)]
      rfl
  obtain ⟨cs', h1, h2⟩ := pfill_sound (M := M) (w := w) (rparts := parts.toList.map fun p => (p.1, a.eval p.2)) (cs := ((List.replicate len z.cells.toList).flatten).toArray) hf (by simpa using hrep len) (by simp) (by simp only [List.map_map] at hmap ⊢; exact hmap) (hall len) (fun p _ hp v hv => leaves_sound hp hv)
  obtain ⟨M', hnew, hle, hst⟩ := hr.toHRel.allocSt (.cells cs' e)
  unfold Oper.wp
  have hne : ¬ (len * inf.size = 0) := by omega
  have hno : ¬ (len * inf.size > 2 ^ 24) := by omega
  have hno' : ¬ (16777216 < len * inf.size) := by simpa using hno
  have hex : (execOp a.eval o).run P w = .ok (.value (.slice (some ⟨w.heap.size, 0, none⟩) len len)) (w.alloc (.cells cs' e)) := by
    have hzz' : Array.map (fun x => z.cells[x % z.cells.size]!) (Array.range (len * inf.size)) = ((List.replicate len z.cells.toList).flatten).toArray := hzz
    simp [execOp, ho, Instr.buildSlice, run_underlying ht, sizeOf, typeInfo, hi, hz, zeroValue, hno', newRow, newObj]
    rw [hzz', h1]
    simp [Sem.run]
    exact fun e => absurd e hne
  rw [hex, Oper.upon_value]
  refine hk M' _ _ ?_
  have hr' : Rel w0 X S0 M' s a (w.alloc (.cells cs' e)) := ⟨hnew, hr.dfr, hr.len, fun t => RV.mono hle _ _ (hr.tmp t)⟩
  have := rel_put hr' o.dst (p := q) (v := .slice (some ⟨w.heap.size, 0, none⟩) len len) (hq M' _ w.heap.size cs'.toList hst (Cells.of_block (heap_alloc_eq w _)) (RVL.mono hle _ _ h2))
  simpa [St.apply, upd_nil, vE] using this

theorem os_buildSlice {P : Program} {o : Oper} {ts : List PV} {t e : TypeId} {len : Nat} {parts : Array (Nat × Operand)} {inf : TypeInfo} {z : Value} {ls : List PV} (ho : o.op = .buildSlice t len parts) (ht : P.underlying t = some (.slice e)) (hi : P.info? e = some inf) (hz : inf.zero = some z)
    (hzs : z.cells.size = inf.size) (hpos : 0 < len * inf.size) (hsm : len * inf.size ≤ 2 ^ 24) (hz1 : (z.cells.toList.map zleaf).all leaf1 = true)
    (hf : pfill (fun i => some (i * inf.size, inf.size)) (List.replicate len (z.cells.toList.map zleaf)).flatten (parts.toList.map fun p => (p.1, aev ts p.2)) = some ls) (hlen : ls.length = len * inf.size) (hpl : plainL ls = true) : OpSem P o (vE (.sl inf.size (chunk inf.size len ls))) ts :=
  os_buildSliceG ho ht hi hz hzs hpos hsm hz1 hf hlen fun M w b cs hb hc hl => by
    simp only [RV]
    exact ⟨_, len, len, rfl, by rw [chunk_length], Nat.le_refl _, .inr ⟨b, 0, cs, rfl, hb, hc, chunk_sound len (RVL.toCl _ _ hpl hl) (by omega)⟩⟩

theorem os_buildSliceK {P : Program} {o : Oper} {ts : List PV} {t e : TypeId} {len : Nat} {parts : Array (Nat × Operand)} {inf : TypeInfo} {z : Value} {ls : List PV} (ho : o.op = .buildSlice t len parts) (ht : P.underlying t = some (.slice e)) (hi : P.info? e = some inf) (hz : inf.zero = some z)
    (hzs : z.cells.size = inf.size) (hpos : 0 < len * inf.size) (hsm : len * inf.size ≤ 2 ^ 24) (hz1 : (z.cells.toList.map zleaf).all leaf1 = true)
    (hf : pfill (fun i => some (i * inf.size, inf.size)) (List.replicate len (z.cells.toList.map zleaf)).flatten (parts.toList.map fun p => (p.1, aev ts p.2)) = some ls) (hlen : ls.length = len * inf.size) : OpSem P o (vE (.ls inf.size (chunk inf.size len ls))) ts :=
  os_buildSliceG ho ht hi hz hzs hpos hsm hz1 hf hlen fun M w b cs hb hc hl => by
    simp only [RV]
    exact ⟨b, cs, by rw [chunk_length], hb, hc, chunk_sound len hl (by omega)⟩

theorem os_indexLs {P : Program} {o : Oper} {ts : List PV} {t elem : TypeId} {x y : Operand} {inf : TypeInfo} {sz : Nat} {rows : List (List PV)} {k : IntKind} {n : Int} {row : List PV} (ho : o.op = .indexAddr t x y) (ht : P.underlying t = some (.slice elem))
    (hi : P.info? elem = some inf) (hsz : inf.size = sz) (hx : aev ts x = .ls sz rows) (hy : aev ts y = .sc (.int k n)) (h0 : 0 ≤ n) (hrow : rows[n.toNat]? = some row) : OpSem P o (vE (.lp row)) ts :=
  os_read rfl rfl fun w0 X S0 M s a w hr hl _ => by
    rw [ho] at hl
    have h2 := ev_of hr hl (x := x) (by simp [Op.operands]) hx
    have h3 := ev_of hr hl (x := y) (by simp [Op.operands]) hy
    simp only [RV] at h2 h3
    obtain ⟨b, cs, hv, hst, hc, hR⟩ := h2
    have hlt : n.toNat < rows.length := (List.getElem?_eq_some_iff.1 hrow).1
    obtain ⟨r1, r2, r3⟩ := hR.row n.toNat hrow
    refine ⟨.pointer (some ⟨b, 0 + n.toNat * sz, none⟩), ?_, ?_⟩
    · have hn : n < rows.length := by omega
      simp [execOp, ho, hv, h3, Instr.indexAt, run_underlying ht, asIntOf, Instr.sureAddr, sizeOf, typeInfo, hi, h0, hn, Addr.add_lit, hsz]
    · simp only [vE, RV]
      exact ⟨b, 0 + n.toNat * sz, _, rfl, hst, (hc.drop (n.toNat * sz)).take sz, r2⟩

theorem os_loadLp {P : Program} {o : Oper} {ts : List PV} {t : TypeId} {d : TypeDesc} {inf : TypeInfo} {x : Operand} {sfx : List PV} {p : PV} (ho : o.op = .load t x) (ht : P.underlying t = some d) (hi : P.info? t = some inf) (hx : aev ts x = .lp sfx) (hp : leafVal (isAggD d) inf.size sfx = some p) : OpSem P o (vE p) ts :=
  os_read rfl rfl fun w0 X S0 M s a w hr hl _ => by
    rw [ho] at hl
    have h2 := ev_of hr hl (x := x) (by simp [Op.operands]) hx
    simp only [RV] at h2
    obtain ⟨b, off, cs, hv, hst, hc, hR⟩ := h2
    obtain ⟨v, h3, h4⟩ := load_sound (P := P) ht hi hc hR hp
    refine ⟨v, ?_, h4⟩
    simp [execOp, ho, hv, Instr.loadAt, Instr.sureAddr, h3]

theorem os_lenLs {P : Program} {o : Oper} {ts : List PV} {x : Operand} {t e : TypeId} {sz : Nat} {rows : List (List PV)} (ho : o.op = .call { callee := .builtin .len, args := #[x], argTypes := #[t] }) (ht : P.underlying t = some (.slice e)) (hx : aev ts x = .ls sz rows) : OpSem P o (vE (.sc (.int .i64 rows.length))) ts :=
  os_read rfl rfl fun w0 X S0 M s a w hr hl _ => by
    rw [ho] at hl
    have h1 := ev_of hr hl (x := x) (by simp [Op.operands, Call.operands]) hx
    simp only [RV] at h1
    obtain ⟨b, cs, hv, _⟩ := h1
    exact ⟨.int .i64 rows.length, by simp [execOp, ho, resolve, invoke, builtin, Builtin.len_, run_underlying ht, hv, goInt], by simp [vE, RV]⟩

theorem os_buildNil {P : Program} {o : Oper} {ts : List PV} {t e : TypeId} {inf : TypeInfo} (ho : o.op = .buildSlice t 0 #[]) (ht : P.underlying t = some (.slice e)) (hi : P.info? e = some inf) : OpSem P o (vE .nl) ts := by
  intro w0 X S0 M s a w Q K hr hl hs hk
  obtain ⟨M', hnew, hle, hst⟩ := hr.toHRel.allocSt (.cells #[] e)
  unfold Oper.wp
  have hex : (execOp a.eval o).run P w = .ok (.value (.slice (some ⟨w.heap.size, 0, none⟩) 0 0)) (w.alloc (.cells #[] e)) := by
    simp [execOp, ho, Instr.buildSlice, run_underlying ht, sizeOf, typeInfo, hi, newRow, newObj, Sem.run, Instr.fill]
    congr 2
    apply Array.ext'
    simp
  rw [hex, Oper.upon_value]
  refine hk M' _ _ ?_
  have hr' : Rel w0 X S0 M' s a (w.alloc (.cells #[] e)) := ⟨hnew, hr.dfr, hr.len, fun t => RV.mono hle _ _ (hr.tmp t)⟩
  have := rel_put hr' o.dst (p := .nl) (v := .slice (some ⟨w.heap.size, 0, none⟩) 0 0) (by simp only [RV]; exact ⟨_, rfl⟩)
  simpa [St.apply, upd_nil, vE] using this

end Go.Pv
