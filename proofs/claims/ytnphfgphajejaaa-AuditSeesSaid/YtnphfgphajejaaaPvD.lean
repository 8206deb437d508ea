/-
  Operations on memory and on compound values. Generic over the program.
-/
import Derived.Test.YtnphfgphajejaaaPvC
import Derived.Test.YtnphfgphajejaaaPvH
import Derived.Laws.CopyRow
namespace Go.Pv

/-! ### Addresses -/

def padd : PV → Nat → Option PV
  | .pt k off, n => some (.pt k (off + n))
  | .ep sfx, n => some (.ep (sfx.drop n))
  | .eo k i off, n => some (.eo k i (off + n))
  | _, _ => none

theorem padd_sound {M : Mem} {w : World} {p q : PV} {n : Nat} {v : Value} (h : padd p n = some q) (hv : RV M w p v) : ∃ b off, v = .pointer (some ⟨b, off, none⟩) ∧ RV M w q (.pointer (some ⟨b, off + n, none⟩)) := by
  unfold padd at h
  split at h
  · cases h
    simp only [RV] at hv
    obtain ⟨b, hb, rfl⟩ := hv
    exact ⟨b, _, rfl, by simp only [RV]; exact ⟨b, hb, rfl⟩⟩
  · cases h
    simp only [RV] at hv
    obtain ⟨b, off, cs, rfl, hs, hc, hl⟩ := hv
    refine ⟨b, off, rfl, ?_⟩
    simp only [RV]
    exact ⟨b, off + n, cs.drop n, rfl, hs, hc.drop n, hl.drop n⟩
  · cases h
    simp only [RV] at hv
    obtain ⟨L, hL, hn, rfl⟩ := hv
    refine ⟨L.b, _, rfl, ?_⟩
    simp only [RV]
    exact ⟨L, hL, hn, by rw [Nat.add_assoc]⟩
  · cases h

theorem os_fieldAddr {P : Program} {o : Oper} {ts : List PV} {t : TypeId} {x : Operand} {i : Nat} {fs : Array Field} {f : Field} {inf : TypeInfo} {p q : PV} (ho : o.op = .fieldAddr t x i) (ht : P.underlying t = some (.struct fs)) (hf : fs[i]? = some f)
    (hi : P.info? f.type = some inf) (hz : inf.size ≠ 0) (hx : aev ts x = p) (hq : padd p f.offset = some q) : OpSem P o (vE q) ts :=
  os_read rfl rfl fun w0 X S0 M s a w hr hl _ => by
    rw [ho] at hl
    have h1 := ev_of hr hl (x := x) (by simp [Op.operands]) hx
    obtain ⟨b, off, hv, hq'⟩ := padd_sound hq h1
    refine ⟨.pointer (some ⟨b, off + f.offset, none⟩), ?_, hq'⟩
    simp [execOp, ho, hv, Instr.fieldAt, run_underlying ht, hf, Instr.sureAddr, fieldPlace, sizeOf, typeInfo, hi, hz, Addr.add_lit]

/-- The cells from a pointer on. -/
theorem os_indexArr {P : Program} {o : Oper} {ts : List PV} {t elem : TypeId} {x y : Operand} {len : Nat} {inf : TypeInfo} {p q : PV} {k : IntKind} {n : Int} (ho : o.op = .indexAddr t x y) (ht : P.underlying t = some (.array len elem))
    (hi : P.info? elem = some inf) (hx : aev ts x = p) (hy : aev ts y = .sc (.int k n)) (h0 : 0 ≤ n) (h1 : n < len) (hq : padd p (n.toNat * inf.size) = some q) : OpSem P o (vE q) ts :=
  os_read rfl rfl fun w0 X S0 M s a w hr hl _ => by
    rw [ho] at hl
    have h2 := ev_of hr hl (x := x) (by simp [Op.operands]) hx
    have h3 := ev_of hr hl (x := y) (by simp [Op.operands]) hy
    simp only [RV] at h3
    obtain ⟨b, off, hv, hq'⟩ := padd_sound hq h2
    refine ⟨.pointer (some ⟨b, off + n.toNat * inf.size, none⟩), ?_, hq'⟩
    simp [execOp, ho, hv, h3, Instr.indexAt, run_underlying ht, asIntOf, Instr.sureAddr, sizeOf, typeInfo, hi, h0, h1, Addr.add_lit]

theorem os_indexSl {P : Program} {o : Oper} {ts : List PV} {t elem : TypeId} {x y : Operand} {inf : TypeInfo} {sz : Nat} {rows : List (List PV)} {k : IntKind} {n : Int} {row : List PV} (ho : o.op = .indexAddr t x y) (ht : P.underlying t = some (.slice elem))
    (hi : P.info? elem = some inf) (hsz : inf.size = sz) (hx : aev ts x = .sl sz rows) (hy : aev ts y = .sc (.int k n)) (h0 : 0 ≤ n) (hrow : rows[n.toNat]? = some row) : OpSem P o (vE (.ep row)) ts :=
  os_read rfl rfl fun w0 X S0 M s a w hr hl _ => by
    rw [ho] at hl
    have h2 := ev_of hr hl (x := x) (by simp [Op.operands]) hx
    have h3 := ev_of hr hl (x := y) (by simp [Op.operands]) hy
    simp only [RV] at h3 h2
    obtain ⟨ad, m, c, hv, hm, hc, hcase⟩ := h2
    have hlt : n.toNat < rows.length := (List.getElem?_eq_some_iff.1 hrow).1
    rcases hcase with rfl | ⟨b, off, cs, rfl, hst, hcl, hR⟩
    · simp at hlt
    · obtain ⟨r1, r2, r3⟩ := hR.row _ hrow
      refine ⟨.pointer (some ⟨b, off + n.toNat * sz, none⟩), ?_, ?_⟩
      · have : n < (rows.length : Int) := by omega
        simp [execOp, ho, hv, h3, Instr.indexAt, run_underlying ht, asIntOf, sizeOf, typeInfo, hi, h0, hm, this, Addr.add_lit, hsz]
      · simp only [vE, RV]
        exact ⟨b, _, _, rfl, hst, (hcl.drop _).take _, r2⟩

theorem os_indexOw {P : Program} {o : Oper} {ts : List PV} {t elem : TypeId} {x y : Operand} {inf : TypeInfo} {ky lo len : Nat} {k : IntKind} {n : Int} {fz : Bool} {sz : Nat} {rows : List (List PV)} (ho : o.op = .indexAddr t x y) (ht : P.underlying t = some (.slice elem))
    (hi : P.info? elem = some inf) (hsz : inf.size = sz) (hx : aev ts x = .ow ky lo len) (hy : aev ts y = .sc (.int k n)) (h0 : 0 ≤ n) (h1 : n < len) : OpSem P o ⟨.eo ky (lo + n.toNat) 0, [], [(ky, fz, sz, rows)], [], [], [], []⟩ ts :=
  os_read rfl rfl fun w0 X S0 M s a w hr hl hs => by
    rw [ho] at hl
    have h2 := ev_of hr hl (x := x) (by simp [Op.operands]) hx
    have h3 := ev_of hr hl (x := y) (by simp [Op.operands]) hy
    simp only [RV] at h3 h2
    obtain ⟨L, hL, hcase⟩ := h2
    have hob := hs.2.1 (ky, fz, sz, rows) (by simp)
    obtain ⟨hLs, _⟩ := hr.toHRel.obj' hob hL
    rcases hcase with ⟨_, rfl, _⟩ | ⟨hn, hle, ad, hv, had⟩
    · simp at h1; omega
    · have hlt : lo < L.cap := by omega
      refine ⟨.pointer (some ⟨L.b, lo * L.sz + n.toNat * sz, none⟩), ?_, ?_⟩
      · simp [execOp, ho, hv, h3, Instr.indexAt, run_underlying ht, asIntOf, sizeOf, typeInfo, hi, h0, h1, had hlt, Addr.add_lit, hsz]
      · simp only [RV]
        exact ⟨L, hL, hn, by rw [hLs, Nat.add_mul]; rfl⟩

/-! ### Load -/

def isAggD : TypeDesc → Bool
  | .struct _ => true
  | .array .. => true
  | _ => false

def leafVal (agg : Bool) (n : Nat) (sfx : List PV) : Option PV :=
  if agg then (if n ≤ sfx.length then some (.ag (sfx.take n)) else none) else sfx.head?

theorem run_isAgg {P : Program} {w : World} {t : TypeId} {d : TypeDesc} (h : P.underlying t = some d) : (isAgg t).run P w = .ok (isAggD d) w := by
  simp only [isAgg, Sem.run_bind, run_underlying h, Result.andThen_ok]
  cases d <;> simp [isAggD]

theorem load_sound {P : Program} {M : Mem} {w : World} {t : TypeId} {d : TypeDesc} {inf : TypeInfo} {b off : Nat} {cs : List Value} {sfx : List PV} {p : PV} (ht : P.underlying t = some d) (hi : P.info? t = some inf) (hc : Cells w b off cs) (hl : RVL M w sfx cs)
    (hp : leafVal (isAggD d) inf.size sfx = some p) : ∃ v, (loadVar t ⟨b, off, none⟩).run P w = .ok v w ∧ RV M w p v := by
  unfold leafVal at hp
  cases hd : isAggD d with
  | true =>
    rw [hd] at hp
    simp only [if_true] at hp
    split at hp
    · rename_i hle
      cases hp
      refine ⟨.agg (cs.take inf.size).toArray, ?_, ?_⟩
      · have hlen : (cs.take inf.size).length = inf.size := by rw [List.length_take, hl.length]; omega
        have hrun := run_loadCells_list (P := P) w ⟨b, off, none⟩ (cs.take inf.size) (fun j v hj => by rw [Addr.add_lit]; exact hc.take _ j v hj)
        rw [hlen] at hrun
        simp [loadVar, run_isAgg ht, hd, sizeOf, typeInfo, hi, hrun]
      · simp only [RV]
        exact ⟨_, rfl, by simpa using hl.take inf.size⟩
    · cases hp
  | false =>
    rw [hd] at hp
    simp only [Bool.false_eq_true, if_false] at hp
    cases sfx with
    | nil => simp at hp
    | cons q rest =>
      simp at hp; subst hp
      simp only [RVL] at hl
      obtain ⟨c, r, rfl, h1, _⟩ := hl
      refine ⟨c, ?_, h1⟩
      have := hc 0 c (by simp)
      simp only [Nat.add_zero] at this
      simp only [loadVar, Sem.run_bind, run_isAgg ht, hd, Result.andThen_ok, Bool.false_eq_true, if_false]
      simp [load, Sem.run, this]

theorem os_loadPt {P : Program} {o : Oper} {ts : List PV} {t : TypeId} {d : TypeDesc} {inf : TypeInfo} {x : Operand} {k off : Nat} {ls : List PV} {p : PV} (ho : o.op = .load t x) (ht : P.underlying t = some d) (hi : P.info? t = some inf)
    (hx : aev ts x = .pt k off) (hp : leafVal (isAggD d) inf.size (ls.drop off) = some p) : OpSem P o ⟨p, [(k, ls)], [], [], [], [], []⟩ ts :=
  os_read rfl rfl fun w0 X S0 M s a w hr hl hs => by
    rw [ho] at hl
    have h2 := ev_of hr hl (x := x) (by simp [Op.operands]) hx
    simp only [RV] at h2
    obtain ⟨b, hb, hv⟩ := h2
    obtain ⟨_, T, cs, hh, hcs⟩ := hr.toHRel.box' (hs.1 (k, ls) (by simp)) hb
    have hc : Cells w b (0 + off) (cs.toList.drop off) := (Cells.of_block hh).drop off
    rw [Nat.zero_add] at hc
    obtain ⟨v, h3, h4⟩ := load_sound (P := P) ht hi hc (hcs.drop off) hp
    exact ⟨v, by simp [execOp, ho, hv, Instr.loadAt, Instr.sureAddr, h3], h4⟩

theorem os_loadEp {P : Program} {o : Oper} {ts : List PV} {t : TypeId} {d : TypeDesc} {inf : TypeInfo} {x : Operand} {sfx : List PV} {p : PV} (ho : o.op = .load t x) (ht : P.underlying t = some d) (hi : P.info? t = some inf)
    (hx : aev ts x = .ep sfx) (hp : leafVal (isAggD d) inf.size sfx = some p) : OpSem P o (vE p) ts :=
  os_read rfl rfl fun w0 X S0 M s a w hr hl hs => by
    rw [ho] at hl
    have h2 := ev_of hr hl (x := x) (by simp [Op.operands]) hx
    simp only [RV] at h2
    obtain ⟨b, off, cs, hv, hst, hc, hcs⟩ := h2
    obtain ⟨v, h3, h4⟩ := load_sound (P := P) ht hi hc hcs hp
    exact ⟨v, by simp [execOp, ho, hv, Instr.loadAt, Instr.sureAddr, h3], h4.ofCl⟩

theorem os_loadEo {P : Program} {o : Oper} {ts : List PV} {t : TypeId} {d : TypeDesc} {inf : TypeInfo} {x : Operand} {k i off : Nat} {fz : Bool} {sz : Nat} {rows : List (List PV)} {row : List PV} {p : PV} (ho : o.op = .load t x) (ht : P.underlying t = some d) (hi : P.info? t = some inf)
    (hx : aev ts x = .eo k i off) (hrow : rows[i]? = some row) (hp : leafVal (isAggD d) inf.size (row.drop off) = some p) : OpSem P o ⟨p, [], [(k, fz, sz, rows)], [], [], [], []⟩ ts :=
  os_read rfl rfl fun w0 X S0 M s a w hr hl hs => by
    rw [ho] at hl
    have h2 := ev_of hr hl (x := x) (by simp [Op.operands]) hx
    simp only [RV] at h2
    obtain ⟨L, hL, hn, hv⟩ := h2
    obtain ⟨hLs, hcase⟩ := hr.toHRel.obj' (hs.2.1 (k, fz, sz, rows) (by simp)) hL
    rcases hcase with ⟨h, _⟩ | ⟨_, _, _, cs, E, hh, _, _, _, hR⟩
    · rw [hn] at h; cases h
    · obtain ⟨r1, r2, r3⟩ := hR.row i hrow
      have hc : Cells w L.b (0 + i * sz) ((cs.toList.drop (i * sz)).take sz) := ((Cells.of_block hh).drop (i * sz)).take sz
      rw [Nat.zero_add] at hc
      obtain ⟨v, h3, h4⟩ := load_sound (P := P) ht hi (hc.drop off) (r2.drop off) hp
      exact ⟨v, by simp [execOp, ho, hv, Instr.loadAt, Instr.sureAddr, hLs, h3], h4.ofCl⟩

/-! ### Store, box -/

def leaf1 : PV → Bool
  | .sc v => v.oneCell'
  | .ag _ | .tu _ | .ls .. | .lp .. | .bad => false
  | _ => true

def leaves : PV → List PV
  | .ag ps => ps
  | p => [p]

theorem leaf1_sound {M : Mem} {w : World} {p : PV} {v : Value} (h : leaf1 p = true) (hv : RV M w p v) : v.oneCell' = true := by
  cases p with
  | sc x => simp only [RV] at hv; subst hv; exact h
  | ag ps => cases h
  | tu ps => cases h
  | bad => cases h
  | sl sz rows => simp only [RV] at hv; obtain ⟨a, n, c, rfl, _⟩ := hv; rfl
  | nl => simp only [RV] at hv; obtain ⟨a, rfl⟩ := hv; rfl
  | ow k lo len => simp only [RV] at hv; obtain ⟨L, _, ⟨_, _, a, rfl⟩ | ⟨_, _, a, rfl, _⟩⟩ := hv <;> rfl
  | pt k off => simp only [RV] at hv; obtain ⟨b, _, rfl⟩ := hv; rfl
  | ep sfx => simp only [RV] at hv; obtain ⟨b, off, cs, rfl, _⟩ := hv; rfl
  | eo k i off => simp only [RV] at hv; obtain ⟨L, _, _, rfl⟩ := hv; rfl
  | cl f caps => simp only [RV] at hv; obtain ⟨cs, rfl, _⟩ := hv; rfl
  | ub φ => simp only [RV] at hv; obtain ⟨b, rfl, _⟩ := hv; rfl
  | ls sz rows => cases h
  | lp sfx => cases h

theorem leaves1_sound {M : Mem} {w : World} : ∀ {ps : List PV} {cs : List Value}, ps.all leaf1 = true → RVL M w ps cs → ∀ v ∈ cs, v.oneCell' = true
  | [], cs, _, h => by simp only [RVL] at h; subst h; simp
  | p :: ps, cs, ha, h => by
    simp only [RVL] at h
    obtain ⟨c, r, rfl, h1, h2⟩ := h
    simp only [List.all_cons, Bool.and_eq_true] at ha
    intro v hv
    rcases List.mem_cons.1 hv with rfl | hv
    · exact leaf1_sound ha.1 h1
    · exact leaves1_sound ha.2 h2 v hv

theorem leaves_sound {M : Mem} {w : World} {p : PV} {v : Value} (hp : (leaves p).all leaf1 = true) (hv : RV M w p v) : RVL M w (leaves p) v.cells.toList := by
  have key : leaf1 p = true → v.cells = #[v] := fun h => by
    have := leaf1_sound h hv
    cases v <;> first | rfl | (simp [Value.oneCell'] at this)
  cases p with
  | ag ps =>
    simp only [RV] at hv
    obtain ⟨cs, rfl, h⟩ := hv
    simpa [leaves, Value.cells] using h
  | _ =>
    simp only [leaves, List.all_cons, List.all_nil, Bool.and_true] at hp
    rw [key hp]
    simp only [leaves, RVL]
    exact ⟨v, [], rfl, hv, rfl⟩

def splice (ls : List PV) (off : Nat) (ns : List PV) : List PV := ls.take off ++ ns ++ ls.drop (off + ns.length)

theorem RVL.splice {M : Mem} {w : World} {ls ns : List PV} {cs ds : List Value} (off : Nat) (h : RVL M w ls cs) (h' : RVL M w ns ds) : RVL M w (splice ls off ns) (cs.take off ++ ds ++ cs.drop (off + ds.length)) := by
  unfold Pv.splice
  rw [h'.length]
  exact ((h.take off).append h').append (h.drop _)

theorem os_storePt {P : Program} {o : Oper} {ts : List PV} {t : TypeId} {inf : TypeInfo} {x y : Operand} {k off : Nat} {ls : List PV} {p : PV} (ho : o.op = .store t x y) (hi : P.info? t = some inf)
    (hx : aev ts x = .pt k off) (hy : aev ts y = p) (hp : (leaves p).all leaf1 = true) (hn : (leaves p).length = inf.size) (hfit : off + (leaves p).length ≤ ls.length) :
    OpSem P o ⟨.bad, [(k, ls)], [], [], [], [(k, splice ls off (leaves p))], []⟩ ts := by
  intro w0 X S0 M s a w Q K hr hl hs hk
  rw [ho] at hl
  have h2 := ev_of hr hl (x := x) (by simp [Op.operands]) hx
  have h3 := ev_of hr hl (x := y) (by simp [Op.operands]) hy
  simp only [RV] at h2
  obtain ⟨b, hb, hv⟩ := h2
  have hB := hs.1 (k, ls) (by simp)
  obtain ⟨hown, T, cs, hh, hcs⟩ := hr.toHRel.box' hB hb
  have hlv := leaves_sound hp h3
  have hlen := hlv.length
  have hrun := run_storeCells_at P b off T (a.eval y).cells.toList 0 cs w hh (by rw [Nat.add_zero, hlen]; have := hcs.length; simp at this; omega) (leaves1_sound hp hlv)
  simp only [Nat.add_zero] at hrun
  have hsz : (a.eval y).cells.size = inf.size := by rw [← hn, ← hlen]; simp
  unfold Oper.wp
  have hex : (execOp a.eval o).run P w = .ok .skip (w.setRow b (cs.toList.take off ++ (a.eval y).cells.toList ++ cs.toList.drop (off + (a.eval y).cells.toList.length)).toArray) := by
    simp [execOp, ho, hv, Instr.storeAt, Instr.sureAddr, storeVar, sizeOf, typeInfo, hi, hsz]
    simp at hrun
    rw [hsz] at hrun
    simp [hrun]
  rw [hex, Oper.upon_skip]
  have hR := RVL.splice off hcs hlv
  obtain ⟨hnew, hle⟩ := hr.toHRel.setBox (k := k) (b := b) (ls := ls) (ls' := splice ls off (leaves p)) (cs' := (cs.toList.take off ++ (a.eval y).cells.toList ++ cs.toList.drop (off + (a.eval y).cells.toList.length)).toArray) hB hb hh (by simpa using hR)
  refine hk M _ _ ?_
  have hr' : Rel w0 X S0 M ⟨s.tmps, upd s.B [(k, splice ls off (leaves p))], s.O⟩ a _ := ⟨hnew, hr.dfr, hr.len, fun t => RV.mono hle _ _ (hr.tmp t)⟩
  have := rel_put hr' o.dst (p := .bad) (v := undef) (by simp [RV])
  simpa [St.apply, upd_nil] using this

theorem os_box {P : Program} {o : Oper} {ts : List PV} {t : TypeId} {x : Operand} {d : Nat} {p : PV} (ho : o.op = .box t x) (hx : aev ts x = p) (hp : (leaves p).all leaf1 = true) :
    OpSem P o ⟨.pt d 0, [], [], [d], [], [(d, leaves p)], []⟩ ts := by
  intro w0 X S0 M s a w Q K hr hl hs hk
  rw [ho] at hl
  have h3 := ev_of hr hl (x := x) (by simp [Op.operands]) hx
  have hlv := leaves_sound hp h3
  obtain ⟨M', hnew, hle, hbx⟩ := hr.toHRel.allocBox (d := d) (hs.2.2.1 d (by simp)) (a.eval x).cells t hlv
  unfold Oper.wp
  have hex : (execOp a.eval o).run P w = .ok (.value (.pointer (some ⟨w.heap.size, 0, none⟩))) (w.alloc (.cells (a.eval x).cells t)) := by
    simp [execOp, ho, Instr.box, newVar, newRow, newObj, Sem.run]
  rw [hex, Oper.upon_value]
  refine hk M' _ _ ?_
  have hr' : Rel w0 X S0 M' ⟨s.tmps, upd s.B [(d, leaves p)], s.O⟩ a _ := ⟨hnew, hr.dfr, hr.len, fun t => RV.mono hle _ _ (hr.tmp t)⟩
  have := rel_put hr' o.dst (p := .pt d 0) (v := .pointer (some ⟨w.heap.size, 0, none⟩)) (by simp only [RV]; exact ⟨_, hbx, rfl⟩)
  simpa [St.apply, upd_nil] using this

def zleaf : Value → PV
  | .slice none 0 0 => .nl
  | v => .sc v

theorem zleaf_sound {M : Mem} {w : World} (v : Value) : RV M w (zleaf v) v := by
  unfold zleaf
  split
  · simp only [RV]; exact ⟨none, rfl⟩
  · simp [RV]

theorem zleaves_sound {M : Mem} {w : World} : ∀ vs : List Value, RVL M w (vs.map zleaf) vs
  | [] => by simp [RVL]
  | v :: vs => by simp only [List.map_cons, RVL]; exact ⟨v, vs, rfl, zleaf_sound v, zleaves_sound vs⟩

theorem os_alloc {P : Program} {o : Oper} {ts : List PV} {t : TypeId} {d : Nat} {inf : TypeInfo} {z : Value} (ho : o.op = .alloc t) (hi : P.info? t = some inf) (hz : inf.zero = some z) :
    OpSem P o ⟨.pt d 0, [], [], [d], [], [(d, z.cells.toList.map zleaf)], []⟩ ts := by
  intro w0 X S0 M s a w Q K hr hl hs hk
  obtain ⟨M', hnew, hle, hbx⟩ := hr.toHRel.allocBox (d := d) (hs.2.2.1 d (by simp)) z.cells t (zleaves_sound (M := M) (w := w) z.cells.toList)
  unfold Oper.wp
  have hex : (execOp a.eval o).run P w = .ok (.value (.pointer (some ⟨w.heap.size, 0, none⟩))) (w.alloc (.cells z.cells t)) := by
    simp [execOp, ho, Instr.alloc, zeroValue, typeInfo, hi, hz, newVar, newRow, newObj, Sem.run]
  rw [hex, Oper.upon_value]
  refine hk M' _ _ ?_
  have hr' : Rel w0 X S0 M' ⟨s.tmps, upd s.B [(d, z.cells.toList.map zleaf)], s.O⟩ a _ := ⟨hnew, hr.dfr, hr.len, fun t => RV.mono hle _ _ (hr.tmp t)⟩
  have := rel_put hr' o.dst (p := .pt d 0) (v := .pointer (some ⟨w.heap.size, 0, none⟩)) (by simp only [RV]; exact ⟨_, hbx, rfl⟩)
  simpa [St.apply, upd_nil] using this

/-! ### Values -/

theorem os_extract {P : Program} {o : Oper} {ts : List PV} {x : Operand} {i : Nat} {ps : List PV} {p : PV} (ho : o.op = .extract x i) (hx : aev ts x = .tu ps) (hp : ps[i]? = some p) : OpSem P o (vE p) ts :=
  os_read rfl rfl fun w0 X S0 M s a w hr hl _ => by
    rw [ho] at hl
    have h1 := ev_of hr hl (x := x) (by simp [Op.operands]) hx
    simp only [RV] at h1
    obtain ⟨cs, hv, hcs⟩ := h1
    obtain ⟨c, hc, hr'⟩ := hcs.get i hp
    refine ⟨c, ?_, hr'⟩
    have : cs[i]? = some c := by simpa using hc
    simp [execOp, ho, hv, Instr.extract, this]

/-! ### Parts of values -/

theorem part_sound {P : Program} {M : Mem} {w : World} {t : TypeId} {d : TypeDesc} {inf : TypeInfo} {off : Nat} {cs : Array Value} {ps : List PV} {p : PV} (ht : P.underlying t = some d) (hi : P.info? t = some inf) (hl : RVL M w ps cs.toList)
    (hp : leafVal (isAggD d) inf.size (ps.drop off) = some p) : ∃ v, (part t cs off).run P w = .ok v w ∧ RV M w p v := by
  unfold leafVal at hp
  cases hd : isAggD d with
  | true =>
    rw [hd] at hp
    simp only [if_true] at hp
    split at hp
    · cases hp
      refine ⟨.agg (cs.extract off (off + inf.size)), ?_, ?_⟩
      · simp [part, run_isAgg ht, hd, sizeOf, typeInfo, hi]
      · simp only [RV]
        refine ⟨_, rfl, ?_⟩
        have := (hl.drop off).take inf.size
        have e : (cs.extract off (off + inf.size)).toList = (cs.toList.drop off).take inf.size := by
          rw [Array.toList_extract, List.extract_eq_take_drop]; simp
        rw [e]; exact this
    · cases hp
  | false =>
    rw [hd] at hp
    simp only [Bool.false_eq_true, if_false] at hp
    have hp' : ps[off]? = some p := by
      rw [List.head?_drop] at hp; exact hp
    obtain ⟨c, hc, hr⟩ := hl.get off hp'
    refine ⟨c, ?_, hr⟩
    have : cs[off]? = some c := by simpa using hc
    simp only [part, Sem.run_bind, run_isAgg ht, hd, Result.andThen_ok, Bool.false_eq_true, if_false, this]
    simp

theorem os_index {P : Program} {o : Oper} {ts : List PV} {t elem : TypeId} {x y : Operand} {len : Nat} {d : TypeDesc} {inf : TypeInfo} {ps : List PV} {p : PV} {k : IntKind} {n : Int} (ho : o.op = .index t x y) (ht : P.underlying t = some (.array len elem))
    (hd : P.underlying elem = some d) (hi : P.info? elem = some inf) (hx : aev ts x = .ag ps) (hy : aev ts y = .sc (.int k n)) (h0 : 0 ≤ n) (h1 : n < len) (hp : leafVal (isAggD d) inf.size (ps.drop (n.toNat * inf.size)) = some p) : OpSem P o (vE p) ts :=
  os_read rfl rfl fun w0 X S0 M s a w hr hl _ => by
    rw [ho] at hl
    have h2 := ev_of hr hl (x := x) (by simp [Op.operands]) hx
    have h3 := ev_of hr hl (x := y) (by simp [Op.operands]) hy
    simp only [RV] at h2 h3
    obtain ⟨cs, hv, hcs⟩ := h2
    obtain ⟨v, hrun, hrv⟩ := part_sound hd hi hcs hp
    refine ⟨v, ?_, hrv⟩
    simp [execOp, ho, hv, h3, Instr.index, run_underlying ht, asIntOf, sizeOf, typeInfo, hi, h0, h1, hrun]

theorem os_indexStr {P : Program} {o : Oper} {ts : List PV} {t : TypeId} {x y : Operand} {sb : ByteArray} {k : IntKind} {n : Int} {b : UInt8} (ho : o.op = .index t x y) (ht : P.underlying t = some .string)
    (hx : aev ts x = .sc (.string sb)) (hy : aev ts y = .sc (.int k n)) (h0 : 0 ≤ n) (hb : sb[n.toNat]? = some b) : OpSem P o (vE (.sc (.int .u8 b.toNat))) ts :=
  os_read rfl rfl fun w0 X S0 M s a w hr hl _ => by
    rw [ho] at hl
    have h2 := ev_of hr hl (x := x) (by simp [Op.operands]) hx
    have h3 := ev_of hr hl (x := y) (by simp [Op.operands]) hy
    simp only [RV] at h2 h3
    refine ⟨.int .u8 b.toNat, ?_, by simp [vE, RV]⟩
    simp [execOp, ho, h2, h3, Instr.index, run_underlying ht, asIntOf, h0, hb]

theorem os_field {P : Program} {o : Oper} {ts : List PV} {t : TypeId} {x : Operand} {i : Nat} {fs : Array Field} {f : Field} {d : TypeDesc} {inf : TypeInfo} {ps : List PV} {p : PV} (ho : o.op = .field t x i) (ht : P.underlying t = some (.struct fs)) (hf : fs[i]? = some f)
    (hd : P.underlying f.type = some d) (hi : P.info? f.type = some inf) (hx : aev ts x = .ag ps) (hp : leafVal (isAggD d) inf.size (ps.drop f.offset) = some p) : OpSem P o (vE p) ts :=
  os_read rfl rfl fun w0 X S0 M s a w hr hl _ => by
    rw [ho] at hl
    have h2 := ev_of hr hl (x := x) (by simp [Op.operands]) hx
    simp only [RV] at h2
    obtain ⟨cs, hv, hcs⟩ := h2
    obtain ⟨v, hrun, hrv⟩ := part_sound hd hi hcs hp
    refine ⟨v, ?_, hrv⟩
    simp [execOp, ho, hv, Instr.field, run_underlying ht, hf, asAgg, hrun]

theorem os_nilCheck {P : Program} {o : Oper} {ts : List PV} {x : Operand} {p q : PV} (ho : o.op = .nilCheck x) (hx : aev ts x = p) (hp : padd p 0 = some q) : OpSem P o (vE p) ts :=
  os_read rfl rfl fun w0 X S0 M s a w hr hl _ => by
    rw [ho] at hl
    have h1 := ev_of hr hl (x := x) (by simp [Op.operands]) hx
    obtain ⟨b, off, hv, _⟩ := padd_sound hp h1
    exact ⟨a.eval x, by simp [execOp, ho, hv], h1⟩

theorem os_makeFunc {P : Program} {o : Oper} {ts : List PV} {f : Nat} {caps : Array Operand} (ho : o.op = .makeFunc (.func f) #[] caps) : OpSem P o (vE (.cl f (caps.toList.map (aev ts)))) ts :=
  os_read rfl rfl fun w0 X S0 M s a w hr hl _ => by
    rw [ho] at hl
    refine ⟨.func (.func f) #[] (caps.map a.eval), by simp [execOp, ho, Instr.makeFunc], ?_⟩
    simp only [vE, RV]
    refine ⟨caps.map a.eval, rfl, ?_⟩
    have key : ∀ xs : List Operand, (∀ x ∈ xs, aev s.tmps x = aev ts x) → RVL M w (xs.map (aev ts)) (xs.map a.eval) := by
      intro xs
      induction xs with
      | nil => intro _; simp [RVL]
      | cons x xs ih =>
        intro hx
        simp only [List.map_cons, RVL]
        refine ⟨_, _, rfl, ?_, ih fun y hy => hx y (by simp [hy])⟩
        rw [← hx x (by simp)]
        exact hr.eval x
    simpa using key caps.toList (fun x hx => hl x (by simpa [Op.operands] using hx))

theorem os_len {P : Program} {o : Oper} {ts : List PV} {x : Operand} {t e : TypeId} {p : PV} {n : Nat} (ho : o.op = .call { callee := .builtin .len, args := #[x], argTypes := #[t] }) (ht : P.underlying t = some (.slice e)) (hx : aev ts x = p)
    (hn : (∃ sz rows, p = .sl sz rows ∧ n = rows.length) ∨ (p = .nl ∧ n = 0) ∨ ∃ k lo, p = .ow k lo n) : OpSem P o (vE (.sc (.int .i64 n))) ts :=
  os_read rfl rfl fun w0 X S0 M s a w hr hl _ => by
    rw [ho] at hl
    have h1 := ev_of hr hl (x := x) (by simp [Op.operands, Call.operands]) hx
    have hv : ∃ ad c, a.eval x = .slice ad n c := by
      rcases hn with ⟨sz, rows, rfl, rfl⟩ | ⟨rfl, rfl⟩ | ⟨k, lo, rfl⟩
      · simp only [RV] at h1
        obtain ⟨ad, m, c, h, rfl, _⟩ := h1
        exact ⟨ad, c, h⟩
      · simp only [RV] at h1
        obtain ⟨ad, h⟩ := h1
        exact ⟨ad, 0, h⟩
      · simp only [RV] at h1
        obtain ⟨L, _, ⟨_, rfl, ad, h⟩ | ⟨_, _, ad, h, _⟩⟩ := h1
        · exact ⟨ad, 0, h⟩
        · exact ⟨ad, _, h⟩
    obtain ⟨ad, c, hv⟩ := hv
    exact ⟨.int .i64 n, by simp [execOp, ho, resolve, invoke, builtin, Builtin.len_, run_underlying ht, hv, goInt], by simp [vE, RV]⟩

theorem os_lenStr {P : Program} {o : Oper} {ts : List PV} {x : Operand} {t : TypeId} {b : ByteArray} (ho : o.op = .call { callee := .builtin .len, args := #[x], argTypes := #[t] }) (ht : P.underlying t = some .string) (hx : aev ts x = .sc (.string b)) : OpSem P o (vE (.sc (.int .i64 b.size))) ts :=
  os_read rfl rfl fun w0 X S0 M s a w hr hl _ => by
    rw [ho] at hl
    have h1 := ev_of hr hl (x := x) (by simp [Op.operands, Call.operands]) hx
    simp only [RV] at h1
    exact ⟨.int .i64 b.size, by simp [execOp, ho, resolve, invoke, builtin, Builtin.len_, run_underlying ht, h1, goInt], by simp [vE, RV]⟩

theorem os_max {P : Program} {o : Oper} {ts : List PV} {x y : Operand} {tys : Array TypeId} {k k' : IntKind} {m n : Int} (ho : o.op = .call { callee := .builtin .max, args := #[x, y], argTypes := tys }) (hx : aev ts x = .sc (.int k m)) (hy : aev ts y = .sc (.int k' n)) : OpSem P o (vE (.sc (.int k (if n > m then n else m)))) ts :=
  os_read rfl rfl fun w0 X S0 M s a w hr hl _ => by
    rw [ho] at hl
    have h1 := ev_of hr hl (x := x) (by simp [Op.operands, Call.operands]) hx
    have h2 := ev_of hr hl (x := y) (by simp [Op.operands, Call.operands]) hy
    simp only [RV] at h1 h2
    exact ⟨.int k (if n > m then n else m), by simp [execOp, ho, resolve, invoke, builtin, Builtin.max_, Builtin.max2, h1, h2], by simp [vE, RV]⟩

theorem os_min {P : Program} {o : Oper} {ts : List PV} {x y : Operand} {tys : Array TypeId} {k k' : IntKind} {m n : Int} (ho : o.op = .call { callee := .builtin .min, args := #[x, y], argTypes := tys }) (hx : aev ts x = .sc (.int k m)) (hy : aev ts y = .sc (.int k' n)) : OpSem P o (vE (.sc (.int k (if n < m then n else m)))) ts :=
  os_read rfl rfl fun w0 X S0 M s a w hr hl _ => by
    rw [ho] at hl
    have h1 := ev_of hr hl (x := x) (by simp [Op.operands, Call.operands]) hx
    have h2 := ev_of hr hl (x := y) (by simp [Op.operands, Call.operands]) hy
    simp only [RV] at h1 h2
    exact ⟨.int k (if n < m then n else m), by simp [execOp, ho, resolve, invoke, builtin, Builtin.min_, Builtin.min2, h1, h2], by simp [vE, RV]⟩

end Go.Pv
