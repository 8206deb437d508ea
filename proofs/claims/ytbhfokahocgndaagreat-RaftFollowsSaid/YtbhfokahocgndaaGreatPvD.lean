import Derived.Test.YtbhfokahocgndaaGreatPvA
import Derived.Laws.CopyRow
import Derived.Laws.Tables
import Derived.Laws.StructEq
/-
  Operations on memory and on compound values. Generic over the program.
-/
set_option linter.unusedSimpArgs false
set_option linter.unusedVariables false
namespace Go.Pv

/-! ### Addresses -/

def padd : PV → Nat → Option PV
  | .pt k off, n => some (.pt k (off + n))
  | .ep sfx, n => some (.ep (sfx.drop n))
  | .eo k i off, n => some (.eo k i (off + n))
  | _, _ => none

theorem padd_sound {M : Mem} {w : World} {p q : PV} {n : Nat} {v : Value} (h : padd p n = some q) (hv : RV M w p v) : ∃ b off, v = .pointer (some ⟨b, off, none⟩) ∧ RV M w q (.pointer (some ⟨b, off + n, none⟩)) := by
  unfold padd at h
  split at h
  · cases h
    simp only [RV] at hv
    obtain ⟨b, hb, rfl⟩ := hv
    exact ⟨b, _, rfl, by simp only [RV]; exact ⟨b, hb, rfl⟩⟩
  · cases h
    simp only [RV] at hv
    obtain ⟨b, off, cs, rfl, hs, hc, hl⟩ := hv
    refine ⟨b, off, rfl, ?_⟩
    simp only [RV]
    exact ⟨b, off + n, cs.drop n, rfl, hs, hc.drop n, hl.drop n⟩
  · cases h
    simp only [RV] at hv
    obtain ⟨L, hL, hn, rfl⟩ := hv
    refine ⟨L.b, _, rfl, ?_⟩
    simp only [RV]
    exact ⟨L, hL, hn, by rw [Nat.add_assoc]⟩
  · cases h

theorem os_fieldAddr {P : Program} {o : Oper} {ts : List PV} {t : TypeId} {x : Operand} {i : Nat} {fs : Array Field} {f : Field} {inf : TypeInfo} {p q : PV} (ho : o.op = .fieldAddr t x i) (ht : P.underlying t = some (.struct fs)) (hf : fs[i]? = some f)
    (hi : P.info? f.type = some inf) (hz : inf.size ≠ 0) (hx : aev ts x = p) (hq : padd p f.offset = some q) : OpSem P o (vE q) ts :=
  os_read rfl rfl fun w0 X S0 M s a w hr hl _ => by
    rw [ho] at hl
    have h1 := ev_of hr hl (x := x) (by simp [Op.operands]) hx
    obtain ⟨b, off, hv, hq'⟩ := padd_sound hq h1
    refine ⟨.pointer (some ⟨b, off + f.offset, none⟩), ?_, hq'⟩
    simp [execOp, ho, hv, Instr.fieldAt, run_underlying ht, hf, Instr.sureAddr, fieldPlace, sizeOf, typeInfo, hi, hz, Addr.add_lit]

/-- The cells from a pointer on. -/
theorem os_indexArr {P : Program} {o : Oper} {ts : List PV} {t elem : TypeId} {x y : Operand} {len : Nat} {inf : TypeInfo} {p q : PV} {k : IntKind} {n : Int} (ho : o.op = .indexAddr t x y) (ht : P.underlying t = some (.array len elem))
    (hi : P.info? elem = some inf) (hx : aev ts x = p) (hy : aev ts y = .sc (.int k n)) (h0 : 0 ≤ n) (h1 : n < len) (hq : padd p (n.toNat * inf.size) = some q) : OpSem P o (vE q) ts :=
  os_read rfl rfl fun w0 X S0 M s a w hr hl _ => by
    rw [ho] at hl
    have h2 := ev_of hr hl (x := x) (by simp [Op.operands]) hx
    have h3 := ev_of hr hl (x := y) (by simp [Op.operands]) hy
    simp only [RV] at h3
    obtain ⟨b, off, hv, hq'⟩ := padd_sound hq h2
    refine ⟨.pointer (some ⟨b, off + n.toNat * inf.size, none⟩), ?_, hq'⟩
    simp [execOp, ho, hv, h3, Instr.indexAt, run_underlying ht, asIntOf, Instr.sureAddr, sizeOf, typeInfo, hi, h0, h1, Addr.add_lit]

theorem os_indexSl {P : Program} {o : Oper} {ts : List PV} {t elem : TypeId} {x y : Operand} {inf : TypeInfo} {sz : Nat} {rows : List (List PV)} {k : IntKind} {n : Int} {row : List PV} (ho : o.op = .indexAddr t x y) (ht : P.underlying t = some (.slice elem))
    (hi : P.info? elem = some inf) (hsz : inf.size = sz) (hx : aev ts x = .sl sz rows) (hy : aev ts y = .sc (.int k n)) (h0 : 0 ≤ n) (hrow : rows[n.toNat]? = some row) : OpSem P o (vE (.ep row)) ts :=
  os_read rfl rfl fun w0 X S0 M s a w hr hl _ => by
    rw [ho] at hl
    have h2 := ev_of hr hl (x := x) (by simp [Op.operands]) hx
    have h3 := ev_of hr hl (x := y) (by simp [Op.operands]) hy
    simp only [RV] at h3 h2
    obtain ⟨ad, m, c, hv, hm, hc, hcase⟩ := h2
    have hlt : n.toNat < rows.length := (List.getElem?_eq_some_iff.1 hrow).1
    rcases hcase with rfl | ⟨b, off, cs, rfl, hst, hcl, hR⟩
    · simp at hlt
    · obtain ⟨r1, r2, r3⟩ := hR.row _ hrow
      refine ⟨.pointer (some ⟨b, off + n.toNat * sz, none⟩), ?_, ?_⟩
      · have : n < (rows.length : Int) := by omega
        simp [execOp, ho, hv, h3, Instr.indexAt, run_underlying ht, asIntOf, sizeOf, typeInfo, hi, h0, hm, this, Addr.add_lit, hsz]
      · simp only [vE, RV]
        exact ⟨b, _, _, rfl, hst, (hcl.drop _).take _, r2⟩

theorem os_indexOw {P : Program} {o : Oper} {ts : List PV} {t elem : TypeId} {x y : Operand} {inf : TypeInfo} {ky lo len : Nat} {k : IntKind} {n : Int} {fz : Bool} {sz : Nat} {rows : List (List PV)} (ho : o.op = .indexAddr t x y) (ht : P.underlying t = some (.slice elem))
    (hi : P.info? elem = some inf) (hsz : inf.size = sz) (hx : aev ts x = .ow ky lo len) (hy : aev ts y = .sc (.int k n)) (h0 : 0 ≤ n) (h1 : n < len) : OpSem P o ⟨.eo ky (lo + n.toNat) 0, [], [(ky, fz, sz, rows)], [], [], [], []⟩ ts :=
  os_read rfl rfl fun w0 X S0 M s a w hr hl hs => by
    rw [ho] at hl
    have h2 := ev_of hr hl (x := x) (by simp [Op.operands]) hx
    have h3 := ev_of hr hl (x := y) (by simp [Op.operands]) hy
    simp only [RV] at h3 h2
    obtain ⟨L, hL, hcase⟩ := h2
    have hob := hs.2.1 (ky, fz, sz, rows) (by simp)
    obtain ⟨hLs, _⟩ := hr.toHRel.obj' hob hL
    rcases hcase with ⟨_, rfl, _⟩ | ⟨hn, hle, ad, hv, had⟩
    · simp at h1; omega
    · have hlt : lo < L.cap := by omega
      refine ⟨.pointer (some ⟨L.b, lo * L.sz + n.toNat * sz, none⟩), ?_, ?_⟩
      · simp [execOp, ho, hv, h3, Instr.indexAt, run_underlying ht, asIntOf, sizeOf, typeInfo, hi, h0, h1, had hlt, Addr.add_lit, hsz]
      · simp only [RV]
        exact ⟨L, hL, hn, by rw [hLs, Nat.add_mul]; rfl⟩

/-! ### Load -/

def isAggD : TypeDesc → Bool
  | .struct _ => true
  | .array .. => true
  | _ => false

def leafVal (agg : Bool) (n : Nat) (sfx : List PV) : Option PV :=
  if agg then (if n ≤ sfx.length then some (.ag (sfx.take n)) else none) else sfx.head?

theorem run_isAgg {P : Program} {w : World} {t : TypeId} {d : TypeDesc} (h : P.underlying t = some d) : (isAgg t).run P w = .ok (isAggD d) w := by
  simp only [isAgg, Sem.run_bind, run_underlying h, Result.andThen_ok]
  cases d <;> simp [isAggD]

theorem load_sound {P : Program} {M : Mem} {w : World} {t : TypeId} {d : TypeDesc} {inf : TypeInfo} {b off : Nat} {cs : List Value} {sfx : List PV} {p : PV} (ht : P.underlying t = some d) (hi : P.info? t = some inf) (hc : Cells w b off cs) (hl : RVL M w sfx cs)
    (hp : leafVal (isAggD d) inf.size sfx = some p) : ∃ v, (loadVar t ⟨b, off, none⟩).run P w = .ok v w ∧ RV M w p v := by
  unfold leafVal at hp
  cases hd : isAggD d with
  | true =>
    rw [hd] at hp
    simp only [if_true] at hp
    split at hp
    · rename_i hle
      cases hp
      refine ⟨.agg (cs.take inf.size).toArray, ?_, ?_⟩
      · have hlen : (cs.take inf.size).length = inf.size := by rw [List.length_take, hl.length]; omega
        have hrun := run_loadCells_list (P := P) w ⟨b, off, none⟩ (cs.take inf.size) (fun j v hj => by rw [Addr.add_lit]; exact hc.take _ j v hj)
        rw [hlen] at hrun
        simp [loadVar, run_isAgg ht, hd, sizeOf, typeInfo, hi, hrun]
      · simp only [RV]
        exact ⟨_, rfl, by simpa using hl.take inf.size⟩
    · cases hp
  | false =>
    rw [hd] at hp
    simp only [Bool.false_eq_true, if_false] at hp
    cases sfx with
    | nil => simp at hp
    | cons q rest =>
      simp at hp; subst hp
      simp only [RVL] at hl
      obtain ⟨c, r, rfl, h1, _⟩ := hl
      refine ⟨c, ?_, h1⟩
      have := hc 0 c (by simp)
      simp only [Nat.add_zero] at this
      simp only [loadVar, Sem.run_bind, run_isAgg ht, hd, Result.andThen_ok, Bool.false_eq_true, if_false]
      simp [load, Sem.run, this]

theorem os_loadPt {P : Program} {o : Oper} {ts : List PV} {t : TypeId} {d : TypeDesc} {inf : TypeInfo} {x : Operand} {k off : Nat} {ls : List PV} {p : PV} (ho : o.op = .load t x) (ht : P.underlying t = some d) (hi : P.info? t = some inf)
    (hx : aev ts x = .pt k off) (hp : leafVal (isAggD d) inf.size (ls.drop off) = some p) : OpSem P o ⟨p, [(k, ls)], [], [], [], [], []⟩ ts :=
  os_read rfl rfl fun w0 X S0 M s a w hr hl hs => by
    rw [ho] at hl
    have h2 := ev_of hr hl (x := x) (by simp [Op.operands]) hx
    simp only [RV] at h2
    obtain ⟨b, hb, hv⟩ := h2
    obtain ⟨_, T, cs, hh, hcs⟩ := hr.toHRel.box' (hs.1 (k, ls) (by simp)) hb
    have hc : Cells w b (0 + off) (cs.toList.drop off) := (Cells.of_block hh).drop off
    rw [Nat.zero_add] at hc
    obtain ⟨v, h3, h4⟩ := load_sound (P := P) ht hi hc (hcs.drop off) hp
    exact ⟨v, by simp [execOp, ho, hv, Instr.loadAt, Instr.sureAddr, h3], h4⟩

theorem os_loadEp {P : Program} {o : Oper} {ts : List PV} {t : TypeId} {d : TypeDesc} {inf : TypeInfo} {x : Operand} {sfx : List PV} {p : PV} (ho : o.op = .load t x) (ht : P.underlying t = some d) (hi : P.info? t = some inf)
    (hx : aev ts x = .ep sfx) (hp : leafVal (isAggD d) inf.size sfx = some p) : OpSem P o (vE p) ts :=
  os_read rfl rfl fun w0 X S0 M s a w hr hl hs => by
    rw [ho] at hl
    have h2 := ev_of hr hl (x := x) (by simp [Op.operands]) hx
    simp only [RV] at h2
    obtain ⟨b, off, cs, hv, hst, hc, hcs⟩ := h2
    obtain ⟨v, h3, h4⟩ := load_sound (P := P) ht hi hc hcs hp
    exact ⟨v, by simp [execOp, ho, hv, Instr.loadAt, Instr.sureAddr, h3], h4.ofCl⟩

theorem os_loadEo {P : Program} {o : Oper} {ts : List PV} {t : TypeId} {d : TypeDesc} {inf : TypeInfo} {x : Operand} {k i off : Nat} {fz : Bool} {sz : Nat} {rows : List (List PV)} {row : List PV} {p : PV} (ho : o.op = .load t x) (ht : P.underlying t = some d) (hi : P.info? t = some inf)
    (hx : aev ts x = .eo k i off) (hrow : rows[i]? = some row) (hp : leafVal (isAggD d) inf.size (row.drop off) = some p) : OpSem P o ⟨p, [], [(k, fz, sz, rows)], [], [], [], []⟩ ts :=
  os_read rfl rfl fun w0 X S0 M s a w hr hl hs => by
    rw [ho] at hl
    have h2 := ev_of hr hl (x := x) (by simp [Op.operands]) hx
    simp only [RV] at h2
    obtain ⟨L, hL, hn, hv⟩ := h2
    obtain ⟨hLs, hcase⟩ := hr.toHRel.obj' (hs.2.1 (k, fz, sz, rows) (by simp)) hL
    rcases hcase with ⟨h, _⟩ | ⟨_, _, _, cs, E, hh, _, _, _, hR⟩
    · rw [hn] at h; cases h
    · obtain ⟨r1, r2, r3⟩ := hR.row i hrow
      have hc : Cells w L.b (0 + i * sz) ((cs.toList.drop (i * sz)).take sz) := ((Cells.of_block hh).drop (i * sz)).take sz
      rw [Nat.zero_add] at hc
      obtain ⟨v, h3, h4⟩ := load_sound (P := P) ht hi (hc.drop off) (r2.drop off) hp
      exact ⟨v, by simp [execOp, ho, hv, Instr.loadAt, Instr.sureAddr, hLs, h3], h4.ofCl⟩

/-! ### Store, box -/

def leaf1 : PV → Bool
  | .sc v => v.oneCell'
  | .ag _ | .tu _ | .ls .. | .lp .. | .bad => false
  | _ => true

def leaves : PV → List PV
  | .ag ps => ps
  | p => [p]

theorem leaf1_sound {M : Mem} {w : World} {p : PV} {v : Value} (h : leaf1 p = true) (hv : RV M w p v) : v.oneCell' = true := by
  cases p with
  | sc x => simp only [RV] at hv; subst hv; exact h
  | ag ps => cases h
  | tu ps => cases h
  | bad => cases h
  | sl sz rows => simp only [RV] at hv; obtain ⟨a, n, c, rfl, _⟩ := hv; rfl
  | nl => simp only [RV] at hv; obtain ⟨a, rfl⟩ := hv; rfl
  | ow k lo len => simp only [RV] at hv; obtain ⟨L, _, ⟨_, _, a, rfl⟩ | ⟨_, _, a, rfl, _⟩⟩ := hv <;> rfl
  | pt k off => simp only [RV] at hv; obtain ⟨b, _, rfl⟩ := hv; rfl
  | bs k off len => simp only [RV] at hv; obtain ⟨b, _, rfl⟩ := hv; rfl
  | ep sfx => simp only [RV] at hv; obtain ⟨b, off, cs, rfl, _⟩ := hv; rfl
  | eo k i off => simp only [RV] at hv; obtain ⟨L, _, _, rfl⟩ := hv; rfl
  | cl f caps => simp only [RV] at hv; obtain ⟨cs, rfl, _⟩ := hv; rfl
  | cm f caps => simp only [RV] at hv; obtain ⟨cs, rfl, _⟩ := hv; rfl
  | ub φ => simp only [RV] at hv; obtain ⟨b, rfl, _⟩ := hv; rfl
  | nn kd => simp only [RV] at hv; obtain ⟨b, rfl, _⟩ := hv; rfl
  | ls sz rows => cases h
  | lp sfx => cases h

theorem leaves1_sound {M : Mem} {w : World} : ∀ {ps : List PV} {cs : List Value}, ps.all leaf1 = true → RVL M w ps cs → ∀ v ∈ cs, v.oneCell' = true
  | [], cs, _, h => by simp only [RVL] at h; subst h; simp
  | p :: ps, cs, ha, h => by
    simp only [RVL] at h
    obtain ⟨c, r, rfl, h1, h2⟩ := h
    simp only [List.all_cons, Bool.and_eq_true] at ha
    intro v hv
    rcases List.mem_cons.1 hv with rfl | hv
    · exact leaf1_sound ha.1 h1
    · exact leaves1_sound ha.2 h2 v hv

theorem leaves_sound {M : Mem} {w : World} {p : PV} {v : Value} (hp : (leaves p).all leaf1 = true) (hv : RV M w p v) : RVL M w (leaves p) v.cells.toList := by
  have key : leaf1 p = true → v.cells = #[v] := fun h => by
    have := leaf1_sound h hv
    cases v <;> first | rfl | (simp [Value.oneCell'] at this)
  cases p with
  | ag ps =>
    simp only [RV] at hv
    obtain ⟨cs, rfl, h⟩ := hv
    simpa [leaves, Value.cells] using h
  | _ =>
    simp only [leaves, List.all_cons, List.all_nil, Bool.and_true] at hp
    rw [key hp]
    simp only [leaves, RVL]
    exact ⟨v, [], rfl, hv, rfl⟩

def splice (ls : List PV) (off : Nat) (ns : List PV) : List PV := ls.take off ++ ns ++ ls.drop (off + ns.length)

theorem RVL.splice {M : Mem} {w : World} {ls ns : List PV} {cs ds : List Value} (off : Nat) (h : RVL M w ls cs) (h' : RVL M w ns ds) : RVL M w (splice ls off ns) (cs.take off ++ ds ++ cs.drop (off + ds.length)) := by
  unfold Pv.splice
  rw [h'.length]
  exact ((h.take off).append h').append (h.drop _)

theorem os_storePt {P : Program} {o : Oper} {ts : List PV} {t : TypeId} {inf : TypeInfo} {x y : Operand} {k off : Nat} {ls : List PV} {p : PV} (ho : o.op = .store t x y) (hi : P.info? t = some inf)
    (hx : aev ts x = .pt k off) (hy : aev ts y = p) (hp : (leaves p).all leaf1 = true) (hn : (leaves p).length = inf.size) (hfit : off + (leaves p).length ≤ ls.length) :
    OpSem P o ⟨.bad, [(k, ls)], [], [], [], [(k, splice ls off (leaves p))], []⟩ ts := by
  intro w0 X S0 M s a w Q K hr hl hs hk
  rw [ho] at hl
  have h2 := ev_of hr hl (x := x) (by simp [Op.operands]) hx
  have h3 := ev_of hr hl (x := y) (by simp [Op.operands]) hy
  simp only [RV] at h2
  obtain ⟨b, hb, hv⟩ := h2
  have hB := hs.1 (k, ls) (by simp)
  obtain ⟨hown, T, cs, hh, hcs⟩ := hr.toHRel.box' hB hb
  have hlv := leaves_sound hp h3
  have hlen := hlv.length
  have hrun := run_storeCells_at P b off T (a.eval y).cells.toList 0 cs w hh (by rw [Nat.add_zero, hlen]; have := hcs.length; simp at this; omega) (leaves1_sound hp hlv)
  simp only [Nat.add_zero] at hrun
  have hsz : (a.eval y).cells.size = inf.size := by rw [← hn, ← hlen]; simp
  unfold Oper.wp
  have hex : (execOp a.eval o).run P w = .ok .skip (w.setRow b (cs.toList.take off ++ (a.eval y).cells.toList ++ cs.toList.drop (off + (a.eval y).cells.toList.length)).toArray) := by
    simp [execOp, ho, hv, Instr.storeAt, Instr.sureAddr, storeVar, sizeOf, typeInfo, hi, hsz]
    simp at hrun
    rw [hsz] at hrun
    simp [hrun]
  rw [hex, Oper.upon_skip]
  have hR := RVL.splice off hcs hlv
  obtain ⟨hnew, hle⟩ := hr.toHRel.setBox (k := k) (b := b) (ls := ls) (ls' := splice ls off (leaves p)) (cs' := (cs.toList.take off ++ (a.eval y).cells.toList ++ cs.toList.drop (off + (a.eval y).cells.toList.length)).toArray) hB hb hh (by simpa using hR)
  refine hk M _ _ ?_
  have hr' : Rel w0 X S0 M ⟨s.tmps, upd s.B [(k, splice ls off (leaves p))], s.O⟩ a _ := ⟨hnew, hr.dfr, hr.len, fun t => RV.mono hle _ _ (hr.tmp t)⟩
  have := rel_put hr' o.dst (p := .bad) (v := undef) (by simp [RV])
  simpa [St.apply, upd_nil] using this

/-- A constant is stored as it is. -/
theorem os_storeC {P : Program} {o : Oper} {ts : List PV} {t : TypeId} {inf : TypeInfo} {x : Operand} {k off : Nat} {ls : List PV} {v0 : Value} (ho : o.op = .store t x (.const v0)) (hi : P.info? t = some inf)
    (hx : aev ts x = .pt k off) (hp : (leaves (.sc v0)).all leaf1 = true) (hn : (leaves (.sc v0)).length = inf.size) (hfit : off + (leaves (.sc v0)).length ≤ ls.length) :
    OpSem P o ⟨.bad, [(k, ls)], [], [], [], [(k, splice ls off (leaves (.sc v0)))], []⟩ ts := by
  intro w0 X S0 M s a w Q K hr hl hs hk
  rw [ho] at hl
  have h2 := ev_of hr hl (x := x) (by simp [Op.operands]) hx
  have h3 : RV M w (.sc v0) (a.eval (.const v0)) := by simp [RV, Act.eval]
  simp only [RV] at h2
  obtain ⟨b, hb, hv⟩ := h2
  have hB := hs.1 (k, ls) (by simp)
  obtain ⟨hown, T, cs, hh, hcs⟩ := hr.toHRel.box' hB hb
  have hlv := leaves_sound hp h3
  have hlen := hlv.length
  have hrun := run_storeCells_at P b off T (a.eval (.const v0)).cells.toList 0 cs w hh (by rw [Nat.add_zero, hlen]; have := hcs.length; simp at this; omega) (leaves1_sound hp hlv)
  simp only [Nat.add_zero] at hrun
  have hsz : (a.eval (.const v0)).cells.size = inf.size := by rw [← hn, ← hlen]; simp
  unfold Oper.wp
  have hex : (execOp a.eval o).run P w = .ok .skip (w.setRow b (cs.toList.take off ++ (a.eval (.const v0)).cells.toList ++ cs.toList.drop (off + (a.eval (.const v0)).cells.toList.length)).toArray) := by
    simp [execOp, ho, hv, Instr.storeAt, Instr.sureAddr, storeVar, sizeOf, typeInfo, hi, hsz]
    simp at hrun
    rw [hsz] at hrun
    simp [hrun]
  rw [hex, Oper.upon_skip]
  have hR := RVL.splice off hcs hlv
  obtain ⟨hnew, hle⟩ := hr.toHRel.setBox (k := k) (b := b) (ls := ls) (ls' := splice ls off (leaves (.sc v0))) (cs' := (cs.toList.take off ++ (a.eval (.const v0)).cells.toList ++ cs.toList.drop (off + (a.eval (.const v0)).cells.toList.length)).toArray) hB hb hh (by simpa using hR)
  refine hk M _ _ ?_
  have hr' : Rel w0 X S0 M ⟨s.tmps, upd s.B [(k, splice ls off (leaves (.sc v0)))], s.O⟩ a _ := ⟨hnew, hr.dfr, hr.len, fun t => RV.mono hle _ _ (hr.tmp t)⟩
  have := rel_put hr' o.dst (p := .bad) (v := undef) (by simp [RV])
  simpa [St.apply, upd_nil] using this

theorem os_box {P : Program} {o : Oper} {ts : List PV} {t : TypeId} {x : Operand} {d : Nat} {p : PV} (ho : o.op = .box t x) (hx : aev ts x = p) (hp : (leaves p).all leaf1 = true) :
    OpSem P o ⟨.pt d 0, [], [], [d], [], [(d, leaves p)], []⟩ ts := by
  intro w0 X S0 M s a w Q K hr hl hs hk
  rw [ho] at hl
  have h3 := ev_of hr hl (x := x) (by simp [Op.operands]) hx
  have hlv := leaves_sound hp h3
  obtain ⟨M', hnew, hle, hbx⟩ := hr.toHRel.allocBox (d := d) (hs.2.2.1 d (by simp)) (a.eval x).cells t hlv
  unfold Oper.wp
  have hex : (execOp a.eval o).run P w = .ok (.value (.pointer (some ⟨w.heap.size, 0, none⟩))) (w.alloc (.cells (a.eval x).cells t)) := by
    simp [execOp, ho, Instr.box, newVar, newRow, newObj, Sem.run]
  rw [hex, Oper.upon_value]
  refine hk M' _ _ ?_
  have hr' : Rel w0 X S0 M' ⟨s.tmps, upd s.B [(d, leaves p)], s.O⟩ a _ := ⟨hnew, hr.dfr, hr.len, fun t => RV.mono hle _ _ (hr.tmp t)⟩
  have := rel_put hr' o.dst (p := .pt d 0) (v := .pointer (some ⟨w.heap.size, 0, none⟩)) (by simp only [RV]; exact ⟨_, hbx, rfl⟩)
  simpa [St.apply, upd_nil] using this

def zleaf : Value → PV
  | .slice none 0 0 => .nl
  | v => .sc v

theorem zleaf_sound {M : Mem} {w : World} (v : Value) : RV M w (zleaf v) v := by
  unfold zleaf
  split
  · simp only [RV]; exact ⟨none, rfl⟩
  · simp [RV]

theorem zleaves_sound {M : Mem} {w : World} : ∀ vs : List Value, RVL M w (vs.map zleaf) vs
  | [] => by simp [RVL]
  | v :: vs => by simp only [List.map_cons, RVL]; exact ⟨v, vs, rfl, zleaf_sound v, zleaves_sound vs⟩

theorem os_alloc {P : Program} {o : Oper} {ts : List PV} {t : TypeId} {d : Nat} {inf : TypeInfo} {z : Value} (ho : o.op = .alloc t) (hi : P.info? t = some inf) (hz : inf.zero = some z) :
    OpSem P o ⟨.pt d 0, [], [], [d], [], [(d, z.cells.toList.map zleaf)], []⟩ ts := by
  intro w0 X S0 M s a w Q K hr hl hs hk
  obtain ⟨M', hnew, hle, hbx⟩ := hr.toHRel.allocBox (d := d) (hs.2.2.1 d (by simp)) z.cells t (zleaves_sound (M := M) (w := w) z.cells.toList)
  unfold Oper.wp
  have hex : (execOp a.eval o).run P w = .ok (.value (.pointer (some ⟨w.heap.size, 0, none⟩))) (w.alloc (.cells z.cells t)) := by
    simp [execOp, ho, Instr.alloc, zeroValue, typeInfo, hi, hz, newVar, newRow, newObj, Sem.run]
  rw [hex, Oper.upon_value]
  refine hk M' _ _ ?_
  have hr' : Rel w0 X S0 M' ⟨s.tmps, upd s.B [(d, z.cells.toList.map zleaf)], s.O⟩ a _ := ⟨hnew, hr.dfr, hr.len, fun t => RV.mono hle _ _ (hr.tmp t)⟩
  have := rel_put hr' o.dst (p := .pt d 0) (v := .pointer (some ⟨w.heap.size, 0, none⟩)) (by simp only [RV]; exact ⟨_, hbx, rfl⟩)
  simpa [St.apply, upd_nil] using this

/-! ### Values -/

theorem os_extract {P : Program} {o : Oper} {ts : List PV} {x : Operand} {i : Nat} {ps : List PV} {p : PV} (ho : o.op = .extract x i) (hx : aev ts x = .tu ps) (hp : ps[i]? = some p) : OpSem P o (vE p) ts :=
  os_read rfl rfl fun w0 X S0 M s a w hr hl _ => by
    rw [ho] at hl
    have h1 := ev_of hr hl (x := x) (by simp [Op.operands]) hx
    simp only [RV] at h1
    obtain ⟨cs, hv, hcs⟩ := h1
    obtain ⟨c, hc, hr'⟩ := hcs.get i hp
    refine ⟨c, ?_, hr'⟩
    have : cs[i]? = some c := by simpa using hc
    simp [execOp, ho, hv, Instr.extract, this]

/-! ### Parts of values -/

theorem part_sound {P : Program} {M : Mem} {w : World} {t : TypeId} {d : TypeDesc} {inf : TypeInfo} {off : Nat} {cs : Array Value} {ps : List PV} {p : PV} (ht : P.underlying t = some d) (hi : P.info? t = some inf) (hl : RVL M w ps cs.toList)
    (hp : leafVal (isAggD d) inf.size (ps.drop off) = some p) : ∃ v, (part t cs off).run P w = .ok v w ∧ RV M w p v := by
  unfold leafVal at hp
  cases hd : isAggD d with
  | true =>
    rw [hd] at hp
    simp only [if_true] at hp
    split at hp
    · cases hp
      refine ⟨.agg (cs.extract off (off + inf.size)), ?_, ?_⟩
      · simp [part, run_isAgg ht, hd, sizeOf, typeInfo, hi]
      · simp only [RV]
        refine ⟨_, rfl, ?_⟩
        have := (hl.drop off).take inf.size
        have e : (cs.extract off (off + inf.size)).toList = (cs.toList.drop off).take inf.size := by
          rw [Array.toList_extract, List.extract_eq_take_drop]; simp
        rw [e]; exact this
    · cases hp
  | false =>
    rw [hd] at hp
    simp only [Bool.false_eq_true, if_false] at hp
    have hp' : ps[off]? = some p := by
      rw [List.head?_drop] at hp; exact hp
    obtain ⟨c, hc, hr⟩ := hl.get off hp'
    refine ⟨c, ?_, hr⟩
    have : cs[off]? = some c := by simpa using hc
    simp only [part, Sem.run_bind, run_isAgg ht, hd, Result.andThen_ok, Bool.false_eq_true, if_false, this]
    simp

theorem os_index {P : Program} {o : Oper} {ts : List PV} {t elem : TypeId} {x y : Operand} {len : Nat} {d : TypeDesc} {inf : TypeInfo} {ps : List PV} {p : PV} {k : IntKind} {n : Int} (ho : o.op = .index t x y) (ht : P.underlying t = some (.array len elem))
    (hd : P.underlying elem = some d) (hi : P.info? elem = some inf) (hx : aev ts x = .ag ps) (hy : aev ts y = .sc (.int k n)) (h0 : 0 ≤ n) (h1 : n < len) (hp : leafVal (isAggD d) inf.size (ps.drop (n.toNat * inf.size)) = some p) : OpSem P o (vE p) ts :=
  os_read rfl rfl fun w0 X S0 M s a w hr hl _ => by
    rw [ho] at hl
    have h2 := ev_of hr hl (x := x) (by simp [Op.operands]) hx
    have h3 := ev_of hr hl (x := y) (by simp [Op.operands]) hy
    simp only [RV] at h2 h3
    obtain ⟨cs, hv, hcs⟩ := h2
    obtain ⟨v, hrun, hrv⟩ := part_sound hd hi hcs hp
    refine ⟨v, ?_, hrv⟩
    simp [execOp, ho, hv, h3, Instr.index, run_underlying ht, asIntOf, sizeOf, typeInfo, hi, h0, h1, hrun]

theorem os_indexStr {P : Program} {o : Oper} {ts : List PV} {t : TypeId} {x y : Operand} {sb : ByteArray} {k : IntKind} {n : Int} {b : UInt8} (ho : o.op = .index t x y) (ht : P.underlying t = some .string)
    (hx : aev ts x = .sc (.string sb)) (hy : aev ts y = .sc (.int k n)) (h0 : 0 ≤ n) (hb : sb[n.toNat]? = some b) : OpSem P o (vE (.sc (.int .u8 b.toNat))) ts :=
  os_read rfl rfl fun w0 X S0 M s a w hr hl _ => by
    rw [ho] at hl
    have h2 := ev_of hr hl (x := x) (by simp [Op.operands]) hx
    have h3 := ev_of hr hl (x := y) (by simp [Op.operands]) hy
    simp only [RV] at h2 h3
    refine ⟨.int .u8 b.toNat, ?_, by simp [vE, RV]⟩
    simp [execOp, ho, h2, h3, Instr.index, run_underlying ht, asIntOf, h0, hb]

theorem os_field {P : Program} {o : Oper} {ts : List PV} {t : TypeId} {x : Operand} {i : Nat} {fs : Array Field} {f : Field} {d : TypeDesc} {inf : TypeInfo} {ps : List PV} {p : PV} (ho : o.op = .field t x i) (ht : P.underlying t = some (.struct fs)) (hf : fs[i]? = some f)
    (hd : P.underlying f.type = some d) (hi : P.info? f.type = some inf) (hx : aev ts x = .ag ps) (hp : leafVal (isAggD d) inf.size (ps.drop f.offset) = some p) : OpSem P o (vE p) ts :=
  os_read rfl rfl fun w0 X S0 M s a w hr hl _ => by
    rw [ho] at hl
    have h2 := ev_of hr hl (x := x) (by simp [Op.operands]) hx
    simp only [RV] at h2
    obtain ⟨cs, hv, hcs⟩ := h2
    obtain ⟨v, hrun, hrv⟩ := part_sound hd hi hcs hp
    refine ⟨v, ?_, hrv⟩
    simp [execOp, ho, hv, Instr.field, run_underlying ht, hf, asAgg, hrun]

theorem os_nilCheck {P : Program} {o : Oper} {ts : List PV} {x : Operand} {p q : PV} (ho : o.op = .nilCheck x) (hx : aev ts x = p) (hp : padd p 0 = some q) : OpSem P o (vE p) ts :=
  os_read rfl rfl fun w0 X S0 M s a w hr hl _ => by
    rw [ho] at hl
    have h1 := ev_of hr hl (x := x) (by simp [Op.operands]) hx
    obtain ⟨b, off, hv, _⟩ := padd_sound hp h1
    exact ⟨a.eval x, by simp [execOp, ho, hv], h1⟩

theorem os_makeFunc {P : Program} {o : Oper} {ts : List PV} {f : Nat} {caps : Array Operand} (ho : o.op = .makeFunc (.func f) #[] caps) : OpSem P o (vE (.cl f (caps.toList.map (aev ts)))) ts :=
  os_read rfl rfl fun w0 X S0 M s a w hr hl _ => by
    rw [ho] at hl
    refine ⟨.func (.func f) #[] (caps.map a.eval), by simp [execOp, ho, Instr.makeFunc], ?_⟩
    simp only [vE, RV]
    refine ⟨caps.map a.eval, rfl, ?_⟩
    have key : ∀ xs : List Operand, (∀ x ∈ xs, aev s.tmps x = aev ts x) → RVL M w (xs.map (aev ts)) (xs.map a.eval) := by
      intro xs
      induction xs with
      | nil => intro _; simp [RVL]
      | cons x xs ih =>
        intro hx
        simp only [List.map_cons, RVL]
        refine ⟨_, _, rfl, ?_, ih fun y hy => hx y (by simp [hy])⟩
        rw [← hx x (by simp)]
        exact hr.eval x
    simpa using key caps.toList (fun x hx => hl x (by simpa [Op.operands] using hx))

/-- A function with its first arguments bound. -/
theorem os_makeBound {P : Program} {o : Oper} {ts : List PV} {f : Nat} {caps : Array Operand} (ho : o.op = .makeFunc (.func f) caps #[]) : OpSem P o (vE (.cm f (caps.toList.map (aev ts)))) ts :=
  os_read rfl rfl fun w0 X S0 M s a w hr hl _ => by
    rw [ho] at hl
    refine ⟨.func (.func f) (caps.map a.eval) #[], by simp [execOp, ho, Instr.makeFunc], ?_⟩
    simp only [vE, RV]
    refine ⟨caps.map a.eval, rfl, ?_⟩
    have key : ∀ xs : List Operand, (∀ x ∈ xs, aev s.tmps x = aev ts x) → RVL M w (xs.map (aev ts)) (xs.map a.eval) := by
      intro xs
      induction xs with
      | nil => intro _; simp [RVL]
      | cons x xs ih =>
        intro hx
        simp only [List.map_cons, RVL]
        refine ⟨_, _, rfl, ?_, ih fun y hy => hx y (by simp [hy])⟩
        rw [← hx x (by simp)]
        exact hr.eval x
    simpa using key caps.toList (fun x hx => hl x (by simpa [Op.operands] using hx))

theorem os_len {P : Program} {o : Oper} {ts : List PV} {x : Operand} {t e : TypeId} {p : PV} {n : Nat} (ho : o.op = .call { callee := .builtin .len, args := #[x], argTypes := #[t] }) (ht : P.underlying t = some (.slice e)) (hx : aev ts x = p)
    (hn : (∃ sz rows, p = .sl sz rows ∧ n = rows.length) ∨ (p = .nl ∧ n = 0) ∨ ∃ k lo, p = .ow k lo n) : OpSem P o (vE (.sc (.int .i64 n))) ts :=
  os_read rfl rfl fun w0 X S0 M s a w hr hl _ => by
    rw [ho] at hl
    have h1 := ev_of hr hl (x := x) (by simp [Op.operands, Call.operands]) hx
    have hv : ∃ ad c, a.eval x = .slice ad n c := by
      rcases hn with ⟨sz, rows, rfl, rfl⟩ | ⟨rfl, rfl⟩ | ⟨k, lo, rfl⟩
      · simp only [RV] at h1
        obtain ⟨ad, m, c, h, rfl, _⟩ := h1
        exact ⟨ad, c, h⟩
      · simp only [RV] at h1
        obtain ⟨ad, h⟩ := h1
        exact ⟨ad, 0, h⟩
      · simp only [RV] at h1
        obtain ⟨L, _, ⟨_, rfl, ad, h⟩ | ⟨_, _, ad, h, _⟩⟩ := h1
        · exact ⟨ad, 0, h⟩
        · exact ⟨ad, _, h⟩
    obtain ⟨ad, c, hv⟩ := hv
    exact ⟨.int .i64 n, by simp [execOp, ho, resolve, invoke, builtin, Builtin.len_, run_underlying ht, hv, goInt], by simp [vE, RV]⟩

theorem os_lenStr {P : Program} {o : Oper} {ts : List PV} {x : Operand} {t : TypeId} {b : ByteArray} (ho : o.op = .call { callee := .builtin .len, args := #[x], argTypes := #[t] }) (ht : P.underlying t = some .string) (hx : aev ts x = .sc (.string b)) : OpSem P o (vE (.sc (.int .i64 b.size))) ts :=
  os_read rfl rfl fun w0 X S0 M s a w hr hl _ => by
    rw [ho] at hl
    have h1 := ev_of hr hl (x := x) (by simp [Op.operands, Call.operands]) hx
    simp only [RV] at h1
    exact ⟨.int .i64 b.size, by simp [execOp, ho, resolve, invoke, builtin, Builtin.len_, run_underlying ht, h1, goInt], by simp [vE, RV]⟩

theorem os_max {P : Program} {o : Oper} {ts : List PV} {x y : Operand} {tys : Array TypeId} {k k' : IntKind} {m n : Int} (ho : o.op = .call { callee := .builtin .max, args := #[x, y], argTypes := tys }) (hx : aev ts x = .sc (.int k m)) (hy : aev ts y = .sc (.int k' n)) : OpSem P o (vE (.sc (.int k (if n > m then n else m)))) ts :=
  os_read rfl rfl fun w0 X S0 M s a w hr hl _ => by
    rw [ho] at hl
    have h1 := ev_of hr hl (x := x) (by simp [Op.operands, Call.operands]) hx
    have h2 := ev_of hr hl (x := y) (by simp [Op.operands, Call.operands]) hy
    simp only [RV] at h1 h2
    exact ⟨.int k (if n > m then n else m), by simp [execOp, ho, resolve, invoke, builtin, Builtin.max_, Builtin.max2, h1, h2], by simp [vE, RV]⟩

theorem os_min {P : Program} {o : Oper} {ts : List PV} {x y : Operand} {tys : Array TypeId} {k k' : IntKind} {m n : Int} (ho : o.op = .call { callee := .builtin .min, args := #[x, y], argTypes := tys }) (hx : aev ts x = .sc (.int k m)) (hy : aev ts y = .sc (.int k' n)) : OpSem P o (vE (.sc (.int k (if n < m then n else m)))) ts :=
  os_read rfl rfl fun w0 X S0 M s a w hr hl _ => by
    rw [ho] at hl
    have h1 := ev_of hr hl (x := x) (by simp [Op.operands, Call.operands]) hx
    have h2 := ev_of hr hl (x := y) (by simp [Op.operands, Call.operands]) hy
    simp only [RV] at h1 h2
    exact ⟨.int k (if n < m then n else m), by simp [execOp, ho, resolve, invoke, builtin, Builtin.min_, Builtin.min2, h1, h2], by simp [vE, RV]⟩

/-- The lesser of two floats that are no NaN. -/
def fminW (o : Ordering) (a b : Nat) : Nat := match o with
  | .lt => a
  | .gt => b
  | .eq => if (FloatKind.f64.decode a).neg then a else b
theorem os_minF {P : Program} {o : Oper} {ts : List PV} {x y : Operand} {tys : Array TypeId} {a b : Nat} {q : Ordering} (ho : o.op = .call { callee := .builtin .min, args := #[x, y], argTypes := tys }) (hx : aev ts x = .sc (.float .f64 a)) (hy : aev ts y = .sc (.float .f64 b)) (hq : FloatKind.f64.format.order a b = some q) : OpSem P o (vE (.sc (.float .f64 (fminW q a b)))) ts :=
  os_read rfl rfl fun w0 X S0 M s ac w hr hl _ => by
    rw [ho] at hl
    have h1 := ev_of hr hl (x := x) (by simp [Op.operands, Call.operands]) hx
    have h2 := ev_of hr hl (x := y) (by simp [Op.operands, Call.operands]) hy
    simp only [RV] at h1 h2
    exact ⟨.float .f64 (fminW q a b), by cases q <;> simp [execOp, ho, resolve, invoke, builtin, Builtin.min_, Builtin.min2, h1, h2, hq, fminW], by simp [vE, RV]⟩

end Go.Pv

/-
  Compound values, slices of slices, equality of structs, append. Generic over the program.
-/
namespace Go.Pv

/-! ### Composite literals -/

def pfill (place : Nat → Option (Nat × Nat)) (ls : List PV) : List (Nat × PV) → Option (List PV)
  | [] => some ls
  | (i, p) :: rest =>
    match place i with
    | none => none
    | some (off, size) => if (leaves p).all leaf1 && (leaves p).length == size && off + size ≤ ls.length then pfill place (splice ls off (leaves p)) rest else none

theorem fold_set (off : Nat) : ∀ (vs : List Value) (j : Nat) (cells : Array Value), off + j + vs.length ≤ cells.size →
    ((vs.zipIdx j).foldl (fun (cs : Array Value) (x : Value × Nat) => cs.setIfInBounds (off + x.2) x.1) cells).toList = cells.toList.take (off + j) ++ vs ++ cells.toList.drop (off + j + vs.length)
  | [], j, cells, _ => by simp
  | v :: vs, j, cells, h => by
    simp only [List.length_cons] at h
    simp only [List.zipIdx_cons, List.foldl_cons]
    rw [fold_set off vs (j + 1) _ (by simp; omega)]
    have e := list_seg_step cells.toList (off + j) v vs (by simp; omega)
    simpa [Array.toList_setIfInBounds, Nat.add_assoc, Nat.add_comm 1] using e

theorem pfill_sound {M : Mem} {w : World} {place : Nat → Option (Nat × Nat)} : ∀ {parts : List (Nat × PV)} {rparts : List (Nat × Value)} {ls : List PV} {cs : Array Value} {ls' : List PV},
    pfill place ls parts = some ls' → RVL M w ls cs.toList → rparts.map (·.1) = parts.map (·.1) → RVL M w (parts.map (·.2)) (rparts.map (·.2)) → ls.all leaf1 = true →
    (∀ p ∈ parts, (leaves p.2).all leaf1 = true → ∀ v, RV M w p.2 v → RVL M w (leaves p.2) v.cells.toList) →
    ∃ cs', Instr.fill place cs rparts = some cs' ∧ RVL M w ls' cs'.toList
  | [], rparts, ls, cs, ls', h, hl, h1, h2, _, _ => by
    simp only [pfill] at h; cases h
    have : rparts = [] := by cases rparts <;> simp_all
    subst this
    exact ⟨cs, rfl, hl⟩
  | (i, p) :: rest, rparts, ls, cs, ls', h, hl, h1, h2, ha, hlv => by
    cases rparts with
    | nil => simp at h1
    | cons rp rr =>
      obtain ⟨i', v⟩ := rp
      simp only [List.map_cons, List.cons.injEq] at h1
      obtain ⟨rfl, h1⟩ := h1
      simp only [List.map_cons, RVL] at h2
      obtain ⟨c, r, hcr, hv, h2⟩ := h2
      simp only [List.cons.injEq] at hcr
      obtain ⟨rfl, rfl⟩ := hcr
      simp only [pfill] at h
      cases hp : place i' with
      | none => simp [hp] at h
      | some os =>
        obtain ⟨off, size⟩ := os
        simp only [hp] at h
        split at h
        · rename_i hc
          simp only [Bool.and_eq_true, beq_iff_eq, decide_eq_true_eq] at hc
          obtain ⟨⟨c1, c2⟩, c3⟩ := hc
          have hlv' := leaves_sound c1 hv
          have hlen : v.cells.size = size := by have := hlv'.length; simp at this; omega
          have hcsz : cs.size = ls.length := by have := hl.length; simpa using this
          have hfold := fold_set off v.cells.toList 0 cs (by simp; omega)
          have hR := RVL.splice off hl hlv'
          simp only [Nat.add_zero] at hfold
          rw [← hfold] at hR
          have hall : (splice ls off (leaves p)).all leaf1 = true := by
            unfold splice
            rw [List.all_append, List.all_append]
            simp only [Bool.and_eq_true]
            refine ⟨⟨?_, c1⟩, ?_⟩
            · rw [List.all_eq_true] at ha ⊢; exact fun x hx => ha x (List.mem_of_mem_take hx)
            · rw [List.all_eq_true] at ha ⊢; exact fun x hx => ha x (List.mem_of_mem_drop hx)
          obtain ⟨cs', h3, h4⟩ := pfill_sound (rparts := rr) h hR h1 h2 hall (fun q hq => hlv q (by simp [hq]))
          refine ⟨cs', ?_, h4⟩
          simp only [Instr.fill, hp]
          rw [if_neg (by simp; omega)]
          rw [← h3]
          congr 1
          rw [← Array.foldl_toList, Array.toList_zipIdx]
        · cases h

def placesOf (P : Program) (t : TypeId) : Option (Nat → Option (Nat × Nat)) :=
  match P.underlying t with
  | some (.array _ e) => match P.info? e with
    | some ie => some fun i => some (i * ie.size, ie.size)
    | none => none
  | some (.struct fields) => match fields.toList.mapM (fun f => (P.info? f.type).map fun i => (f.offset, i.size)) with
    | some places => some fun i => places.toArray[i]?
    | none => none
  | _ => none

def zeroT (P : Program) (t : TypeId) : Option Value := match P.info? t with | some i => i.zero | none => none

theorem zleaf1 (v : Value) (h : v.oneCell' = true) : leaf1 (zleaf v) = true := by
  unfold zleaf
  split
  · rfl
  · exact h

theorem map_eval {w0 : World} {X : Nat → Prop} {S0 : Base} {M : Mem} {s : St} {a : Act} {w : World} (hr : Rel w0 X S0 M s a w) (ts : List PV) : ∀ xs : List Operand, (∀ x ∈ xs, aev s.tmps x = aev ts x) → RVL M w (xs.map (aev ts)) (xs.map a.eval)
  | [], _ => by simp [RVL]
  | x :: xs, h => by
    simp only [List.map_cons, RVL]
    refine ⟨_, _, rfl, ?_, map_eval hr ts xs fun y hy => h y (by simp [hy])⟩
    rw [← h x (by simp)]
    exact hr.eval x

theorem os_build {P : Program} {o : Oper} {ts : List PV} {t : TypeId} {parts : Array (Nat × Operand)} {z : Value} {place : Nat → Option (Nat × Nat)} {ls : List PV} (ho : o.op = .build t parts) (hz : zeroT P t = some z) (hp : placesOf P t = some place)
    (hz1 : (z.cells.toList.map zleaf).all leaf1 = true) (hf : pfill place (z.cells.toList.map zleaf) (parts.toList.map fun p => (p.1, aev ts p.2)) = some ls) : OpSem P o (vE (.ag ls)) ts :=
  os_read rfl rfl fun w0 X S0 M s a w hr hl _ => by
    rw [ho] at hl
    have hmap := map_eval hr ts (parts.toList.map (·.2)) (fun x hx => hl x (by simpa [Op.operands] using hx))
    obtain ⟨cs', h1, h2⟩ := pfill_sound (M := M) (w := w) (rparts := parts.toList.map fun p => (p.1, a.eval p.2)) (cs := z.cells) hf (zleaves_sound _) (by simp) (by simp only [List.map_map] at hmap ⊢; exact hmap) hz1 (fun p _ hp v hv => leaves_sound hp hv)
    refine ⟨.agg cs', ?_, by simp only [vE, RV]; exact ⟨cs', rfl, h2⟩⟩
    have hbuilt : P.built t (parts.toList.map fun p => (p.1, a.eval p.2)) = some cs' := by
      unfold Program.built
      unfold zeroT at hz
      unfold placesOf at hp
      cases hit : P.info? t with
      | none => simp [hit] at hz
      | some it =>
        simp only [hit] at hz
        cases hu : P.underlying t with
        | none => simp [hu] at hp
        | some d =>
          cases d <;> try (simp [hu] at hp; done)
          case array n e =>
            simp only [hu] at hp
            cases hie : P.info? e with
            | none => simp [hie] at hp
            | some ie => simp only [hie] at hp; cases hp; simp only [hz, hie]; exact h1
          case struct fields =>
            simp only [hu] at hp
            cases hm : fields.toList.mapM (fun f => (P.info? f.type).map fun i => (f.offset, i.size)) with
            | none => simp [hm] at hp
            | some places => simp only [hm] at hp; cases hp; simp only [hz, hm]; exact h1
    have := run_build (P := P) w t (parts.map fun p => (p.1, a.eval p.2)) cs' (by simpa using hbuilt)
    simp only [execOp, ho, Sem.run_bind]
    simp [this]

/-- The rows of a flat list. -/
def chunk (sz : Nat) : Nat → List PV → List (List PV)
  | 0, _ => []
  | n + 1, ls => ls.take sz :: chunk sz n (ls.drop sz)

theorem chunk_sound {M : Mem} {w : World} {sz : Nat} : ∀ (n : Nat) {ls : List PV} {cs : List Value}, RVL M w ls cs → n * sz ≤ ls.length → RVR M w sz (chunk sz n ls) cs
  | 0, ls, cs, _, _ => by simp [chunk, RVR]
  | n + 1, ls, cs, h, hl => by
    simp only [Nat.add_mul, Nat.one_mul] at hl
    simp only [chunk, RVR]
    refine ⟨cs.take sz, cs.drop sz, (List.take_append_drop _ _).symm, by simp; omega, h.take sz, chunk_sound n (h.drop sz) (by simp; omega)⟩

theorem chunk_length (sz : Nat) : ∀ (n : Nat) (ls : List PV), (chunk sz n ls).length = n
  | 0, _ => rfl
  | n + 1, ls => by simp [chunk, chunk_length sz n]

theorem os_buildSliceG {P : Program} {o : Oper} {ts : List PV} {t e : TypeId} {len : Nat} {parts : Array (Nat × Operand)} {inf : TypeInfo} {z : Value} {ls : List PV} (ho : o.op = .buildSlice t len parts) (ht : P.underlying t = some (.slice e)) (hi : P.info? e = some inf) (hz : inf.zero = some z)
    (hzs : z.cells.size = inf.size) (hpos : 0 < len * inf.size) (hsm : len * inf.size ≤ 2 ^ 24) (hz1 : (z.cells.toList.map zleaf).all leaf1 = true)
    (hf : pfill (fun i => some (i * inf.size, inf.size)) (List.replicate len (z.cells.toList.map zleaf)).flatten (parts.toList.map fun p => (p.1, aev ts p.2)) = some ls) (hlen : ls.length = len * inf.size) {q : PV} (hq : ∀ (M : Mem) (w : World) (b : Nat) (cs : List Value), M.st b → Cells w b 0 cs → RVL M w ls cs → RV M w q (.slice (some ⟨b, 0, none⟩) len len)) : OpSem P o (vE q) ts := by
  intro w0 X S0 M s a w Q K hr hl hs hk
  rw [ho] at hl
  have hmap := map_eval hr ts (parts.toList.map (·.2)) (fun x hx => hl x (by simpa [Op.operands] using hx))
  have hrep : ∀ n, RVL M w (List.replicate n (z.cells.toList.map zleaf)).flatten (List.replicate n z.cells.toList).flatten := by
    intro n
    induction n with
    | zero => simp [RVL]
    | succ n ih => simp only [List.replicate_succ, List.flatten_cons]; exact (zleaves_sound _).append ih
  have hall : ∀ n, (List.replicate n (z.cells.toList.map zleaf)).flatten.all leaf1 = true := by
    intro n
    induction n with
    | zero => rfl
    | succ n ih => simp only [List.replicate_succ, List.flatten_cons, List.all_append, hz1, ih, Bool.and_true]
  have hzz : (Array.range (len * inf.size)).map (z.cells[· % z.cells.size]!) = ((List.replicate len z.cells.toList).flatten).toArray := by
    rw [hzs]
    have hsz : 0 < inf.size := Nat.pos_of_mul_pos_left hpos
    apply Array.ext'
    simp only [Array.toList_map, Array.toList_range]
    apply List.ext_getElem?
    intro i
    clear hf hpos hsm hlen hall hrep ho
    rw [List.getElem?_map]
    have key : ∀ (n i : Nat), ((List.replicate n z.cells.toList).flatten)[i]? = if i < n * inf.size then z.cells.toList[i % inf.size]? else none := by
      intro n
      induction n with
      | zero => intro i; simp
      | succ n ih =>
        intro i
        simp only [List.replicate_succ, List.flatten_cons]
        rw [List.getElem?_append]
        have hl2 : z.cells.toList.length = inf.size := by simpa using hzs
        by_cases h : i < inf.size
        · rw [if_pos (by omega), if_pos (by rw [Nat.add_mul]; omega), Nat.mod_eq_of_lt h]
        · rw [if_neg (by omega), ih, hl2]
          have e1 : (i - inf.size) % inf.size = i % inf.size := by
            conv => rhs; rw [show i = (i - inf.size) + inf.size by omega, Nat.add_mod_right]
          rw [e1]
          by_cases h2 : i - inf.size < n * inf.size
          · rw [if_pos h2, if_pos (by rw [Nat.add_mul]; omega)]
          · rw [if_neg h2, if_neg (by rw [Nat.add_mul]; omega)]
    rw [key]
    by_cases h : i < len * inf.size
    · have hm : i % inf.size < z.cells.size := by rw [hzs]; exact Nat.mod_lt _ hsz
      rw [if_pos h, List.getElem?_range h]
      simp [hm]
    · rw [if_neg h, List.getElem?_eq_none (by simp; omega)]
      rfl
  obtain ⟨cs', h1, h2⟩ := pfill_sound (M := M) (w := w) (rparts := parts.toList.map fun p => (p.1, a.eval p.2)) (cs := ((List.replicate len z.cells.toList).flatten).toArray) hf (by simpa using hrep len) (by simp) (by simp only [List.map_map] at hmap ⊢; exact hmap) (hall len) (fun p _ hp v hv => leaves_sound hp hv)
  obtain ⟨M', hnew, hle, hst⟩ := hr.toHRel.allocSt (.cells cs' e)
  unfold Oper.wp
  have hne : ¬ (len * inf.size = 0) := by omega
  have hno : ¬ (len * inf.size > 2 ^ 24) := by omega
  have hno' : ¬ (16777216 < len * inf.size) := by simpa using hno
  have hex : (execOp a.eval o).run P w = .ok (.value (.slice (some ⟨w.heap.size, 0, none⟩) len len)) (w.alloc (.cells cs' e)) := by
    have hzz' : Array.map (fun x => z.cells[x % z.cells.size]!) (Array.range (len * inf.size)) = ((List.replicate len z.cells.toList).flatten).toArray := hzz
    simp [execOp, ho, Instr.buildSlice, run_underlying ht, sizeOf, typeInfo, hi, hz, zeroValue, hno', newRow, newObj]
    rw [hzz', h1]
    simp [Sem.run]
    exact fun e => absurd e hne
  rw [hex, Oper.upon_value]
  refine hk M' _ _ ?_
  have hr' : Rel w0 X S0 M' s a (w.alloc (.cells cs' e)) := ⟨hnew, hr.dfr, hr.len, fun t => RV.mono hle _ _ (hr.tmp t)⟩
  have := rel_put hr' o.dst (p := q) (v := .slice (some ⟨w.heap.size, 0, none⟩) len len) (hq M' _ w.heap.size cs'.toList hst (Cells.of_block (heap_alloc_eq w _)) (RVL.mono hle _ _ h2))
  simpa [St.apply, upd_nil, vE] using this

/-- A literal with the call's own slices: a variable of its own, as a slice. -/
theorem os_buildBox {P : Program} {o : Oper} {ts : List PV} {t e : TypeId} {len : Nat} {parts : Array (Nat × Operand)} {inf : TypeInfo} {z : Value} {ls : List PV} (ho : o.op = .buildSlice t len parts) (ht : P.underlying t = some (.slice e)) (hi : P.info? e = some inf) (hz : inf.zero = some z)
    (hzs : z.cells.size = inf.size) (hpos : 0 < len * inf.size) (hsm : len * inf.size ≤ 2 ^ 24) (hz1 : (z.cells.toList.map zleaf).all leaf1 = true)
    (hf : pfill (fun i => some (i * inf.size, inf.size)) (List.replicate len (z.cells.toList.map zleaf)).flatten (parts.toList.map fun p => (p.1, aev ts p.2)) = some ls) (hlen : ls.length = len * inf.size) {d : Nat} : OpSem P o ⟨.bs d 0 len, [], [], [d], [], [(d, ls)], []⟩ ts := by
  intro w0 X S0 M s a w Q K hr hl hs hk
  rw [ho] at hl
  have hmap := map_eval hr ts (parts.toList.map (·.2)) (fun x hx => hl x (by simpa [Op.operands] using hx))
  have hrep : ∀ n, RVL M w (List.replicate n (z.cells.toList.map zleaf)).flatten (List.replicate n z.cells.toList).flatten := by
    intro n
    induction n with
    | zero => simp [RVL]
    | succ n ih => simp only [List.replicate_succ, List.flatten_cons]; exact (zleaves_sound _).append ih
  have hall : ∀ n, (List.replicate n (z.cells.toList.map zleaf)).flatten.all leaf1 = true := by
    intro n
    induction n with
    | zero => rfl
    | succ n ih => simp only [List.replicate_succ, List.flatten_cons, List.all_append, hz1, ih, Bool.and_true]
  have hzz : (Array.range (len * inf.size)).map (z.cells[· % z.cells.size]!) = ((List.replicate len z.cells.toList).flatten).toArray := by
    rw [hzs]
    have hsz : 0 < inf.size := Nat.pos_of_mul_pos_left hpos
    apply Array.ext'
    simp only [Array.toList_map, Array.toList_range]
    apply List.ext_getElem?
    intro i
    clear hf hpos hsm hlen hall hrep ho
    rw [List.getElem?_map]
    have key : ∀ (n i : Nat), ((List.replicate n z.cells.toList).flatten)[i]? = if i < n * inf.size then z.cells.toList[i % inf.size]? else none := by
      intro n
      induction n with
      | zero => intro i; simp
      | succ n ih =>
        intro i
        simp only [List.replicate_succ, List.flatten_cons]
        rw [List.getElem?_append]
        have hl2 : z.cells.toList.length = inf.size := by simpa using hzs
        by_cases h : i < inf.size
        · rw [if_pos (by omega), if_pos (by rw [Nat.add_mul]; omega), Nat.mod_eq_of_lt h]
        · rw [if_neg (by omega), ih, hl2]
          have e1 : (i - inf.size) % inf.size = i % inf.size := by
            conv => rhs; rw [show i = (i - inf.size) + inf.size by omega, Nat.add_mod_right]
          rw [e1]
          by_cases h2 : i - inf.size < n * inf.size
          · rw [if_pos h2, if_pos (by rw [Nat.add_mul]; omega)]
          · rw [if_neg h2, if_neg (by rw [Nat.add_mul]; omega)]
    rw [key]
    by_cases h : i < len * inf.size
    · have hm : i % inf.size < z.cells.size := by rw [hzs]; exact Nat.mod_lt _ hsz
      rw [if_pos h, List.getElem?_range h]
      simp [hm]
    · rw [if_neg h, List.getElem?_eq_none (by simp; omega)]
      rfl
  obtain ⟨cs', h1, h2⟩ := pfill_sound (M := M) (w := w) (rparts := parts.toList.map fun p => (p.1, a.eval p.2)) (cs := ((List.replicate len z.cells.toList).flatten).toArray) hf (by simpa using hrep len) (by simp) (by simp only [List.map_map] at hmap ⊢; exact hmap) (hall len) (fun p _ hp v hv => leaves_sound hp hv)
  obtain ⟨M', hnew, hle, hbx⟩ := hr.toHRel.allocBox (d := d) (hs.2.2.1 d (by simp)) cs' e h2
  unfold Oper.wp
  have hne : ¬ (len * inf.size = 0) := by omega
  have hno : ¬ (len * inf.size > 2 ^ 24) := by omega
  have hno' : ¬ (16777216 < len * inf.size) := by simpa using hno
  have hex : (execOp a.eval o).run P w = .ok (.value (.slice (some ⟨w.heap.size, 0, none⟩) len len)) (w.alloc (.cells cs' e)) := by
    have hzz' : Array.map (fun x => z.cells[x % z.cells.size]!) (Array.range (len * inf.size)) = ((List.replicate len z.cells.toList).flatten).toArray := hzz
    simp [execOp, ho, Instr.buildSlice, run_underlying ht, sizeOf, typeInfo, hi, hz, zeroValue, hno', newRow, newObj]
    rw [hzz', h1]
    simp [Sem.run]
    exact fun e => absurd e hne
  rw [hex, Oper.upon_value]
  refine hk M' _ _ ?_
  have hr' : Rel w0 X S0 M' ⟨s.tmps, upd s.B [(d, ls)], s.O⟩ a (w.alloc (.cells cs' e)) := ⟨hnew, hr.dfr, hr.len, fun t => RV.mono hle _ _ (hr.tmp t)⟩
  have := rel_put hr' o.dst (p := .bs d 0 len) (v := .slice (some ⟨w.heap.size, 0, none⟩) len len) (by simp only [RV]; exact ⟨_, hbx, rfl⟩)
  simpa [St.apply, upd_nil] using this

theorem os_lenBs {P : Program} {o : Oper} {ts : List PV} {x : Operand} {t e : TypeId} {k off n : Nat} (ho : o.op = .call { callee := .builtin .len, args := #[x], argTypes := #[t] }) (ht : P.underlying t = some (.slice e)) (hx : aev ts x = .bs k off n) : OpSem P o (vE (.sc (.int .i64 n))) ts :=
  os_read rfl rfl fun w0 X S0 M s a w hr hl _ => by
    rw [ho] at hl
    have h1 := ev_of hr hl (x := x) (by simp [Op.operands, Call.operands]) hx
    simp only [RV] at h1
    obtain ⟨b, hb, hv⟩ := h1
    exact ⟨.int .i64 n, by simp [execOp, ho, resolve, invoke, builtin, Builtin.len_, run_underlying ht, hv, goInt], by simp [vE, RV]⟩

theorem os_indexBs {P : Program} {o : Oper} {ts : List PV} {t elem : TypeId} {x y : Operand} {inf : TypeInfo} {key off len : Nat} {k : IntKind} {n : Int} (ho : o.op = .indexAddr t x y) (ht : P.underlying t = some (.slice elem))
    (hi : P.info? elem = some inf) (hx : aev ts x = .bs key off len) (hy : aev ts y = .sc (.int k n)) (h0 : 0 ≤ n) (h1 : n < (len : Int)) : OpSem P o (vE (.pt key (off + n.toNat * inf.size))) ts :=
  os_read rfl rfl fun w0 X S0 M s a w hr hl _ => by
    rw [ho] at hl
    have h2 := ev_of hr hl (x := x) (by simp [Op.operands]) hx
    have h3 := ev_of hr hl (x := y) (by simp [Op.operands]) hy
    simp only [RV] at h2 h3
    obtain ⟨b, hb, hv⟩ := h2
    refine ⟨.pointer (some ⟨b, off + n.toNat * inf.size, none⟩), ?_, ?_⟩
    · simp [execOp, ho, hv, h3, Instr.indexAt, run_underlying ht, asIntOf, Instr.sureAddr, sizeOf, typeInfo, hi, h0, h1, Addr.add_lit]
    · simp only [vE, RV]
      exact ⟨b, hb, rfl⟩

theorem os_buildSlice {P : Program} {o : Oper} {ts : List PV} {t e : TypeId} {len : Nat} {parts : Array (Nat × Operand)} {inf : TypeInfo} {z : Value} {ls : List PV} (ho : o.op = .buildSlice t len parts) (ht : P.underlying t = some (.slice e)) (hi : P.info? e = some inf) (hz : inf.zero = some z)
    (hzs : z.cells.size = inf.size) (hpos : 0 < len * inf.size) (hsm : len * inf.size ≤ 2 ^ 24) (hz1 : (z.cells.toList.map zleaf).all leaf1 = true)
    (hf : pfill (fun i => some (i * inf.size, inf.size)) (List.replicate len (z.cells.toList.map zleaf)).flatten (parts.toList.map fun p => (p.1, aev ts p.2)) = some ls) (hlen : ls.length = len * inf.size) (hpl : plainL ls = true) : OpSem P o (vE (.sl inf.size (chunk inf.size len ls))) ts :=
  os_buildSliceG ho ht hi hz hzs hpos hsm hz1 hf hlen fun M w b cs hb hc hl => by
    simp only [RV]
    exact ⟨_, len, len, rfl, by rw [chunk_length], Nat.le_refl _, .inr ⟨b, 0, cs, rfl, hb, hc, chunk_sound len (RVL.toCl _ _ hpl hl) (by omega)⟩⟩

theorem os_buildSliceK {P : Program} {o : Oper} {ts : List PV} {t e : TypeId} {len : Nat} {parts : Array (Nat × Operand)} {inf : TypeInfo} {z : Value} {ls : List PV} (ho : o.op = .buildSlice t len parts) (ht : P.underlying t = some (.slice e)) (hi : P.info? e = some inf) (hz : inf.zero = some z)
    (hzs : z.cells.size = inf.size) (hpos : 0 < len * inf.size) (hsm : len * inf.size ≤ 2 ^ 24) (hz1 : (z.cells.toList.map zleaf).all leaf1 = true)
    (hf : pfill (fun i => some (i * inf.size, inf.size)) (List.replicate len (z.cells.toList.map zleaf)).flatten (parts.toList.map fun p => (p.1, aev ts p.2)) = some ls) (hlen : ls.length = len * inf.size) : OpSem P o (vE (.ls inf.size (chunk inf.size len ls))) ts :=
  os_buildSliceG ho ht hi hz hzs hpos hsm hz1 hf hlen fun M w b cs hb hc hl => by
    simp only [RV]
    exact ⟨b, cs, by rw [chunk_length], hb, hc, chunk_sound len hl (by omega)⟩

theorem os_indexLs {P : Program} {o : Oper} {ts : List PV} {t elem : TypeId} {x y : Operand} {inf : TypeInfo} {sz : Nat} {rows : List (List PV)} {k : IntKind} {n : Int} {row : List PV} (ho : o.op = .indexAddr t x y) (ht : P.underlying t = some (.slice elem))
    (hi : P.info? elem = some inf) (hsz : inf.size = sz) (hx : aev ts x = .ls sz rows) (hy : aev ts y = .sc (.int k n)) (h0 : 0 ≤ n) (hrow : rows[n.toNat]? = some row) : OpSem P o (vE (.lp row)) ts :=
  os_read rfl rfl fun w0 X S0 M s a w hr hl _ => by
    rw [ho] at hl
    have h2 := ev_of hr hl (x := x) (by simp [Op.operands]) hx
    have h3 := ev_of hr hl (x := y) (by simp [Op.operands]) hy
    simp only [RV] at h2 h3
    obtain ⟨b, cs, hv, hst, hc, hR⟩ := h2
    have hlt : n.toNat < rows.length := (List.getElem?_eq_some_iff.1 hrow).1
    obtain ⟨r1, r2, r3⟩ := hR.row n.toNat hrow
    refine ⟨.pointer (some ⟨b, 0 + n.toNat * sz, none⟩), ?_, ?_⟩
    · have hn : n < rows.length := by omega
      simp [execOp, ho, hv, h3, Instr.indexAt, run_underlying ht, asIntOf, Instr.sureAddr, sizeOf, typeInfo, hi, h0, hn, Addr.add_lit, hsz]
    · simp only [vE, RV]
      exact ⟨b, 0 + n.toNat * sz, _, rfl, hst, (hc.drop (n.toNat * sz)).take sz, r2⟩

theorem os_loadLp {P : Program} {o : Oper} {ts : List PV} {t : TypeId} {d : TypeDesc} {inf : TypeInfo} {x : Operand} {sfx : List PV} {p : PV} (ho : o.op = .load t x) (ht : P.underlying t = some d) (hi : P.info? t = some inf) (hx : aev ts x = .lp sfx) (hp : leafVal (isAggD d) inf.size sfx = some p) : OpSem P o (vE p) ts :=
  os_read rfl rfl fun w0 X S0 M s a w hr hl _ => by
    rw [ho] at hl
    have h2 := ev_of hr hl (x := x) (by simp [Op.operands]) hx
    simp only [RV] at h2
    obtain ⟨b, off, cs, hv, hst, hc, hR⟩ := h2
    obtain ⟨v, h3, h4⟩ := load_sound (P := P) ht hi hc hR hp
    refine ⟨v, ?_, h4⟩
    simp [execOp, ho, hv, Instr.loadAt, Instr.sureAddr, h3]

theorem os_lenLs {P : Program} {o : Oper} {ts : List PV} {x : Operand} {t e : TypeId} {sz : Nat} {rows : List (List PV)} (ho : o.op = .call { callee := .builtin .len, args := #[x], argTypes := #[t] }) (ht : P.underlying t = some (.slice e)) (hx : aev ts x = .ls sz rows) : OpSem P o (vE (.sc (.int .i64 rows.length))) ts :=
  os_read rfl rfl fun w0 X S0 M s a w hr hl _ => by
    rw [ho] at hl
    have h1 := ev_of hr hl (x := x) (by simp [Op.operands, Call.operands]) hx
    simp only [RV] at h1
    obtain ⟨b, cs, hv, _⟩ := h1
    exact ⟨.int .i64 rows.length, by simp [execOp, ho, resolve, invoke, builtin, Builtin.len_, run_underlying ht, hv, goInt], by simp [vE, RV]⟩

theorem os_buildNil {P : Program} {o : Oper} {ts : List PV} {t e : TypeId} {inf : TypeInfo} (ho : o.op = .buildSlice t 0 #[]) (ht : P.underlying t = some (.slice e)) (hi : P.info? e = some inf) : OpSem P o (vE .nl) ts := by
  intro w0 X S0 M s a w Q K hr hl hs hk
  obtain ⟨M', hnew, hle, hst⟩ := hr.toHRel.allocSt (.cells #[] e)
  unfold Oper.wp
  have hex : (execOp a.eval o).run P w = .ok (.value (.slice (some ⟨w.heap.size, 0, none⟩) 0 0)) (w.alloc (.cells #[] e)) := by
    simp [execOp, ho, Instr.buildSlice, run_underlying ht, sizeOf, typeInfo, hi, newRow, newObj, Sem.run, Instr.fill]
    congr 2
    apply Array.ext'
    simp
  rw [hex, Oper.upon_value]
  refine hk M' _ _ ?_
  have hr' : Rel w0 X S0 M' s a (w.alloc (.cells #[] e)) := ⟨hnew, hr.dfr, hr.len, fun t => RV.mono hle _ _ (hr.tmp t)⟩
  have := rel_put hr' o.dst (p := .nl) (v := .slice (some ⟨w.heap.size, 0, none⟩) 0 0) (by simp only [RV]; exact ⟨_, rfl⟩)
  simpa [St.apply, upd_nil, vE] using this

end Go.Pv

/-
  Slices of slices, equality of structs, append, elements that are written. Generic over the program.
-/
namespace Go.Pv

/-! ### Slices of slices -/

/-- What a bound is, if it is an int. -/
def bndV (ts : List PV) : Option Operand → Int → Option Int
  | none, d => some d
  | some x, _ => match aev ts x with
    | .sc (.int _ n) => some n
    | _ => none

theorem run_sliceBound {P : Program} {w : World} {k : IntKind} {n : Int} {y : Nat} {c : BoundsCode} (h0 : 0 ≤ n) (h1 : n ≤ y) : (Instr.sliceBound (.int k n) y c).run P w = .ok n.toNat w := by
  simp [Instr.sliceBound, asIntOf, h0, h1]

theorem bnd_sound {w0 : World} {X : Nat → Prop} {S0 : Base} {M : Mem} {s : St} {a : Act} {w : World} {ts : List PV} {x : Operand} {d n : Int} {xs : List Operand} (hr : Rel w0 X S0 M s a w) (hl : ∀ x ∈ xs, aev s.tmps x = aev ts x) (hx : x ∈ xs) (h : bndV ts (some x) d = some n) : ∃ k, a.eval x = .int k n := by
  unfold bndV at h
  split at h
  · cases ‹some x = none›
  · rename_i x' _ e
    cases e
    split at h
    · rename_i k n' he
      cases h
      have := ev_of hr hl hx he
      simp only [RV] at this
      exact ⟨k, this⟩
    · cases h

theorem run_sliceBounds {P : Program} {w0 : World} {X : Nat → Prop} {S0 : Base} {M : Mem} {s : St} {a : Act} {w : World} {ts : List PV} {lo hi : Option Operand} {l h : Int} {len cap : Nat} {xs : List Operand} (hr : Rel w0 X S0 M s a w) (hag : ∀ x ∈ xs, aev s.tmps x = aev ts x)
    (hlo : ∀ x, lo = some x → x ∈ xs) (hhi : ∀ x, hi = some x → x ∈ xs) (hl : bndV ts lo 0 = some l) (hh : bndV ts hi len = some h) (h0 : 0 ≤ l) (h1 : l ≤ h) (h2 : h ≤ len) (hc : len ≤ cap) (b : Bool) :
    (Instr.sliceBounds b len cap (lo.map a.eval) (hi.map a.eval) none).run P w = .ok (l.toNat, h.toNat, cap) w := by
  have hhn : h.toNat ≤ cap := by omega
  have hhc : h ≤ (cap : Int) := by omega
  cases hi with
  | none =>
    simp only [bndV, Option.some.injEq] at hh
    subst hh
    cases lo with
    | none =>
      simp only [bndV, Option.some.injEq] at hl
      subst hl
      simp [Instr.sliceBounds]
    | some x =>
      obtain ⟨k, hx⟩ := bnd_sound hr hag (hlo x rfl) hl
      simp [Instr.sliceBounds, hx, run_sliceBound h0 h1]
  | some y =>
    obtain ⟨ky, hy⟩ := bnd_sound hr hag (hhi y rfl) hh
    have hb : ∀ c, (Instr.sliceBound (.int ky h) cap c).run P w = .ok h.toNat w := fun c => run_sliceBound (by omega) hhc
    cases lo with
    | none =>
      simp only [bndV, Option.some.injEq] at hl
      subst hl
      simp [Instr.sliceBounds, hy, hb]
    | some x =>
      obtain ⟨k, hx⟩ := bnd_sound hr hag (hlo x rfl) hl
      simp [Instr.sliceBounds, hx, hy, hb, run_sliceBound (y := h.toNat) h0 (by omega : l ≤ (h.toNat : Int))]

theorem os_sliceSl {P : Program} {o : Oper} {ts : List PV} {t elem : TypeId} {x : Operand} {lo hi : Option Operand} {inf : TypeInfo} {sz : Nat} {rows : List (List PV)} {l h : Int} (ho : o.op = .slice t x lo hi none) (ht : P.underlying t = some (.slice elem))
    (hi' : P.info? elem = some inf) (hsz : inf.size = sz) (hx : aev ts x = .sl sz rows) (hl : bndV ts lo 0 = some l) (hh : bndV ts hi rows.length = some h) (h0 : 0 ≤ l) (h1 : l ≤ h) (h2 : h ≤ rows.length) :
    OpSem P o (vE (.sl sz ((rows.take h.toNat).drop l.toNat))) ts :=
  os_read rfl rfl fun w0 X S0 M s a w hr hag _ => by
    rw [ho] at hag
    have hv := ev_of hr hag (x := x) (by simp [Op.operands]) hx
    simp only [RV] at hv
    obtain ⟨ad, m, c, hv, rfl, hc, hcase⟩ := hv
    have hb := run_sliceBounds (P := P) (len := rows.length) (cap := c) hr hag (fun y e => by subst e; simp [Op.operands]) (fun y e => by subst e; simp [Op.operands]) hl hh h0 h1 h2 hc true
    refine ⟨.slice (if c = l.toNat then ad else ad.map (·.add (l.toNat * inf.size))) (h.toNat - l.toNat) (c - l.toNat), ?_, ?_⟩
    · simp [execOp, ho, hv, Instr.sliceAt, Instr.slice, run_underlying ht, hb, sizeOf, typeInfo, hi']
    · simp only [vE, RV]
      refine ⟨_, _, _, rfl, by simp; omega, by omega, ?_⟩
      by_cases he : (rows.take h.toNat).drop l.toNat = []
      · exact .inl he
      · right
        have hlt : l.toNat < h.toNat := by
          apply Nat.lt_of_not_le
          intro hle
          exact he (List.drop_eq_nil_of_le (by simp; omega))
        rcases hcase with e | ⟨b, off, cs, rfl, hst, hcl, hR⟩
        · subst e; simp at he
        · rw [if_neg (by omega)]
          refine ⟨b, off + l.toNat * inf.size, cs.drop (l.toNat * sz), by simp [Addr.add_lit], hst, ?_, ?_⟩
          · rw [hsz]; exact hcl.drop _
          · exact RVR.dropRows _ (RVR.takeRows _ hR)

theorem os_sliceOw {P : Program} {o : Oper} {ts : List PV} {t elem : TypeId} {x : Operand} {lo hi : Option Operand} {inf : TypeInfo} {sz k lo0 len : Nat} {fz : Bool} {rows : List (List PV)} {l h : Int} (ho : o.op = .slice t x lo hi none) (ht : P.underlying t = some (.slice elem))
    (hi' : P.info? elem = some inf) (hsz : inf.size = sz) (hx : aev ts x = .ow k lo0 len) (hl : bndV ts lo 0 = some l) (hh : bndV ts hi len = some h) (h0 : 0 ≤ l) (h1 : l ≤ h) (h2 : h ≤ len) :
    OpSem P o ⟨.ow k (lo0 + l.toNat) (h.toNat - l.toNat), [], [(k, fz, sz, rows)], [], [], [], []⟩ ts :=
  os_read rfl rfl fun w0 X S0 M s a w hr hag hs => by
    rw [ho] at hag
    have hv := ev_of hr hag (x := x) (by simp [Op.operands]) hx
    simp only [RV] at hv
    obtain ⟨L, hL, hcase⟩ := hv
    obtain ⟨hLs, _⟩ := hr.toHRel.obj' (hs.2.1 (k, fz, sz, rows) (by simp)) hL
    rcases hcase with ⟨hn, rfl, ad, hv⟩ | ⟨hn, hle, ad, hv, had⟩
    · have hb := run_sliceBounds (P := P) (len := 0) (cap := 0) hr hag (fun y e => by subst e; simp [Op.operands]) (fun y e => by subst e; simp [Op.operands]) hl hh h0 h1 h2 (Nat.le_refl _) true
      obtain rfl : l = 0 := by simp at h2; omega
      obtain rfl : h = 0 := by simp at h2; omega
      refine ⟨.slice ad 0 0, ?_, ?_⟩
      · simp only [Int.toNat_zero] at hb
        simp [execOp, ho, hv, Instr.sliceAt, Instr.slice, run_underlying ht, hb, sizeOf, typeInfo, hi']
      · simp only [RV]
        exact ⟨L, hL, .inl ⟨hn, rfl, ad, rfl⟩⟩
    · have hb := run_sliceBounds (P := P) (len := len) (cap := L.cap - lo0) hr hag (fun y e => by subst e; simp [Op.operands]) (fun y e => by subst e; simp [Op.operands]) hl hh h0 h1 h2 (by omega) true
      refine ⟨.slice (if L.cap - lo0 = l.toNat then ad else ad.map (·.add (l.toNat * inf.size))) (h.toNat - l.toNat) (L.cap - lo0 - l.toNat), ?_, ?_⟩
      · simp [execOp, ho, hv, Instr.sliceAt, Instr.slice, run_underlying ht, hb, sizeOf, typeInfo, hi']
      · simp only [RV]
        refine ⟨L, hL, .inr ⟨hn, by omega, _, by rw [show L.cap - lo0 - l.toNat = L.cap - (lo0 + l.toNat) by omega], fun hlt => ?_⟩⟩
        rw [if_neg (by omega), had (by omega)]
        simp only [Option.map_some, Addr.add_lit]
        rw [hsz, hLs, Nat.add_mul]

theorem os_sliceNl {P : Program} {o : Oper} {ts : List PV} {t elem : TypeId} {x : Operand} {lo hi : Option Operand} {inf : TypeInfo} (ho : o.op = .slice t x lo hi none) (ht : P.underlying t = some (.slice elem))
    (hi' : P.info? elem = some inf) (hx : aev ts x = .nl) (hl : bndV ts lo 0 = some 0) (hh : bndV ts hi 0 = some 0) : OpSem P o (vE .nl) ts :=
  os_read rfl rfl fun w0 X S0 M s a w hr hag _ => by
    rw [ho] at hag
    have hv := ev_of hr hag (x := x) (by simp [Op.operands]) hx
    simp only [RV] at hv
    obtain ⟨ad, hv⟩ := hv
    have hb := run_sliceBounds (P := P) (len := 0) (cap := 0) hr hag (fun y e => by subst e; simp [Op.operands]) (fun y e => by subst e; simp [Op.operands]) hl hh (Int.le_refl _) (Int.le_refl _) (by simp) (Nat.le_refl _) true
    simp only [Int.toNat_zero] at hb
    exact ⟨.slice ad 0 0, by simp [execOp, ho, hv, Instr.sliceAt, Instr.slice, run_underlying ht, hb, sizeOf, typeInfo, hi'], by simp only [vE, RV]; exact ⟨ad, rfl⟩⟩

/-- 's[:0:0]'. -/
theorem os_slice00 {P : Program} {o : Oper} {ts : List PV} {t elem : TypeId} {x y z : Operand} {inf : TypeInfo} {p : PV} {k k' : IntKind} (ho : o.op = .slice t x none (some y) (some z)) (ht : P.underlying t = some (.slice elem))
    (hi' : P.info? elem = some inf) (hx : aev ts x = p) (hp : p = .nl ∨ (∃ sz rows, p = .sl sz rows) ∨ ∃ k lo n, p = .ow k lo n) (hy : aev ts y = .sc (.int k 0)) (hz : aev ts z = .sc (.int k' 0)) : OpSem P o (vE .nl) ts :=
  os_read rfl rfl fun w0 X S0 M s a w hr hag _ => by
    rw [ho] at hag
    have hv := ev_of hr hag (x := x) (by simp [Op.operands]) hx
    have h1 := ev_of hr hag (x := y) (by simp [Op.operands]) hy
    have h2 := ev_of hr hag (x := z) (by simp [Op.operands]) hz
    simp only [RV] at h1 h2
    have hsl : ∃ ad n c, a.eval x = .slice ad n c := by
      rcases hp with rfl | ⟨sz, rows, rfl⟩ | ⟨k, lo, n, rfl⟩ <;> simp only [RV] at hv
      · obtain ⟨ad, h⟩ := hv; exact ⟨ad, 0, 0, h⟩
      · obtain ⟨ad, n, c, h, _⟩ := hv; exact ⟨ad, n, c, h⟩
      · obtain ⟨L, _, ⟨_, _, ad, h⟩ | ⟨_, _, ad, h, _⟩⟩ := hv
        · exact ⟨ad, 0, 0, h⟩
        · exact ⟨ad, _, _, h⟩
    obtain ⟨ad, n, c, hv⟩ := hsl
    refine ⟨.slice ad 0 0, ?_, by simp only [vE, RV]; exact ⟨ad, rfl⟩⟩
    have hb : ∀ (ky : IntKind) (y : Nat) cd, (Instr.sliceBound (.int ky 0) y cd).run P w = .ok 0 w := fun ky y cd => run_sliceBound (Int.le_refl _) (by omega)
    simp [execOp, ho, hv, h1, h2, Instr.sliceAt, Instr.slice, Instr.sliceBounds, run_underlying ht, hb, sizeOf, typeInfo, hi']

theorem os_sliceStr {P : Program} {o : Oper} {ts : List PV} {t : TypeId} {x : Operand} {lo hi : Option Operand} {b : ByteArray} {l h : Int} (ho : o.op = .slice t x lo hi none) (ht : P.underlying t = some .string)
    (hx : aev ts x = .sc (.string b)) (hl : bndV ts lo 0 = some l) (hh : bndV ts hi b.size = some h) (h0 : 0 ≤ l) (h1 : l ≤ h) (h2 : h ≤ b.size) : OpSem P o (vE (.sc (.string (b.extract l.toNat h.toNat)))) ts :=
  os_read rfl rfl fun w0 X S0 M s a w hr hag _ => by
    rw [ho] at hag
    have hv := ev_of hr hag (x := x) (by simp [Op.operands]) hx
    simp only [RV] at hv
    have hb := run_sliceBounds (P := P) (len := b.size) (cap := b.size) hr hag (fun y e => by subst e; simp [Op.operands]) (fun y e => by subst e; simp [Op.operands]) hl hh h0 h1 h2 (Nat.le_refl _) false
    exact ⟨.string (b.extract l.toNat h.toNat), by simp [execOp, ho, hv, Instr.sliceAt, Instr.slice, run_underlying ht, hb], by simp [vE, RV]⟩

/-- The whole of an array in a variable, as a slice. -/
theorem os_slicePt {P : Program} {o : Oper} {ts : List PV} {t elem : TypeId} {x : Operand} {inf : TypeInfo} {key off n : Nat} (ho : o.op = .slice t x none none none) (ha : P.underlying t = some (.array n elem)) (hi : P.info? elem = some inf)
    (hx : aev ts x = .pt key off) (hn : 0 < n) : OpSem P o (vE (.bs key off n)) ts :=
  os_read rfl rfl fun w0 X S0 M s a w hr hag _ => by
    rw [ho] at hag
    have hv := ev_of hr hag (x := x) (by simp [Op.operands]) hx
    simp only [RV] at hv
    obtain ⟨b, hb, hv⟩ := hv
    have hne : ¬ n = 0 := by omega
    refine ⟨.slice (some ⟨b, off, none⟩) n n, ?_, by simp only [vE, RV]; exact ⟨b, hb, rfl⟩⟩
    simp [execOp, ho, hv, Instr.sliceAt, Instr.sureAddr, run_underlying ha, Instr.sliceBounds, sizeOf, typeInfo, hi, hne, Addr.add_lit]

/-! ### Structs of integers: '==' -/

def eqInts : List Field → List PV → List PV → Option Bool
  | [], _, _ => some true
  | f :: fs, xs, ys =>
    match xs[f.offset]?, ys[f.offset]? with
    | some (.sc (.int k a)), some (.sc (.int k' b)) => if k = k' then (eqInts fs xs ys).map fun r => (a == b) && r else none
    | _, _ => none

def intFields (P : Program) (fs : List Field) : Bool := fs.all fun f => f.name != "_" && (match P.underlying f.type with | some (.int _) => true | _ => false)

def EqOk (P : Program) (t : TypeId) : Prop := P.underlying t = some (.struct (P.fieldsOf t)) ∧ P.stoodInHeld t = false ∧ P.eqGuardType P.depth t = false ∧ intFields P (P.fieldsOf t).toList = true

theorem run_eqInts {P : Program} {M : Mem} {w : World} (d : Nat) : ∀ {fs : List Field} {xs ys : List PV} {cs ds : Array Value} {r : Bool}, eqInts fs xs ys = some r → intFields P fs = true → RVL M w xs cs.toList → RVL M w ys ds.toList →
    (Op.eqFields (d + 1) cs ds fs).run P w = .ok r w
  | [], xs, ys, cs, ds, r, h, _, _, _ => by simp only [eqInts] at h; cases h; simp [Op.eqFields]
  | f :: fs, xs, ys, cs, ds, r, h, hf, hx, hy => by
    simp only [eqInts] at h
    split at h
    · rename_i k a k' b e1 e2
      split at h
      · rename_i hk; subst hk
        cases hr : eqInts fs xs ys with
        | none => rw [hr] at h; cases h
        | some r' =>
          rw [hr] at h
          simp only [Option.map_some, Option.some.injEq] at h
          simp only [intFields, List.all_cons, Bool.and_eq_true, bne_iff_ne, ne_eq] at hf
          obtain ⟨⟨hn, ht⟩, hrest⟩ := hf
          have ih := run_eqInts (P := P) (M := M) (w := w) d hr (by simpa [intFields] using hrest) hx hy
          obtain ⟨c, hc, hcv⟩ := hx.get _ e1
          obtain ⟨c', hc', hcv'⟩ := hy.get _ e2
          simp only [RV] at hcv hcv'
          subst hcv hcv'
          split at ht
          · rename_i ki hu
            have hcs : cs[f.offset]? = some (.int k a) := by simpa using hc
            have hds : ds[f.offset]? = some (.int k b) := by simpa using hc'
            have hag : (isAgg f.type).run P w = .ok false w := run_isAgg hu
            have p1 : (part f.type cs f.offset).run P w = .ok (.int k a) w := by simp [part, hag, hcs]
            have p2 : (part f.type ds f.offset).run P w = .ok (.int k b) w := by simp [part, hag, hds]
            simp only [Op.eqFields, ne_eq, hn, not_false_eq_true, if_true, Sem.run_bind, p1, p2, Result.andThen_ok, run_equalIn_int w d f.type k ki a b hu]
            subst h
            cases hab : (a == b) with
            | true => simp [ih]
            | false => simp
          · cases ht
      · cases h
    · cases h

theorem os_eqStruct {P : Program} {o : Oper} {ts : List PV} {op : BinOp} {t t' : TypeId} {x y : Operand} {xs ys : List PV} {r : Bool} (ho : o.op = .binOp op t x y t') (hop : op = .eql ∨ op = .neq) (hok : EqOk P t) (hx : aev ts x = .ag xs) (hy : aev ts y = .ag ys)
    (hr : eqInts (P.fieldsOf t).toList xs ys = some r) : OpSem P o (vE (.sc (.bool (if op = .eql then r else !r)))) ts :=
  os_read rfl rfl fun w0 X S0 M s a w hrel hl _ => by
    rw [ho] at hl
    have h1 := ev_of hrel hl (x := x) (by simp [Op.operands]) hx
    have h2 := ev_of hrel hl (x := y) (by simp [Op.operands]) hy
    simp only [RV] at h1 h2
    obtain ⟨cs, hv, hcs⟩ := h1
    obtain ⟨ds, hv', hds⟩ := h2
    obtain ⟨k1, k2, k3, k4⟩ := hok
    have hrun := run_equalIn_struct (P := P) w 9999 t cs ds k1 k2
    rw [run_eqInts (P := P) 9998 hr k4 hcs hds] at hrun
    have hguard : ∀ op', (eqGuard op' t x y (.agg cs) (.agg ds)).run P w = .ok () w := by
      intro op'
      simp only [eqGuard]
      split <;> simp [k3]
    have hrun' : (Op.equal t (.agg cs) (.agg ds)).run P w = .ok r w := hrun
    rcases hop with rfl | rfl
    · refine ⟨.bool r, ?_, by simp [vE, RV]⟩
      simp [execOp, ho, hv, hv', hguard, binOp, hrun']
    · refine ⟨.bool (!r), ?_, by simp [vE, RV]⟩
      simp [execOp, ho, hv, hv', hguard, binOp, hrun']

/-! ### Truth values: '==' -/

theorem os_eqBool {P : Program} {o : Oper} {ts : List PV} {op : BinOp} {t t' : TypeId} {x y : Operand} {u v : Bool} (ho : o.op = .binOp op t x y t') (hop : op = .eql ∨ op = .neq) (hok : P.underlying t = some .bool) (hx : aev ts x = .sc (.bool u)) (hy : aev ts y = .sc (.bool v)) :
    OpSem P o (vE (.sc (.bool (if op = .eql then u == v else u != v)))) ts :=
  os_read rfl rfl fun w0 X S0 M s a w hrel hl _ => by
    rw [ho] at hl
    have h1 := ev_of hrel hl (x := x) (by simp [Op.operands]) hx
    have h2 := ev_of hrel hl (x := y) (by simp [Op.operands]) hy
    simp only [RV] at h1 h2
    have hrun1 : ∀ d, (Op.equalIn (d + 1) t (.bool u) (.bool v)).run P w = .ok (u == v) w := by
      intro d
      simp [Op.equalIn, run_underlying hok]
    have hrun : (Op.equal t (.bool u) (.bool v)).run P w = .ok (u == v) w := hrun1 9999
    have hguard : ∀ op', (eqGuard op' t x y (.bool u) (.bool v)).run P w = .ok () w := by
      intro op'
      simp only [eqGuard]
      split <;> simp
    rcases hop with rfl | rfl
    · refine ⟨.bool (u == v), ?_, by simp [vE, RV]⟩
      simp [execOp, ho, h1, h2, hguard, binOp, hrun]
    · refine ⟨.bool (u != v), ?_, by simp [vE, RV]⟩
      simp [execOp, ho, h1, h2, hguard, binOp, hrun, bne]

/-- A slice compared with the literal nil. -/
theorem os_eqNil {P : Program} {o : Oper} {ts : List PV} {t t' e : TypeId} {x : Operand} {p : PV} {φ : Prop} (ho : o.op = .binOp .eql t x (.const (.slice none 0 0)) t') (hu : P.underlying t = some (.slice e)) (hx : aev ts x = p)
    (hφ : ∀ (M : Mem) (w : World) (v : Value) (_ : Unit) (n c : Nat), RV M w p v → v = .slice none n c → φ) (hsl : ∀ (M : Mem) (w : World) (v : Value), RV M w p v → ∃ a n c, v = .slice a n c) : OpSem P o (vE (.ub φ)) ts :=
  os_read rfl rfl fun w0 X S0 M s a w hrel hl _ => by
    rw [ho] at hl
    have h1 := ev_of hrel hl (x := x) (by simp [Op.operands]) hx
    obtain ⟨ad, n, c, hv⟩ := hsl M w _ h1
    have hrun1 : ∀ d, (Op.equalIn (d + 1) t (.slice ad n c) (.slice none 0 0)).run P w = .ok ad.isNone w := by
      intro d
      cases ad <;> simp [Op.equalIn, run_underlying hu]
    have hrun : (Op.equal t (.slice ad n c) (.slice none 0 0)).run P w = .ok ad.isNone w := hrun1 9999
    have hguard : (eqGuard .eql t x (.const (.slice none 0 0)) (.slice ad n c) (.slice none 0 0)).run P w = .ok () w := by
      simp [eqGuard]
    refine ⟨.bool ad.isNone, ?_, ?_⟩
    · have hc : a.eval (.const (.slice none 0 0)) = .slice none 0 0 := rfl
      simp [execOp, ho, hv, hc, Sem.run_bind, hguard, binOp, hrun]
    · simp only [vE, RV]
      refine ⟨_, rfl, fun hb => ?_⟩
      cases ad with
      | none => exact hφ M w _ () n c h1 hv
      | some _ => cases hb

/-- A slice of which it is known whether it is nil. -/
theorem os_cmpNil {P : Program} {o : Oper} {ts : List PV} {op : BinOp} {t t' e : TypeId} {x : Operand} {p : PV} {b : Bool} (ho : o.op = .binOp op t x (.const (.slice none 0 0)) t') (hop : op = .eql ∨ op = .neq) (hu : P.underlying t = some (.slice e)) (hx : aev ts x = p)
    (hsl : ∀ (M : Mem) (w : World) (v : Value), RV M w p v → ∃ a n c, v = .slice a n c ∧ a.isNone = b) : OpSem P o (vE (.sc (.bool (match op with | .eql => b | _ => !b)))) ts :=
  os_read rfl rfl fun w0 X S0 M s a w hrel hl _ => by
    rw [ho] at hl
    have h1 := ev_of hrel hl (x := x) (by simp [Op.operands]) hx
    obtain ⟨ad, n, c, hv, hb⟩ := hsl M w _ h1
    have hrun1 : ∀ d, (Op.equalIn (d + 1) t (.slice ad n c) (.slice none 0 0)).run P w = .ok ad.isNone w := by
      intro d
      cases ad <;> simp [Op.equalIn, run_underlying hu]
    have hrun : (Op.equal t (.slice ad n c) (.slice none 0 0)).run P w = .ok ad.isNone w := hrun1 9999
    have hc : a.eval (.const (.slice none 0 0)) = .slice none 0 0 := rfl
    rcases hop with rfl | rfl
    · have hguard : (eqGuard .eql t x (.const (.slice none 0 0)) (.slice ad n c) (.slice none 0 0)).run P w = .ok () w := by
        simp [eqGuard]
      refine ⟨.bool ad.isNone, ?_, by simp only [vE, RV, hb]⟩
      simp [execOp, ho, hv, hc, Sem.run_bind, hguard, binOp, hrun]
    · have hguard : (eqGuard .neq t x (.const (.slice none 0 0)) (.slice ad n c) (.slice none 0 0)).run P w = .ok () w := by
        simp [eqGuard]
      refine ⟨.bool (!ad.isNone), ?_, by simp only [vE, RV, hb]⟩
      simp [execOp, ho, hv, hc, Sem.run_bind, hguard, binOp, hrun]
theorem ow_some {M : Mem} {w : World} {k lo len : Nat} {v : Value} (h0 : 0 < len) (hv : RV M w (.ow k lo len) v) : ∃ a n c, v = .slice a n c ∧ a.isNone = false := by
  simp only [RV] at hv
  obtain ⟨L, hL, hc⟩ := hv
  rcases hc with ⟨_, h2, _⟩ | ⟨_, h2, a', h3, h4⟩
  · omega
  · rw [h4 (by omega)] at h3
    exact ⟨_, _, _, h3, rfl⟩
theorem sl_some {M : Mem} {w : World} {sz : Nat} {rows : List (List PV)} {v : Value} (h0 : rows ≠ []) (hv : RV M w (.sl sz rows) v) : ∃ a n c, v = .slice a n c ∧ a.isNone = false := by
  simp only [RV] at hv
  obtain ⟨a', n', c', e1, e2, e3, e4⟩ := hv
  rcases e4 with e4 | ⟨b, off, cs, e5, _⟩
  · exact absurd e4 h0
  · subst e5; exact ⟨_, _, _, e1, rfl⟩

end Go.Pv
