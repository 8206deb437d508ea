import Derived.Test.YtbhfokahocgndaaGreatPvD
import Derived.Laws.MakeOwn
/-
  append; elements of an own slice that are written. Generic over the program.
-/
set_option linter.unusedSimpArgs false
set_option linter.unusedVariables false
namespace Go.Pv

section
variable {P : Program} (w : World)

theorem run_app_room (t ty e T : TypeId) (i : TypeInfo) (ht : P.underlying t = some (.slice e)) (hi : P.info? e = some i)
    (g sLen sCap : Nat) (cur : Array Value) (hg : w.heap[g]? = some (.cells cur T (0, 0)))
    (a : Addr) (m c : Nat) (news : List Value) (hl : news.length = m * i.size) (hnews : ∀ j u, news[j]? = some u → w.cell? (a.add j) = some u) (h1 : ∀ u ∈ news, u.oneCell' = true)
    (hroom : sLen + m ≤ sCap) (hfit : sLen * i.size + news.length ≤ cur.size) :
    (Builtin.append_ #[t, t] ty #[.slice (some ⟨g, 0, none⟩) sLen sCap, .slice (some a) m c]).run P w =
      .ok (.slice (some ⟨g, 0, none⟩) (sLen + m) sCap) (w.setRow g (cur.toList.take (sLen * i.size) ++ news ++ cur.toList.drop (sLen * i.size + news.length)).toArray) := by
  have hf := run_firstCells_some (P := P) w i.size m a m c news hl hnews
  have hst := run_storeCells_at P g (sLen * i.size) T news 0 cur w hg (by simpa using hfit) h1
  simp only [Nat.add_zero] at hst
  simp [Builtin.append_, run_underlying ht, sizeOf, typeInfo, hi, Builtin.lenOf, hroom, hf, Addr.add_lit, hst]

theorem run_app_zero (t ty e : TypeId) (i : TypeInfo) (ht : P.underlying t = some (.slice e)) (hi : P.info? e = some i) (sa xa : Option Addr) (sLen sCap xc : Nat) (hle : sLen ≤ sCap) :
    (Builtin.append_ #[t, t] ty #[.slice sa sLen sCap, .slice xa 0 xc]).run P w = .ok (.slice sa sLen sCap) w := by
  cases sa <;> cases xa <;> simp [Builtin.append_, run_underlying ht, sizeOf, typeInfo, hi, Builtin.lenOf, Builtin.firstCells, loadCells, loadCellsFrom, hle, storeCells]

theorem run_app_fresh (t ty e : TypeId) (i : TypeInfo) (z : Value) (ht : P.underlying t = some (.slice e)) (hi : P.info? e = some i) (hz : i.zero = some z) (sa : Option Addr)
    (a : Addr) (n c : Nat) (news : List Value) (hl : news.length = n * i.size) (hnews : ∀ j v, news[j]? = some v → w.cell? (a.add j) = some v)
    (h0 : 0 < n) (h63 : (n : Int) ≤ 9223372036854775807) (hb : n * i.bytes ≤ 140737488355328) :
    (Builtin.append_ #[t, t] ty #[.slice sa 0 0, .slice (some a) n c]).run P w =
      .ok (.slice (some ⟨w.heap.size, 0, none⟩) n (grownCap w n 0 e)) (w.drew.alloc (.cells (news.toArray ++ Builtin.zeroCells z.cells (grownCap w n 0 e - n)) e)) := by
  cases sa with
  | none => exact run_append_nil w t ty e i z ht hi hz a n c news hl hnews h0 h63 (by omega)
  | some b =>
    have := run_append_grow (P := P) w t ty e i z ht hi hz b 0 0 [] (by simp) (by simp) a n c news hl hnews (by omega) (by simpa using h63) (growslice_fits (by omega) (by simpa using hb))
    simpa using this
end

/-- What a slice's elements are, and which objects must be there for it. -/
def srcOk (p : PV) (sz : Nat) (ro : List (Nat × Bool × Nat × List (List PV))) (rows : List (List PV)) : Prop :=
  (p = .sl sz rows ∧ ro = []) ∨ (p = .nl ∧ rows = [] ∧ ro = []) ∨ ∃ k lo len fz all, p = .ow k lo len ∧ ro = [(k, fz, sz, all)] ∧ rows = (all.drop lo).take len ∧ lo + len ≤ all.length

def rows1 (rows : List (List PV)) : Bool := rows.all fun r => r.all leaf1

theorem rows1_sound {M : Mem} {w : World} {sz : Nat} : ∀ {rows : List (List PV)} {cs : List Value}, (∀ r ∈ rows, r.all leaf1 = true) → RVR M w sz rows cs → cs.length = rows.length * sz → ∀ v ∈ cs, v.oneCell' = true
  | [], cs, _, _, hl => by
    have : cs = [] := List.eq_nil_of_length_eq_zero (by simpa using hl)
    subst this; simp
  | r :: rs, cs, h1, h, hl => by
    simp only [RVR] at h
    obtain ⟨c1, c2, rfl, hr, h2, h3⟩ := h
    have hc1 : c1.length = sz := by rw [h2.length, hr]
    intro v hv
    rcases List.mem_append.1 hv with hv | hv
    · exact leaves1_sound (h1 r (by simp)) h2 v hv
    · refine rows1_sound (fun q hq => h1 q (by simp [hq])) h3 ?_ v hv
      simp only [List.length_append, List.length_cons, Nat.add_mul, Nat.one_mul] at hl
      omega

theorem src_sound {w0 : World} {X : Nat → Prop} {S0 : Base} {M : Mem} {s : St} {a : Act} {w : World} {p : PV} {sz : Nat} {ro : List (Nat × Bool × Nat × List (List PV))} {rows : List (List PV)} {v : Value} (hr : Rel w0 X S0 M s a w) (hv : RV M w p v) (h : srcOk p sz ro rows) (hro : ∀ q ∈ ro, s.O q.1 = some (some q.2)) :
    ∃ xa xc, v = .slice xa rows.length xc ∧ (rows = [] ∨ ∃ ad news, xa = some ad ∧ news.length = rows.length * sz ∧ (∀ j u, news[j]? = some u → w.cell? (ad.add j) = some u) ∧ RVR M.cl w sz rows news) := by
  rcases h with ⟨rfl, rfl⟩ | ⟨rfl, rfl, rfl⟩ | ⟨k, lo, len, fz, all, rfl, rfl, rfl, hle⟩
  · simp only [RV] at hv
    obtain ⟨xa, n, c, rfl, rfl, _, hcase⟩ := hv
    refine ⟨xa, c, rfl, ?_⟩
    rcases hcase with e | ⟨b, off, cs, rfl, hst, hc, hR⟩
    · exact .inl e
    · obtain ⟨h1, h2⟩ := hR.exact
      refine .inr ⟨_, cs.take (rows.length * sz), rfl, by simp; omega, fun j u hj => ?_, h2⟩
      rw [Addr.add_lit]
      exact hc.take _ j u hj
  · simp only [RV] at hv
    obtain ⟨xa, rfl⟩ := hv
    exact ⟨xa, 0, rfl, .inl rfl⟩
  · simp only [RV] at hv
    obtain ⟨L, hL, hcase⟩ := hv
    have hlen : ((all.drop lo).take len).length = len := by simp; omega
    obtain ⟨hLs, hob⟩ := hr.toHRel.obj' (hro (k, fz, sz, all) (by simp)) hL
    rcases hcase with ⟨hn, rfl, xa, rfl⟩ | ⟨hn, hcap, xa, rfl, hxa⟩
    · exact ⟨xa, 0, by rw [hlen], .inl (by simp)⟩
    · refine ⟨xa, _, by rw [hlen], ?_⟩
      by_cases h0 : len = 0
      · left; subst h0; simp
      · right
        rcases hob with ⟨h, _⟩ | ⟨_, _, _, cs, E, hh, hcs, _, _, hR⟩
        · rw [hn] at h; cases h
        · have hR' := RVR.takeRows len (RVR.dropRows lo hR)
          obtain ⟨e1, e2⟩ := hR'.exact
          refine ⟨⟨L.b, lo * L.sz, none⟩, (cs.toList.drop (lo * sz)).take (((all.drop lo).take len).length * sz), hxa (by omega), by rw [List.length_take]; omega, fun j u hj => ?_, e2⟩
          rw [Addr.add_lit, hLs]
          have hc : Cells w L.b (0 + lo * sz) (cs.toList.drop (lo * sz)) := (Cells.of_block hh).drop (lo * sz)
          rw [Nat.zero_add] at hc
          exact hc.take _ j u hj

/-- A new block of the call's own, as an object. -/
theorem HRel.grow {w0 : World} {X : Nat → Prop} {S0 : Base} {M : Mem} {B : BMap} {O : OMap} {w : World} (h : HRel w0 X S0 M B O w) {d : Nat} (hd : O d = none) {cells : Array Value} {e : TypeId} {sz cap : Nat} {rows : List (List PV)} (hsz : cells.size = cap * sz) (hlen : rows.length ≤ cap) (hm : cap ≤ maxLen) (hR : RVR M.cl w sz rows cells.toList) :
    ∃ M', HRel w0 X S0 M' B (upd O [(d, some (false, sz, rows))]) (w.drew.alloc (.cells cells e)) ∧ M.Le M' w (w.drew.alloc (.cells cells e)) ∧ M'.ob d = some ⟨w.heap.size, sz, cap, false⟩ := by
  generalize hnw : w.drew.alloc (.cells cells e) = w1
  have hh : ∀ b, b < w.heap.size → w1.heap[b]? = w.heap[b]? := fun b hlt => by subst hnw; exact heap_alloc_ne w.drew _ hlt
  have hle0 : M.Le M w w1 := ⟨fun _ h => h, fun _ _ h => h, fun _ _ h => h, fun b hb => hh b (h.stlt b hb)⟩
  have hrel1 : HRel w0 X S0 M B O w1 := h.world hle0 (by subst hnw; rfl) (by subst hnw; rfl) (by subst hnw; rfl) (by subst hnw; simp) hh
  have hblk : w1.heap[w.heap.size]? = some (.cells cells e (0, 0)) := by subst hnw; exact heap_alloc_eq w.drew _
  obtain ⟨M', hnew, hle, hob⟩ := hrel1.addObj (k := d) hd ⟨w.heap.size, sz, cap, false⟩ (rows := rows) (.inr ⟨rfl, ⟨.inl h.size, fun hs => Nat.lt_irrefl _ (h.stlt _ hs)⟩, cells, e, hblk, hsz, hlen, hm, RVR.mono hle0.cl _ _ _ hR⟩)
    (fun j b hj _ => by
      obtain ⟨ls, hls⟩ := h.boxKey j b hj
      obtain ⟨_, T, cs, hc, _⟩ := h.box' hls hj
      exact Nat.ne_of_lt (lt_of_heap hc))
    (fun j q L' hj hL' hn _ => by
      obtain ⟨_, hcase⟩ := h.obj' (fz := false) (sz := q.1) (rows := q.2) hj hL'
      rcases hcase with ⟨h, _⟩ | ⟨_, _, _, cs, E, hc, _⟩
      · rw [hn] at h; cases h
      · exact Nat.ne_of_lt (lt_of_heap hc))
  exact ⟨M', hnew, hle0.trans hle, hob⟩

/-- append to nothing. -/
theorem os_appNl {P : Program} {o : Oper} {ts : List PV} {x y : Operand} {t e : TypeId} {inf : TypeInfo} {z : Value} {p : PV} {d : Nat} {ro : List (Nat × Bool × Nat × List (List PV))} {rows : List (List PV)}
    (ho : o.op = .call { callee := .builtin .append, args := #[x, y], argTypes := #[t, t] }) (ht : P.underlying t = some (.slice e)) (hi : P.info? e = some inf) (hz : inf.zero = some z) (hzs : z.cells.size = inf.size)
    (hx : aev ts x = .nl) (hy : aev ts y = p) (hsrc : srcOk p inf.size ro rows) (hb : rows.length * inf.bytes ≤ 140737488355328) (hm : rows.length ≤ maxLen) :
    OpSem P o ⟨.ow d 0 rows.length, [], ro, [], [d], [], [(d, some (false, inf.size, rows))]⟩ ts := by
  intro w0 X S0 M s a w Q K hr hl hs hk
  rw [ho] at hl
  have h1 := ev_of hr hl (x := x) (by simp [Op.operands, Call.operands]) hx
  have h2 := ev_of hr hl (x := y) (by simp [Op.operands, Call.operands]) hy
  simp only [RV] at h1
  obtain ⟨sa, hv⟩ := h1
  obtain ⟨xa, xc, hv', hcase⟩ := src_sound hr h2 hsrc hs.2.1
  have hfo := hs.2.2.2 d (by simp)
  unfold Oper.wp
  by_cases h0 : rows = []
  · subst h0
    have hrun := run_app_zero (P := P) w t o.type e inf ht hi sa xa 0 0 xc (Nat.le_refl _)
    have hex : (execOp a.eval o).run P w = .ok (.value (.slice sa 0 0)) w := by
      simp only [List.length_nil] at hv'
      simp [execOp, ho, resolve, invoke, builtin, hv, hv', hrun]
    rw [hex, Oper.upon_value]
    obtain ⟨M', hnew, hle, hob⟩ := hr.toHRel.addObj (k := d) hfo ⟨0, inf.size, 0, true⟩ (rows := []) (.inl ⟨rfl, rfl⟩) (fun _ _ _ h => by cases h) (fun _ _ _ _ _ _ h => by cases h)
    refine hk M' _ _ ?_
    have hr' : Rel w0 X S0 M' ⟨s.tmps, s.B, upd s.O [(d, some (false, inf.size, []))]⟩ a w := ⟨hnew, hr.dfr, hr.len, fun t => RV.mono hle _ _ (hr.tmp t)⟩
    have := rel_put hr' o.dst (p := .ow d 0 0) (v := .slice sa 0 0) (by simp only [RV]; exact ⟨_, hob, .inl ⟨rfl, rfl, sa, rfl⟩⟩)
    simpa [St.apply, upd_nil] using this
  · rcases hcase with h | ⟨ad, news, rfl, hnl, hnews, hR⟩
    · exact absurd h h0
    · have hpos : 0 < rows.length := List.length_pos_iff.2 h0
      have hrun := run_app_fresh (P := P) w t o.type e inf z ht hi hz sa ad rows.length xc news hnl hnews hpos (by unfold maxLen at hm; omega) hb
      have hex : (execOp a.eval o).run P w = .ok (.value (.slice (some ⟨w.heap.size, 0, none⟩) rows.length (grownCap w rows.length 0 e))) (w.drew.alloc (.cells (news.toArray ++ Builtin.zeroCells z.cells (grownCap w rows.length 0 e - rows.length)) e)) := by
        simp [execOp, ho, resolve, invoke, builtin, hv, hv', hrun]
      rw [hex, Oper.upon_value]
      have hge := grownCap_ge w rows.length 0 e
      have hcm := grownCap_le_maxLen w rows.length 0 e hm
      obtain ⟨M', hnew, hle, hob⟩ := hr.toHRel.grow (d := d) hfo (cells := news.toArray ++ Builtin.zeroCells z.cells (grownCap w rows.length 0 e - rows.length)) (e := e) (sz := inf.size) (cap := grownCap w rows.length 0 e) (rows := rows)
        (by simp only [Array.size_append, List.size_toArray, size_zeroCells, hzs, hnl, ← Nat.add_mul]; congr 1; omega) hge hcm (by simp only [Array.toList_append]; exact hR.ext _)
      refine hk M' _ _ ?_
      have hr' : Rel w0 X S0 M' ⟨s.tmps, s.B, upd s.O [(d, some (false, inf.size, rows))]⟩ a _ := ⟨hnew, hr.dfr, hr.len, fun t => RV.mono hle _ _ (hr.tmp t)⟩
      have := rel_put hr' o.dst (p := .ow d 0 rows.length) (v := .slice (some ⟨w.heap.size, 0, none⟩) rows.length (grownCap w rows.length 0 e)) (by
        simp only [RV]; exact ⟨_, hob, .inr ⟨rfl, by simpa using hge, some ⟨w.heap.size, 0, none⟩, by simp, fun _ => by simp⟩⟩)
      simpa [St.apply, upd_nil] using this

/-- append to a slice of the call's own: it is used up. -/
theorem os_appOw {P : Program} {o : Oper} {ts : List PV} {x y : Operand} {t e : TypeId} {inf : TypeInfo} {z : Value} {p : PV} {d k len : Nat} {all : List (List PV)} {ro : List (Nat × Bool × Nat × List (List PV))} {rows : List (List PV)}
    (ho : o.op = .call { callee := .builtin .append, args := #[x, y], argTypes := #[t, t] }) (ht : P.underlying t = some (.slice e)) (hi : P.info? e = some inf) (hz : inf.zero = some z) (hzs : z.cells.size = inf.size)
    (hx : aev ts x = .ow k 0 len) (hy : aev ts y = p) (hsrc : srcOk p inf.size ro rows) (hdk : d ≠ k) (hlen : len ≤ all.length) (hb : (len + rows.length) * inf.bytes ≤ 140737488355328) (hm : len + rows.length ≤ maxLen) (h1 : ∀ r ∈ rows, r.all leaf1 = true) :
    OpSem P o ⟨.ow d 0 (len + rows.length), [], (k, false, inf.size, all) :: ro, [], [d], [], [(k, none), (d, some (false, inf.size, all.take len ++ rows))]⟩ ts := by
  intro w0 X S0 M s a w Q K hr hl hs hk
  rw [ho] at hl
  have hxv := ev_of hr hl (x := x) (by simp [Op.operands, Call.operands]) hx
  have hyv := ev_of hr hl (x := y) (by simp [Op.operands, Call.operands]) hy
  obtain ⟨xa, xc, hv', hcase⟩ := src_sound hr hyv hsrc (fun q hq => hs.2.1 q (by simp [hq]))
  have hfo := hs.2.2.2 d (by simp)
  have hO := hs.2.1 (k, false, inf.size, all) (by simp)
  simp only [RV] at hxv
  obtain ⟨L, hL, hOw⟩ := hxv
  obtain ⟨hLs, hLc⟩ := hr.toHRel.obj' hO hL
  have hkill := hr.toHRel.killObj k
  have hfo' : upd s.O [(k, none)] d = none := by rw [upd_one, if_neg hdk]; exact hfo
  have happ : ∀ v : Option (Bool × Nat × List (List PV)), upd (upd s.O [(k, none)]) [(d, v)] = upd s.O [(k, none), (d, v)] := by
    intro v; funext j
    rw [upd_one, upd_one]
    unfold upd
    by_cases e1 : k = j
    · subst e1
      have : ¬ k = d := fun e => hdk e.symm
      simp [this]
    · by_cases e2 : d = j
      · subst e2; simp [e1]
      · have e1' : ¬ j = k := fun e => e1 e.symm
        have e2' : ¬ j = d := fun e => e2 e.symm
        simp [e1, e2, e1', e2']
  have fin : ∀ (M' : Mem) (w1 : World) (v : Value), HRel w0 X S0 M' s.B (upd (upd s.O [(k, none)]) [(d, some (false, inf.size, all.take len ++ rows))]) w1 → M.Le M' w w1 → RV M' w1 (.ow d 0 (len + rows.length)) v → K (a.put o.dst v) w1 := by
    intro M' w1 v hnew hle hv
    refine hk M' _ _ ?_
    have hr' : Rel w0 X S0 M' ⟨s.tmps, s.B, upd s.O [(k, none), (d, some (false, inf.size, all.take len ++ rows))]⟩ a w1 := ⟨by rw [← happ]; exact hnew, hr.dfr, hr.len, fun t => RV.mono hle _ _ (hr.tmp t)⟩
    have := rel_put hr' o.dst hv
    simpa [St.apply, upd_nil] using this
  unfold Oper.wp
  -- the slice has no room at all: as nothing
  have hfresh : ∀ sa, a.eval x = .slice sa 0 0 → len = 0 → o.upon P a K Q ((execOp a.eval o).run P w) := by
    intro sa hv hl0
    subst hl0
    by_cases h0 : rows = []
    · subst h0
      have hrun := run_app_zero (P := P) w t o.type e inf ht hi sa xa 0 0 xc (Nat.le_refl _)
      have hex : (execOp a.eval o).run P w = .ok (.value (.slice sa 0 0)) w := by
        simp only [List.length_nil] at hv'
        simp [execOp, ho, resolve, invoke, builtin, hv, hv', hrun]
      rw [hex, Oper.upon_value]
      obtain ⟨M', hnew, hle, hob⟩ := hkill.addObj (k := d) hfo' ⟨0, inf.size, 0, true⟩ (rows := []) (.inl ⟨rfl, rfl⟩) (fun _ _ _ h => by cases h) (fun _ _ _ _ _ _ h => by cases h)
      exact fin M' w _ (by simpa using hnew) hle (by simp only [RV]; exact ⟨_, hob, .inl ⟨rfl, by simp, sa, rfl⟩⟩)
    · rcases hcase with h | ⟨ad, news, rfl, hnl, hnews, hR⟩
      · exact absurd h h0
      · have hpos : 0 < rows.length := List.length_pos_iff.2 h0
        have hrun := run_app_fresh (P := P) w t o.type e inf z ht hi hz sa ad rows.length xc news hnl hnews hpos (by unfold maxLen at hm; omega) (by simpa using hb)
        have hex : (execOp a.eval o).run P w = .ok (.value (.slice (some ⟨w.heap.size, 0, none⟩) rows.length (grownCap w rows.length 0 e))) (w.drew.alloc (.cells (news.toArray ++ Builtin.zeroCells z.cells (grownCap w rows.length 0 e - rows.length)) e)) := by
          simp [execOp, ho, resolve, invoke, builtin, hv, hv', hrun]
        rw [hex, Oper.upon_value]
        have hge := grownCap_ge w rows.length 0 e
        have hcm := grownCap_le_maxLen w rows.length 0 e (by simpa using hm)
        obtain ⟨M', hnew, hle, hob⟩ := hkill.grow (d := d) hfo' (cells := news.toArray ++ Builtin.zeroCells z.cells (grownCap w rows.length 0 e - rows.length)) (e := e) (sz := inf.size) (cap := grownCap w rows.length 0 e) (rows := rows)
          (by simp only [Array.size_append, List.size_toArray, size_zeroCells, hzs, hnl, ← Nat.add_mul]; congr 1; omega) hge hcm (by simp only [Array.toList_append]; exact hR.ext _)
        refine fin M' _ _ (by simpa using hnew) hle ?_
        simp only [RV]; exact ⟨_, hob, .inr ⟨rfl, by simpa using hge, some ⟨w.heap.size, 0, none⟩, by simp, fun _ => by simp⟩⟩
  rcases hOw with ⟨hn, rfl, sa, hv⟩ | ⟨hn, hcap, sa, hv, hsa⟩
  · exact hfresh sa hv rfl
  · by_cases hc0 : L.cap = 0
    · exact hfresh sa (by rw [hv]; congr 1 <;> omega) (by omega)
    · have hsa' : sa = some ⟨L.b, 0, none⟩ := by simpa using hsa (by omega)
      subst hsa'
      rcases hLc with ⟨h, _⟩ | ⟨_, _, hown, cs, E, hh, hcs, hrl, hcm0, hRall⟩
      · rw [hn] at h; cases h
      simp only [Nat.sub_zero] at hv
      have hown := hown rfl
      have hbox : ∀ j, M.bx j ≠ some L.b := fun j hj => hr.boxObj j k L.b _ L hj hO hL hn rfl
      have hobj : ∀ j q L', upd s.O [(k, none)] j = some (some (false, q)) → M.ob j = some L' → L'.nil = false → L'.b ≠ L.b := by
        intro j q L' hj hL' hn' e
        rw [upd_one] at hj
        by_cases ej : j = k
        · rw [if_pos ej] at hj; simp at hj
        · rw [if_neg ej] at hj
          exact ej (hr.objNe j k q _ L' L hj hO hL' hL hn' hn e)
      have hRt : RVR M.cl w inf.size (all.take len) cs.toList := RVR.takeRows len hRall
      have htl : (all.take len).length = len := by simp; omega
      obtain ⟨hx1, hx2⟩ := hRt.exact
      rw [htl] at hx1 hx2
      by_cases h0 : rows = []
      · subst h0
        have hrun := run_app_zero (P := P) w t o.type e inf ht hi (some ⟨L.b, 0, none⟩) xa len L.cap xc (by omega)
        have hex : (execOp a.eval o).run P w = .ok (.value (.slice (some ⟨L.b, 0, none⟩) len L.cap)) w := by
          simp only [List.length_nil] at hv'
          simp [execOp, ho, resolve, invoke, builtin, hv, hv', hrun]
        rw [hex, Oper.upon_value]
        obtain ⟨M', hnew, hle, hob⟩ := hkill.addObj (k := d) hfo' ⟨L.b, inf.size, L.cap, false⟩ (rows := all.take len) (.inr ⟨rfl, hown, cs, E, hh, hcs, (by show (all.take len).length ≤ L.cap; omega), hcm0, hRt⟩) (fun j b hj _ e => hbox j (by rw [hj, e])) (fun j q L' hj hL' hn' _ => hobj j q L' hj hL' hn')
        exact fin M' w _ (by simpa using hnew) hle (by simp only [RV]; exact ⟨_, hob, .inr ⟨rfl, by simp; omega, some ⟨L.b, 0, none⟩, by simp, fun _ => by simp⟩⟩)
      · rcases hcase with h | ⟨ad, news, rfl, hnl, hnews, hR⟩
        · exact absurd h h0
        · have hpos : 0 < rows.length := List.length_pos_iff.2 h0
          have hone : ∀ u ∈ news, u.oneCell' = true := rows1_sound h1 hR hnl
          have holdl : (cs.toList.take (len * inf.size)).length = len * inf.size := by rw [List.length_take]; omega
          have hRnew : RVR M.cl w inf.size (all.take len ++ rows) (cs.toList.take (len * inf.size) ++ news) := RVR.append hx2 (by rw [holdl, htl]) hR
          by_cases hroom : len + rows.length ≤ L.cap
          · have hfit : len * inf.size + news.length ≤ cs.size := by rw [hnl, hcs, ← Nat.add_mul]; exact Nat.mul_le_mul_right _ hroom
            have hrun := run_app_room (P := P) w t o.type e E inf ht hi L.b len L.cap cs hh ad rows.length xc news hnl hnews hone hroom hfit
            have hex : (execOp a.eval o).run P w = .ok (.value (.slice (some ⟨L.b, 0, none⟩) (len + rows.length) L.cap)) (w.setRow L.b (cs.toList.take (len * inf.size) ++ news ++ cs.toList.drop (len * inf.size + news.length)).toArray) := by
              simp [execOp, ho, resolve, invoke, builtin, hv, hv', hrun]
            rw [hex, Oper.upon_value]
            obtain ⟨hset, hles⟩ := hkill.setFree hown hbox hobj (cs.toList.take (len * inf.size) ++ news ++ cs.toList.drop (len * inf.size + news.length)).toArray
            obtain ⟨M', hnew, hle, hob⟩ := hset.addObj (k := d) hfo' ⟨L.b, inf.size, L.cap, false⟩ (rows := all.take len ++ rows) (.inr ⟨rfl, hown, _, E, setRow_heap w L.b cs _ E (0, 0) hh, by
              simp only [List.size_toArray, List.length_append, List.length_take, List.length_drop, Array.length_toList]; omega, by simp; omega, hcm0, by
              simp only []; exact (RVR.mono hles.cl _ _ _ hRnew).ext _⟩) (fun j b hj _ e => hbox j (by rw [hj, e])) (fun j q L' hj hL' hn' _ => hobj j q L' hj hL' hn')
            exact fin M' _ _ (by simpa using hnew) (hles.trans hle) (by simp only [RV]; exact ⟨_, hob, .inr ⟨rfl, by simpa using hroom, some ⟨L.b, 0, none⟩, by simp, fun _ => by simp⟩⟩)
          · have holds : ∀ j u, (cs.toList.take (len * inf.size))[j]? = some u → w.cell? ((⟨L.b, 0, none⟩ : Addr).add j) = some u := by
              intro j u hj
              rw [Addr.add_lit]
              exact (Cells.of_block hh).take _ j u hj
            have hrun := run_append_grow (P := P) w t o.type e inf z ht hi hz ⟨L.b, 0, none⟩ len L.cap _ holdl holds ad rows.length xc news hnl hnews (by omega) (by unfold maxLen at hm; omega) (growslice_fits (by omega) hb)
            have hex : (execOp a.eval o).run P w = .ok (.value (.slice (some ⟨w.heap.size, 0, none⟩) (len + rows.length) (grownCap w (len + rows.length) L.cap e))) (w.drew.alloc (.cells ((cs.toList.take (len * inf.size)).toArray ++ news.toArray ++ Builtin.zeroCells z.cells (grownCap w (len + rows.length) L.cap e - (len + rows.length))) e)) := by
              unfold execOp
              simp only [ho, resolve, invoke, builtin, hv, hv', Sem.run_bind, Sem.run_pure, Result.andThen_ok, List.map_toArray, List.map_cons, List.map_nil, hrun]
            rw [hex]
            rw [Oper.upon_value]
            have hge := grownCap_ge w (len + rows.length) L.cap e
            have hcm := grownCap_le_maxLen w (len + rows.length) L.cap e hm
            obtain ⟨M', hnew, hle, hob⟩ := hkill.grow (d := d) hfo' (cells := (cs.toList.take (len * inf.size)).toArray ++ news.toArray ++ Builtin.zeroCells z.cells (grownCap w (len + rows.length) L.cap e - (len + rows.length))) (e := e) (sz := inf.size) (cap := grownCap w (len + rows.length) L.cap e) (rows := all.take len ++ rows)
              (by simp only [Array.size_append, List.size_toArray, size_zeroCells, hzs, hnl, holdl, ← Nat.add_mul]; congr 1; omega) (by simp; omega) hcm (by simp only [Array.toList_append]; exact hRnew.ext _)
            refine fin M' _ _ hnew hle ?_
            simp only [RV]; exact ⟨_, hob, .inr ⟨rfl, by simpa using hge, some ⟨w.heap.size, 0, none⟩, by simp, fun _ => by simp⟩⟩

/-! ### An element of an own slice is written -/

theorem HRel.setObj {w0 : World} {X : Nat → Prop} {S0 : Base} {M : Mem} {B : BMap} {O : OMap} {w : World} (h : HRel w0 X S0 M B O w) {k : Nat} {L : Loc} {sz : Nat} {rows rows' : List (List PV)} {cs cs' : Array Value} {E : TypeId} (hk : O k = some (some (false, sz, rows))) (hL : M.ob k = some L) (hn : L.nil = false)
    (hh : w.heap[L.b]? = some (.cells cs E (0, 0))) (hsz : cs'.size = L.cap * sz) (hlen : rows'.length ≤ L.cap) (hR : RVR M.cl w sz rows' cs'.toList) :
    HRel w0 X S0 M B (upd O [(k, some (false, sz, rows'))]) (w.setRow L.b cs') ∧ M.Le M w (w.setRow L.b cs') := by
  obtain ⟨hLs, hc⟩ := h.obj' hk hL
  rcases hc with ⟨e, _⟩ | ⟨_, _, hown, _, _, _, _, _, hm, _⟩
  · rw [hn] at e; cases e
  have hown := hown rfl
  have hne : ∀ x, M.st x → x ≠ L.b := fun x hx e => hown.2 (e ▸ hx)
  have hle : M.Le M w (w.setRow L.b cs') := ⟨fun _ h => h, fun _ _ h => h, fun _ _ h => h, fun x hx => setRow_other w L.b x cs' (hne x hx)⟩
  have holo : ∀ j q, j ≠ k → upd O [(k, some (false, sz, rows'))] j = some q → O j = some q := fun j q e hj => by rw [upd_one, if_neg e] at hj; exact hj
  have hlive : ∀ j q, upd O [(k, some (false, sz, rows'))] j = some (some (false, q)) → ∃ q', O j = some (some (false, q')) := by
    intro j q hj
    by_cases e : j = k
    · subst e; exact ⟨_, hk⟩
    · exact ⟨q, holo j _ e hj⟩
  refine ⟨{ os := h.os, tape := h.tape, out := h.out, size := by simpa using h.size, kept := ?_, stlt := by simpa using h.stlt, stok := h.stok, box := ?_, boxKey := h.boxKey, obj := ?_, objKey := ?_, boxNe := h.boxNe, objNe := ?_, boxObj := ?_, pinB := fun k b hk => hle.bx k b (h.pinB k b hk), pinO := fun k L hk => hle.ob k L (h.pinO k L hk) }, hle⟩
  · intro x hx hX
    have : x ≠ L.b := by
      intro e; subst e
      rcases hown.1 with h1 | h1
      · omega
      · exact hX h1
    rw [setRow_other w L.b x cs' this]
    exact h.kept x hx hX
  · intro j lj hj
    obtain ⟨b', T', cs'', h1, h2, h3, h4⟩ := h.box j lj hj
    have : b' ≠ L.b := fun e => h.boxObj j k b' _ L h1 hk hL hn e
    exact ⟨b', T', cs'', h1, h2, by rw [setRow_other w L.b b' cs' this]; exact h3, RVL.mono hle _ _ h4⟩
  · intro j fz sz' rs hj
    by_cases e : j = k
    · subst e
      rw [upd_one, if_pos rfl] at hj
      simp only [Option.some.injEq, Prod.mk.injEq] at hj
      obtain ⟨rfl, rfl, rfl⟩ := hj
      exact ⟨L, hL, hLs, .inr ⟨hn, (fun e => by cases e), fun _ => hown, cs', E, setRow_heap w L.b cs cs' E (0, 0) hh, hsz, hlen, hm, RVR.mono hle.cl _ _ _ hR⟩⟩
    · have hj := holo j _ e hj
      obtain ⟨L', h1, h2, h3⟩ := h.obj j fz sz' rs hj
      refine ⟨L', h1, h2, ?_⟩
      rcases h3 with h3 | ⟨h3, hf, ho, c, E', h5, h6, h7, h8, h9⟩
      · exact .inl h3
      · have : L'.b ≠ L.b := by
          cases fz with
          | true => exact hne _ (hf rfl)
          | false => exact fun eb => e (h.objNe j k _ _ L' L hj hk h1 hL h3 hn eb)
        exact .inr ⟨h3, hf, ho, c, E', by rw [setRow_other w L.b L'.b cs' this]; exact h5, h6, h7, h8, RVR.mono hle.cl _ _ _ h9⟩
  · intro j L' hj
    rw [upd_one]
    by_cases e : j = k
    · exact ⟨_, if_pos e⟩
    · rw [if_neg e]; exact h.objKey j L' hj
  · intro i j o o' Li Lj hi hj
    obtain ⟨q, hq⟩ := hlive i o hi
    obtain ⟨q', hq'⟩ := hlive j o' hj
    exact h.objNe i j q q' Li Lj hq hq'
  · intro i j b o L' hi hj
    obtain ⟨q, hq⟩ := hlive j o hj
    exact h.boxObj i j b q L' hi hq

theorem RVR.splice {M : Mem} {w : World} {sz : Nat} {ns : List PV} {ds : List Value} (off : Nat) (hns : RVL M w ns ds) (hfit : off + ns.length ≤ sz) : ∀ {rows : List (List PV)} {cs : List Value} (i : Nat) {row : List PV}, RVR M w sz rows cs → rows[i]? = some row →
    RVR M w sz (rows.set i (Pv.splice row off ns)) (cs.take (i * sz + off) ++ ds ++ cs.drop (i * sz + off + ds.length))
  | [], cs, i, row, _, hi => by simp at hi
  | r :: rs, cs, 0, row, h, hi => by
    simp at hi; subst hi
    simp only [RVR] at h
    obtain ⟨c1, c2, rfl, hr, h1, h2⟩ := h
    have hc1 : c1.length = sz := by rw [h1.length, hr]
    have hds := hns.length
    simp only [Nat.zero_mul, Nat.zero_add, List.set_cons_zero, RVR]
    refine ⟨c1.take off ++ ds ++ c1.drop (off + ds.length), c2, ?_, ?_, RVL.splice off h1 hns, h2⟩
    · rw [List.take_append_of_le_length (by omega), List.drop_append_of_le_length (by omega)]
      simp
    · unfold Pv.splice
      simp
      omega
  | r :: rs, cs, i + 1, row, h, hi => by
    simp at hi
    simp only [RVR] at h
    obtain ⟨c1, c2, rfl, hr, h1, h2⟩ := h
    have hc1 : c1.length = sz := by rw [h1.length, hr]
    have ih := RVR.splice off hns hfit i h2 hi
    have e1 : (i + 1) * sz + off = c1.length + (i * sz + off) := by simp only [Nat.add_mul, Nat.one_mul]; omega
    simp only [List.set_cons_succ, RVR]
    refine ⟨c1, _, ?_, hr, h1, ih⟩
    rw [e1, List.take_length_add_append, show c1.length + (i * sz + off) + ds.length = c1.length + (i * sz + off + ds.length) by omega, List.drop_length_add_append]
    simp

theorem os_storeEo {P : Program} {o : Oper} {ts : List PV} {t : TypeId} {inf : TypeInfo} {x y : Operand} {k i off sz : Nat} {rows : List (List PV)} {row : List PV} {p : PV} (ho : o.op = .store t x y) (hi : P.info? t = some inf)
    (hx : aev ts x = .eo k i off) (hy : aev ts y = p) (hp : (leaves p).all leaf1 = true) (hn : (leaves p).length = inf.size) (hrow : rows[i]? = some row) (hfit : off + (leaves p).length ≤ sz) (hpl : plainL (leaves p) = true) :
    OpSem P o ⟨.bad, [], [(k, false, sz, rows)], [], [], [], [(k, some (false, sz, rows.set i (splice row off (leaves p))))]⟩ ts := by
  intro w0 X S0 M s a w Q K hr hl hs hk
  rw [ho] at hl
  have h2 := ev_of hr hl (x := x) (by simp [Op.operands]) hx
  have h3 := ev_of hr hl (x := y) (by simp [Op.operands]) hy
  simp only [RV] at h2
  obtain ⟨L, hL, hnil, hv⟩ := h2
  have hO := hs.2.1 (k, false, sz, rows) (by simp)
  obtain ⟨hLs, hc⟩ := hr.toHRel.obj' hO hL
  rcases hc with ⟨e, _⟩ | ⟨_, _, _, cs, E, hh, hcs, hlen0, _, hR⟩
  · rw [hnil] at e; cases e
  have hlv := leaves_sound hp h3
  have hlen := hlv.length
  have hilt : i < rows.length := (List.getElem?_eq_some_iff.1 hrow).1
  have hbound : i * sz + sz ≤ cs.size := by
    rw [hcs]
    have : (i + 1) * sz ≤ L.cap * sz := Nat.mul_le_mul_right _ (by omega)
    rw [Nat.add_mul, Nat.one_mul] at this
    exact this
  have hrun := run_storeCells_at P L.b (i * sz + off) E (a.eval y).cells.toList 0 cs w hh (by rw [Nat.add_zero, hlen]; omega) (leaves1_sound hp hlv)
  simp only [Nat.add_zero] at hrun
  have hsz : (a.eval y).cells.size = inf.size := by rw [← hn, ← hlen]; simp
  unfold Oper.wp
  have hex : (execOp a.eval o).run P w = .ok .skip (w.setRow L.b (cs.toList.take (i * sz + off) ++ (a.eval y).cells.toList ++ cs.toList.drop (i * sz + off + (a.eval y).cells.toList.length)).toArray) := by
    simp [execOp, ho, hv, Instr.storeAt, Instr.sureAddr, storeVar, sizeOf, typeInfo, hi, hsz, hLs]
    simp at hrun
    rw [hsz] at hrun
    simp [hrun]
  rw [hex, Oper.upon_skip]
  obtain ⟨hnew, hle⟩ := hr.toHRel.setObj (rows' := rows.set i (splice row off (leaves p))) (cs' := (cs.toList.take (i * sz + off) ++ (a.eval y).cells.toList ++ cs.toList.drop (i * sz + off + (a.eval y).cells.toList.length)).toArray) hO hL hnil hh
    (by simp only [List.size_toArray, List.length_append, List.length_take, List.length_drop, Array.length_toList]; rw [← hcs]; have : (a.eval y).cells.size = (leaves p).length := by rw [← hlen]; simp
        omega) (by simpa using hlen0) (by simpa using RVR.splice off (RVL.toCl _ _ hpl hlv) (by omega) i hR hrow)
  refine hk M _ _ ?_
  have hr' : Rel w0 X S0 M ⟨s.tmps, s.B, upd s.O [(k, some (false, sz, rows.set i (splice row off (leaves p))))]⟩ a _ := ⟨hnew, hr.dfr, hr.len, fun t => RV.mono hle _ _ (hr.tmp t)⟩
  have := rel_put hr' o.dst (p := .bad) (v := undef) (by simp [RV])
  simpa [St.apply, upd_nil] using this


/-! ### Floats: sums that may be a NaN, some NaN -/

def fres (op : BinOp) (a b : Nat) : Option (Option Nat) := match op with
  | .add => some (Ieee.double.add a b)
  | .sub => some (Ieee.double.sub a b)
  | .mul => some (Ieee.double.mul a b)
  | .quo => some (Ieee.double.div a b)
  | _ => none
def fpv : Option Nat → PV
  | some r => .sc (.float .f64 r)
  | none => .nn .f64

theorem nan_cut (x y t : Nat) : (FloatKind.f64.format.read ((Question.nanBits .f64 x y).cut t)).isNaN = true := by
  have e : (Question.nanBits .f64 x y).cut t = (t % 2) * 2 ^ 63 + 0x7ff0000000000000 + 1 + (t / 2) % (2 ^ 52 - 1) := rfl
  rw [e]
  have hs : FloatKind.f64.format.signWeight = 2 ^ 63 := by decide
  have hb : FloatKind.f64.format.binade = 2 ^ 52 := by decide
  have hi : FloatKind.f64.format.infRung = 0x7ff0000000000000 := by decide
  unfold Ieee.Format.read
  simp only [hs, hb, hi]
  have h1 : (t / 2) % (2 ^ 52 - 1) < 2 ^ 52 - 1 := Nat.mod_lt _ (by decide)
  generalize (t / 2) % (2 ^ 52 - 1) = u at *
  have h2 : t % 2 < 2 := Nat.mod_lt _ (by decide)
  generalize t % 2 = v at *
  have h3 : (v * 2 ^ 63 + 0x7ff0000000000000 + 1 + u) % 2 ^ 63 = 0x7ff0000000000000 + 1 + u := by omega
  rw [h3, if_neg (by omega), if_neg (by omega), if_neg (by omega)]
  rfl

theorem wp_float {P : Program} {o : Oper} {op : BinOp} {t t' : TypeId} {x y : Operand} {a b : Nat} {res : Option Nat} (ho : o.op = .binOp op t x y t') {w0 : World} {X : Nat → Prop} {S0 : Base} {M : Mem} {s : St} {ac : Act} {w : World} {Q : Exit → Act → World → Prop} {K : Act → World → Prop} (hrel : Rel w0 X S0 M s ac w)
    (h1 : ac.eval x = .float .f64 a) (h2 : ac.eval y = .float .f64 b) (hr : fres op a b = some res) (hk : ∀ M' a' w', Rel w0 X S0 M' (s.apply o.dst (vE (fpv res))) a' w' → K a' w') : o.wp P ac w K Q := by
  unfold Oper.wp
  cases res with
  | some r =>
    have hex : (execOp ac.eval o).run P w = .ok (.value (.float .f64 r)) w := by
      cases op <;> simp only [fres, Option.some.injEq, reduceCtorEq] at hr <;> simp [execOp, ho, h1, h2, eqGuard, binOp, Op.floatArith, FloatKind.format, hr, Sem.run]
    rw [hex, Oper.upon_value]
    refine hk M _ _ ?_
    have := rel_put hrel o.dst (p := .sc (.float .f64 r)) (v := .float .f64 r) (by simp [RV])
    simpa [St.apply, upd_nil, vE, fpv] using this
  | none =>
    have hex : (execOp ac.eval o).run P w = .ok (.value (.float .f64 ((Question.nanBits .f64 a b).cut (w.tape w.drawn (.nanBits .f64 a b))))) w.drew := by
      cases op <;> simp only [fres, Option.some.injEq, reduceCtorEq] at hr <;> simp [execOp, ho, h1, h2, eqGuard, binOp, Op.floatArith, FloatKind.format, hr, Sem.run, Go.choose, Question.forced]
    rw [hex, Oper.upon_value]
    refine hk M _ _ ?_
    have hle : M.Le M w w.drew := ⟨fun _ h => h, fun _ _ h => h, fun _ _ h => h, fun _ _ => rfl⟩
    have hr' := hrel.world hle rfl rfl rfl (Nat.le_refl _) (fun _ _ => rfl)
    have := rel_put hr' o.dst (p := .nn .f64) (v := .float .f64 ((Question.nanBits .f64 a b).cut (w.tape w.drawn (.nanBits .f64 a b)))) (by simp only [RV]; exact ⟨_, rfl, nan_cut _ _ _⟩)
    simpa [St.apply, upd_nil, vE, fpv] using this

theorem os_float {P : Program} {o : Oper} {ts : List PV} {op : BinOp} {t t' : TypeId} {x y : Operand} {a b : Nat} {res : Option Nat} (ho : o.op = .binOp op t x y t') (hx : aev ts x = .sc (.float .f64 a)) (hy : aev ts y = .sc (.float .f64 b)) (hr : fres op a b = some res) : OpSem P o (vE (fpv res)) ts := by
  intro w0 X S0 M s ac w Q K hrel hl hs hk
  rw [ho] at hl
  have h1 := ev_of hrel hl (x := x) (by simp [Op.operands]) hx
  have h2 := ev_of hrel hl (x := y) (by simp [Op.operands]) hy
  simp only [RV] at h1 h2
  exact wp_float ho hrel h1 h2 hr hk

/-- What comes of some NaN. -/
def nres : BinOp → Option PV
  | .add | .sub | .mul | .quo => some (.nn .f64)
  | .eql | .lss | .leq | .gtr | .geq => some (.sc (.bool false))
  | .neq => some (.sc (.bool true))
  | _ => none
def fnn : PV → Bool
  | .nn .f64 => true
  | .sc (.float .f64 _) => true
  | _ => false
def nnB : PV → Bool
  | .nn _ => true
  | _ => false
theorem nan_arith {a b : Nat} (h : (FloatKind.f64.format.read a).isNaN = true ∨ (FloatKind.f64.format.read b).isNaN = true) : Ieee.double.add a b = none ∧ Ieee.double.sub a b = none ∧ Ieee.double.mul a b = none ∧ Ieee.double.div a b = none ∧ FloatKind.f64.format.order a b = none := by
  have e : FloatKind.f64.format = Ieee.double := rfl
  rw [e] at h ⊢
  unfold Ieee.Format.add Ieee.Format.sub Ieee.Format.mul Ieee.Format.div Ieee.Format.order
  cases ha : Ieee.double.read a <;> cases hb : Ieee.double.read b <;> rw [ha, hb] at h <;> simp_all [Ieee.Datum.isNaN, Ieee.Datum.sum, Ieee.Datum.product, Ieee.Datum.quotient, Ieee.Datum.order, Ieee.Datum.opposite]
theorem os_nan {P : Program} {o : Oper} {ts : List PV} {op : BinOp} {t t' : TypeId} {x y : Operand} {p q r : PV} (ho : o.op = .binOp op t x y t') (hx : aev ts x = p) (hy : aev ts y = q) (hp : fnn p = true) (hq : fnn q = true) (hn : (nnB p || nnB q) = true) (hr : nres op = some r) : OpSem P o (vE r) ts := by
  intro w0 X S0 M s ac w Q K hrel hl hs hk
  rw [ho] at hl
  have h1 := ev_of hrel hl (x := x) (by simp [Op.operands]) hx
  have h2 := ev_of hrel hl (x := y) (by simp [Op.operands]) hy
  have key : ∀ p : PV, ∀ v : Value, fnn p = true → RV M w p v → ∃ n, v = .float .f64 n ∧ (nnB p = true → (FloatKind.f64.format.read n).isNaN = true) := by
    intro p v hp hv
    unfold fnn at hp
    split at hp
    · simp only [RV] at hv
      obtain ⟨n, e, hn⟩ := hv
      exact ⟨n, e, fun _ => hn⟩
    · simp only [RV] at hv
      exact ⟨_, hv, fun h => by simp [nnB] at h⟩
    · cases hp
  obtain ⟨a, ea, na⟩ := key p _ hp h1
  obtain ⟨b, eb, nb⟩ := key q _ hq h2
  have hab : (FloatKind.f64.format.read a).isNaN = true ∨ (FloatKind.f64.format.read b).isNaN = true := by
    simp only [Bool.or_eq_true] at hn
    rcases hn with h | h
    · exact .inl (na h)
    · exact .inr (nb h)
  obtain ⟨k1, k2, k3, k4, k5⟩ := nan_arith hab
  have cmp : ∀ bb : Bool, r = .sc (.bool bb) → (execOp ac.eval o).run P w = .ok (.value (.bool bb)) w → o.wp P ac w K Q := fun bb er hex => by
    subst er
    unfold Oper.wp
    rw [hex, Oper.upon_value]
    refine hk M _ _ ?_
    have := rel_put hrel o.dst (p := .sc (.bool bb)) (v := .bool bb) (by simp [RV])
    simpa [St.apply, upd_nil, vE] using this
  cases op <;> simp only [nres, Option.some.injEq, reduceCtorEq] at hr
  · exact wp_float (res := none) ho hrel ea eb (by simp [fres, k1]) (by subst hr; exact hk)
  · exact wp_float (res := none) ho hrel ea eb (by simp [fres, k2]) (by subst hr; exact hk)
  · exact wp_float (res := none) ho hrel ea eb (by simp [fres, k3]) (by subst hr; exact hk)
  · exact wp_float (res := none) ho hrel ea eb (by simp [fres, k4]) (by subst hr; exact hk)
  · exact cmp false hr.symm (by simp [execOp, ho, ea, eb, eqGuard, binOp, Op.floatCmp, k5, Sem.run])
  · exact cmp true hr.symm (by simp [execOp, ho, ea, eb, eqGuard, binOp, Op.floatCmp, k5, Sem.run])
  · exact cmp false hr.symm (by simp [execOp, ho, ea, eb, eqGuard, binOp, Op.floatCmp, k5, Sem.run])
  · exact cmp false hr.symm (by simp [execOp, ho, ea, eb, eqGuard, binOp, Op.floatCmp, k5, Sem.run])
  · exact cmp false hr.symm (by simp [execOp, ho, ea, eb, eqGuard, binOp, Op.floatCmp, k5, Sem.run])
  · exact cmp false hr.symm (by simp [execOp, ho, ea, eb, eqGuard, binOp, Op.floatCmp, k5, Sem.run])

/-- A new slice of noughts, each in one cell. -/
theorem rvr_rep {M : Mem} {w : World} (v : Value) : ∀ n : Nat, RVR M w 1 (List.replicate n [.sc v]) (List.replicate n v)
  | 0 => by simp [RVR]
  | n + 1 => by
    rw [List.replicate_succ, List.replicate_succ]
    simp only [RVR]
    exact ⟨[v], List.replicate n v, rfl, rfl, by simp [RVL, RV], rvr_rep v n⟩
theorem made_one {z : Array Value} {v : Value} (hz : z.toList = [v]) (n : Nat) : (madeCells z n).toList = List.replicate n v := by
  have hz2 : z = #[v] := by apply Array.ext'; simpa using hz
  subst hz2
  apply List.ext_getElem
  · simp [madeCells]
  · intro i h1 h2
    simp [madeCells, Nat.mod_one]
theorem HRel.grow1 {w0 : World} {X : Nat → Prop} {S0 : Base} {M : Mem} {B : BMap} {O : OMap} {w : World} (h : HRel w0 X S0 M B O w) {d : Nat} (hd : O d = none) {cells : Array Value} {e : TypeId} {sz cap : Nat} {rows : List (List PV)} (hsz : cells.size = cap * sz) (hlen : rows.length ≤ cap) (hm : cap ≤ maxLen) (hR : RVR M.cl w sz rows cells.toList) :
    ∃ M', HRel w0 X S0 M' B (upd O [(d, some (false, sz, rows))]) (w.alloc (.cells cells e)) ∧ M.Le M' w (w.alloc (.cells cells e)) ∧ M'.ob d = some ⟨w.heap.size, sz, cap, false⟩ := by
  generalize hnw : w.alloc (.cells cells e) = w1
  have hh : ∀ b, b < w.heap.size → w1.heap[b]? = w.heap[b]? := fun b hlt => by subst hnw; exact heap_alloc_ne w _ hlt
  have hle0 : M.Le M w w1 := ⟨fun _ h => h, fun _ _ h => h, fun _ _ h => h, fun b hb => hh b (h.stlt b hb)⟩
  have hrel1 : HRel w0 X S0 M B O w1 := h.world hle0 (by subst hnw; rfl) (by subst hnw; rfl) (by subst hnw; rfl) (by subst hnw; simp) hh
  have hblk : w1.heap[w.heap.size]? = some (.cells cells e (0, 0)) := by subst hnw; exact heap_alloc_eq w _
  obtain ⟨M', hnew, hle, hob⟩ := hrel1.addObj (k := d) hd ⟨w.heap.size, sz, cap, false⟩ (rows := rows) (.inr ⟨rfl, ⟨.inl h.size, fun hs => Nat.lt_irrefl _ (h.stlt _ hs)⟩, cells, e, hblk, hsz, hlen, hm, RVR.mono hle0.cl _ _ _ hR⟩)
    (fun j b hj _ => by
      obtain ⟨ls, hls⟩ := h.boxKey j b hj
      obtain ⟨_, T, cs, hc, _⟩ := h.box' hls hj
      exact Nat.ne_of_lt (lt_of_heap hc))
    (fun j q L' hj hL' hn _ => by
      obtain ⟨_, hcase⟩ := h.obj' (fz := false) (sz := q.1) (rows := q.2) hj hL'
      rcases hcase with ⟨h, _⟩ | ⟨_, _, _, cs, E, hc, _⟩
      · rw [hn] at h; cases h
      · exact Nat.ne_of_lt (lt_of_heap hc))
  exact ⟨M', hnew, hle0.trans hle, hob⟩
theorem os_make {P : Program} {o : Oper} {ts : List PV} {x y : Operand} {t e : TypeId} {inf : TypeInfo} {z : Value} {v : Value} {kl kc : IntKind} {n : Int} {d : Nat}
    (ho : o.op = .makeSlice t x y) (ht : P.underlying t = some (.slice e)) (hi : P.info? e = some inf) (hz : inf.zero = some z) (hzs : z.cells.toList = [v]) (hs1 : inf.size = 1)
    (hx : aev ts x = .sc (.int kl n)) (hy : aev ts y = .sc (.int kc n)) (h0 : 0 ≤ n) (hb : n.toNat * inf.bytes ≤ 140737488355328) (hm : n.toNat ≤ maxLen) :
    OpSem P o ⟨.ow d 0 n.toNat, [], [], [], [d], [], [(d, some (false, inf.size, List.replicate n.toNat [.sc v]))]⟩ ts := by
  intro w0 X S0 M s a w Q K hr hl hs hk
  rw [ho] at hl
  have h1 := ev_of hr hl (x := x) (by simp [Op.operands]) hx
  have h2 := ev_of hr hl (x := y) (by simp [Op.operands]) hy
  simp only [RV] at h1 h2
  have hfo := hs.2.2.2 d (by simp)
  unfold Oper.wp
  have hbi : (inf.bytes : Int) * n ≤ 281474976710656 := by
    obtain ⟨m, rfl⟩ := Int.eq_ofNat_of_zero_le h0
    have : inf.bytes * m ≤ 281474976710656 := by
      rw [Nat.mul_comm]; simp only [Int.toNat_natCast] at hb; omega
    rw [← Int.natCast_mul]; omega
  have hn63 : n ≤ 9223372036854775807 := by
    have h := hm
    simp [maxLen] at h
    omega
  have hrun := run_make (P := P) w t e inf z ht hi hz kl kc n n h0 (Int.le_refl _) hbi hn63
  have hex : (execOp a.eval o).run P w = .ok (.value (.slice (some ⟨w.heap.size, 0, none⟩) n.toNat n.toNat)) (w.alloc (.cells (madeCells z.cells (n.toNat * inf.size)) e)) := by
    simp [execOp, ho, h1, h2, hrun]
  rw [hex, Oper.upon_value]
  rw [hs1, Nat.mul_one] at *
  obtain ⟨M', hnew, hle, hob⟩ := hr.toHRel.grow1 (d := d) hfo (cells := madeCells z.cells n.toNat) (e := e) (sz := 1) (cap := n.toNat) (rows := List.replicate n.toNat [.sc v])
    (by rw [size_madeCells, Nat.mul_one]) (by simp) hm (by rw [made_one hzs]; exact rvr_rep v _)
  refine hk M' _ _ ?_
  have hr' : Rel w0 X S0 M' ⟨s.tmps, s.B, upd s.O [(d, some (false, 1, List.replicate n.toNat [.sc v]))]⟩ a _ := ⟨hnew, hr.dfr, hr.len, fun t => RV.mono hle _ _ (hr.tmp t)⟩
  have := rel_put hr' o.dst (p := .ow d 0 n.toNat) (v := .slice (some ⟨w.heap.size, 0, none⟩) n.toNat n.toNat) (by
    simp only [RV]; exact ⟨_, hob, .inr ⟨rfl, by simp, some ⟨w.heap.size, 0, none⟩, by simp, fun _ => by simp⟩⟩)
  simpa [St.apply, upd_nil] using this
end Go.Pv

/-
  Contracts of functions, and calls. Generic over the program.
-/
namespace Go.Pv

def closedM (st : Nat → Prop) : Mem := ⟨st, fun _ => none, fun _ => none⟩

def osMap (os : List (Nat × List (List PV))) : OMap := fun k => match os[k]? with
  | some (sz, rows) => some (some (false, sz, rows))
  | none => none

/-- A call of a Go function, or of one without a body that the model answers at once. -/
def Runs (P : Program) (f : FuncId) (vs : Array Value) (w : World) (R : Ending → World → Prop) : Prop :=
  ((callFunc f vs).run P w = .ok (.enter f vs) w ∧ Calls P f vs w R) ∨ ∃ v w', (callFunc f vs).run P w = .ok (.value v) w' ∧ R (.returned v) w'

/-- The contract: called with values that read as 'args', the function answers what reads as 'r'; its new slices are 'os'; nothing that was there has changed. -/
structure Ctr (P : Program) (f : Nat) (args : List PV) (r : PV) (os : List (Nat × List (List PV))) : Prop where
  run : ∀ (w : World) (st : Nat → Prop) (vs : List Value), (∀ b, st b → b < w.heap.size) → RVL (closedM st) w args vs →
    Runs P f vs.toArray w fun e w' => ∃ v M', e = .returned v ∧ RV M' w' r v ∧ HRel w (fun _ => False) (Base.of st) M' (fun _ => none) (osMap os) w'

/-! ### What a callee made becomes the caller's -/

mutual
def shift (n : Nat) : PV → PV
  | .ag ps => .ag (shiftL n ps)
  | .tu ps => .tu (shiftL n ps)
  | .ow k lo len => .ow (n + k) lo len
  | .eo k i off => .eo (n + k) i off
  | .cl f caps => .cl f (shiftL n caps)
  | .cm f caps => .cm f (shiftL n caps)
  | .sc v => .sc v
  | .sl sz rows => .sl sz rows
  | .nl => .nl
  | .pt k off => .pt k off
  | .bs k off len => .bs k off len
  | .ep sfx => .ep sfx
  | .ub φ => .ub φ
  | .nn kd => .nn kd
  | .ls .. => .bad
  | .lp .. => .bad
  | .bad => .bad
def shiftL (n : Nat) : List PV → List PV
  | [] => []
  | p :: ps => shift n p :: shiftL n ps
end

structure ShiftOk (n : Nat) (M M' : Mem) : Prop where
  st : ∀ b, M.st b → M'.st b
  bx : ∀ k b, M.bx k = some b → M'.bx k = some b
  ob : ∀ k L, M.ob k = some L → M'.ob (n + k) = some L

theorem ShiftOk.le {n : Nat} {M M' : Mem} (h : ShiftOk n M M') (w : World) : M.cl.Le M'.cl w w := ⟨h.st, (fun _ _ h => by cases h), (fun _ _ h => by cases h), fun _ _ => rfl⟩

mutual
theorem RV.shift {n : Nat} {M M' : Mem} {w : World} (h : ShiftOk n M M') : ∀ (p : PV) (v : Value), RV M w p v → RV M' w (Pv.shift n p) v
  | .sc x, v, hv => by simpa [RV, Pv.shift] using hv
  | .ag ps, v, hv => by
    simp only [RV, Pv.shift] at hv ⊢
    obtain ⟨cs, e, r⟩ := hv
    exact ⟨cs, e, RVL.shift h ps _ r⟩
  | .tu ps, v, hv => by
    simp only [RV, Pv.shift] at hv ⊢
    obtain ⟨cs, e, r⟩ := hv
    exact ⟨cs, e, RVL.shift h ps _ r⟩
  | .sl sz rows, v, hv => by
    simp only [RV, Pv.shift] at hv ⊢
    obtain ⟨a, m, c, e, hn, hc, r⟩ := hv
    refine ⟨a, m, c, e, hn, hc, ?_⟩
    rcases r with r | ⟨b, off, cs, ha, hs, hcl, hr⟩
    · exact .inl r
    · exact .inr ⟨b, off, cs, ha, h.st b hs, hcl, RVR.mono (h.le w) sz rows _ hr⟩
  | .nl, v, hv => by simpa [RV, Pv.shift] using hv
  | .ow k lo len, v, hv => by
    simp only [RV, Pv.shift] at hv ⊢
    obtain ⟨L, hL, r⟩ := hv
    exact ⟨L, h.ob k L hL, r⟩
  | .pt k off, v, hv => by
    simp only [RV, Pv.shift] at hv ⊢
    obtain ⟨b, hb, r⟩ := hv
    exact ⟨b, h.bx k b hb, r⟩
  | .bs k off len, v, hv => by
    simp only [RV, Pv.shift] at hv ⊢
    obtain ⟨b, hb, r⟩ := hv
    exact ⟨b, h.bx k b hb, r⟩
  | .ep sfx, v, hv => by
    simp only [RV, Pv.shift] at hv ⊢
    obtain ⟨b, off, cs, e, hs, hcl, hr⟩ := hv
    exact ⟨b, off, cs, e, h.st b hs, hcl, RVL.mono (h.le w) sfx _ hr⟩
  | .eo k i off, v, hv => by
    simp only [RV, Pv.shift] at hv ⊢
    obtain ⟨L, hL, r⟩ := hv
    exact ⟨L, h.ob k L hL, r⟩
  | .cl f caps, v, hv => by
    simp only [RV, Pv.shift] at hv ⊢
    obtain ⟨cs, e, r⟩ := hv
    exact ⟨cs, e, RVL.shift h caps _ r⟩
  | .cm f caps, v, hv => by
    simp only [RV, Pv.shift] at hv ⊢
    obtain ⟨cs, e, r⟩ := hv
    exact ⟨cs, e, RVL.shift h caps _ r⟩
  | .ub φ, v, hv => by simp only [RV, Pv.shift] at hv ⊢; exact hv
  | .nn kd, v, hv => by simp only [RV, Pv.shift] at hv ⊢; exact hv
  | .ls .., v, hv => by simp [RV, Pv.shift]
  | .lp .., v, hv => by simp [RV, Pv.shift]
  | .bad, v, hv => by simp [RV, Pv.shift]
theorem RVL.shift {n : Nat} {M M' : Mem} {w : World} (h : ShiftOk n M M') : ∀ (ps : List PV) (cs : List Value), RVL M w ps cs → RVL M' w (shiftL n ps) cs
  | [], cs, hv => by simpa [RVL, shiftL] using hv
  | p :: ps, cs, hv => by
    simp only [RVL, shiftL] at hv ⊢
    obtain ⟨c, r, e, h1, h2⟩ := hv
    exact ⟨c, r, e, RV.shift h p c h1, RVL.shift h ps r h2⟩
end

/-- The objects that a call hands back, under keys from n on. -/
def newObjs (n : Nat) : List (Nat × List (List PV)) → List (Nat × Option (Bool × Nat × List (List PV)))
  | [] => []
  | (sz, rows) :: os => (n, some (false, sz, rows)) :: newObjs (n + 1) os

theorem newObjs_find (n : Nat) : ∀ (os : List (Nat × List (List PV))) (k : Nat), (newObjs n os).find? (fun p => p.1 == k) = if n ≤ k then (os[k - n]?).map (fun q => (k, some (false, q.1, q.2))) else none := by
  intro os
  induction os generalizing n with
  | nil => intro k; simp [newObjs]
  | cons q os ih =>
    intro k
    obtain ⟨sz, rows⟩ := q
    simp only [newObjs, List.find?_cons]
    by_cases e : n = k
    · subst e; simp
    · have : (n == k) = false := by simp [e]
      rw [this, ih]
      by_cases hle : n ≤ k
      · rw [if_pos hle, if_pos (by omega)]
        have : k - n = (k - (n + 1)) + 1 := by omega
        rw [this]; simp
      · rw [if_neg hle, if_neg (by omega)]

theorem upd_newObjs (O : OMap) (n : Nat) (os : List (Nat × List (List PV))) (k : Nat) : upd O (newObjs n os) k = if n ≤ k ∧ k < n + os.length then (os[k - n]?).map (fun q => some (false, q.1, q.2)) else O k := by
  unfold upd
  rw [newObjs_find]
  by_cases h1 : n ≤ k
  · rw [if_pos h1]
    by_cases h2 : k < n + os.length
    · rw [if_pos ⟨h1, h2⟩]
      cases hq : os[k - n]? with
      | none => rw [List.getElem?_eq_none_iff] at hq; omega
      | some q => simp
    · rw [if_neg (fun h => h2 h.2), List.getElem?_eq_none (by omega)]
      simp
  · rw [if_neg h1, if_neg (fun h => h1 h.1)]

theorem HRel.merge {w0 : World} {X : Nat → Prop} {S0 : Base} {M M' : Mem} {B : BMap} {O : OMap} {w w' : World} {os : List (Nat × List (List PV))} (h : HRel w0 X S0 M B O w) {S1 : Nat → Prop} (h' : HRel w (fun _ => False) (Base.of S1) M' (fun _ => none) (osMap os) w') (hst1 : ∀ b, S1 b → M.st b)
    (n : Nat) (hn : ∀ k, n ≤ k → k < n + os.length → O k = none) :
    ∃ M'', HRel w0 X S0 M'' B (upd O (newObjs n os)) w' ∧ M.Le M'' w w' ∧ ShiftOk n M' M'' := by
  have hst : ∀ b, M'.st b → M.st b ∨ w.heap.size ≤ b := by
    intro b hb
    rcases h'.stok b hb with h1 | h1 | h1
    · exact .inl (hst1 b h1)
    · exact .inr h1
    · exact h1.elim
  have hbx' : ∀ k, M'.bx k = none := by
    intro k
    cases hx : M'.bx k with
    | none => rfl
    | some b => obtain ⟨ls, hl⟩ := h'.boxKey k b hx; cases hl
  have hob' : ∀ k L, M'.ob k = some L → k < os.length := by
    intro k L hk
    obtain ⟨o, ho⟩ := h'.objKey k L hk
    unfold osMap at ho
    cases hq : os[k]? with
    | none => rw [hq] at ho; cases ho
    | some q => exact (List.getElem?_eq_some_iff.1 hq).1
  let M'' : Mem := ⟨fun b => M.st b ∨ M'.st b, M.bx, fun k => if n ≤ k ∧ k < n + os.length then M'.ob (k - n) else M.ob k⟩
  have hold : ∀ b, b < w.heap.size → w'.heap[b]? = w.heap[b]? := fun b hb => h'.kept b hb (fun x => x)
  have hMn : ∀ k, n ≤ k → k < n + os.length → M.ob k = none := fun k h1 h2 => h.ob_none (hn k h1 h2)
  have hob : ∀ k L, M.ob k = some L → M''.ob k = some L := by
    intro k L hk
    show (if n ≤ k ∧ k < n + os.length then M'.ob (k - n) else M.ob k) = some L
    rw [if_neg (fun hh => by rw [hMn k hh.1 hh.2] at hk; cases hk)]; exact hk
  have hle : M.Le M'' w w' := ⟨fun _ h => .inl h, fun _ _ h => h, hob, fun b hb => hold b (h.stlt b hb)⟩
  have hsh : ShiftOk n M' M'' := ⟨fun _ h => .inr h, (fun k b hk => by rw [hbx'] at hk; cases hk), fun k L hk => by
    show (if n ≤ n + k ∧ n + k < n + os.length then M'.ob (n + k - n) else M.ob (n + k)) = some L
    rw [if_pos ⟨by omega, by have := hob' k L hk; omega⟩, Nat.add_sub_cancel_left]; exact hk⟩
  have hown : ∀ b, b < w.heap.size → Own w0 X M b → Own w0 X M'' b := fun b hb ⟨h1, h2⟩ => ⟨h1, fun hs => by
    rcases hs with hs | hs
    · exact h2 hs
    · rcases hst b hs with hs | hs
      · exact h2 hs
      · omega⟩
  have hinv : ∀ k L, M''.ob k = some L → (n ≤ k ∧ k < n + os.length ∧ M'.ob (k - n) = some L) ∨ (¬ (n ≤ k ∧ k < n + os.length) ∧ M.ob k = some L) := by
    intro k L hk
    have hk' : (if n ≤ k ∧ k < n + os.length then M'.ob (k - n) else M.ob k) = some L := hk
    by_cases hh : n ≤ k ∧ k < n + os.length
    · rw [if_pos hh] at hk'; exact .inl ⟨hh.1, hh.2, hk'⟩
    · rw [if_neg hh] at hk'; exact .inr ⟨hh, hk'⟩
  have hnewlt : ∀ k fz sz rows L, osMap os k = some (some (fz, sz, rows)) → M'.ob k = some L → L.nil = false → w.heap.size ≤ L.b := by
    intro k fz sz rows L hk hL hnil
    obtain ⟨_, hc⟩ := h'.obj' hk hL
    rcases hc with ⟨e, _⟩ | ⟨_, hf, ho, _⟩
    · rw [hnil] at e; cases e
    · have hfz : fz = false := by
        unfold osMap at hk
        cases hq : os[k]? with
        | none => rw [hq] at hk; cases hk
        | some q => rw [hq] at hk; simp at hk; exact hk.1
      have := (ho hfz).1
      rcases this with this | this
      · exact this
      · exact this.elim
  have hnewO : ∀ k fz sz rows, n ≤ k → k < n + os.length → upd O (newObjs n os) k = some (some (fz, sz, rows)) → osMap os (k - n) = some (some (fz, sz, rows)) := by
    intro k fz sz rows h1 h2 hk
    rw [upd_newObjs, if_pos ⟨h1, h2⟩] at hk
    unfold osMap
    cases hq : os[k - n]? with
    | none => rw [hq] at hk; cases hk
    | some q =>
      rw [hq] at hk
      simp only [Option.map_some, Option.some.injEq, Prod.mk.injEq] at hk
      obtain ⟨rfl, rfl, rfl⟩ := hk
      rfl
  have hliveO : ∀ k o, ¬ (n ≤ k ∧ k < n + os.length) → upd O (newObjs n os) k = o → O k = o := by
    intro k o hh hk
    rw [upd_newObjs, if_neg hh] at hk; exact hk
  have hlt_old : ∀ k q L, O k = some (some (false, q)) → M.ob k = some L → L.nil = false → L.b < w.heap.size := by
    intro k q L hk hL hnil
    obtain ⟨_, hc⟩ := h.obj' (fz := false) (sz := q.1) (rows := q.2) hk hL
    rcases hc with ⟨e, _⟩ | ⟨_, _, _, cs, E, hc, _⟩
    · rw [hnil] at e; cases e
    · exact lt_of_heap hc
  refine ⟨M'', { os := h'.os.trans h.os, tape := h'.tape.trans h.tape, out := h'.out.trans h.out, size := Nat.le_trans h.size h'.size, kept := ?_, stlt := ?_, stok := (fun b hb => by rcases hb with hb | hb; exact h.stok b hb; rcases hst b hb with hb | hb; exact h.stok b hb; exact .inr (.inl (Nat.le_trans h.size hb))), box := ?_, boxKey := h.boxKey, obj := ?_, objKey := ?_, boxNe := h.boxNe, objNe := ?_, boxObj := ?_, pinB := fun k b hk => hle.bx k b (h.pinB k b hk), pinO := fun k L hk => hle.ob k L (h.pinO k L hk) }, hle, hsh⟩
  · intro b hb hX
    rw [hold b (Nat.lt_of_lt_of_le hb h.size)]
    exact h.kept b hb hX
  · intro b hb
    rcases hb with hb | hb
    · exact Nat.lt_of_lt_of_le (h.stlt b hb) h'.size
    · exact h'.stlt b hb
  · intro j lj hj
    obtain ⟨b', T', cs'', h1, h2, h3, h4⟩ := h.box j lj hj
    exact ⟨b', T', cs'', h1, hown _ (lt_of_heap h3) h2, by rw [hold _ (lt_of_heap h3)]; exact h3, RVL.mono hle _ _ h4⟩
  · intro j fz sz rows hj
    by_cases hh : n ≤ j ∧ j < n + os.length
    · have hj' := hnewO j fz sz rows hh.1 hh.2 hj
      obtain ⟨L, h1, h2, h3⟩ := h'.obj (j - n) fz sz rows hj'
      refine ⟨L, by show (if n ≤ j ∧ j < n + os.length then M'.ob (j - n) else M.ob j) = _; rw [if_pos hh]; exact h1, h2, ?_⟩
      rcases h3 with h3 | ⟨h3, hf, ho, c, E, h5, h6, h7, h8, h9⟩
      · exact .inl h3
      · refine .inr ⟨h3, fun e => .inr (hf e), fun e => ⟨.inl ?_, ?_⟩, c, E, h5, h6, h7, h8, RVR.mono (hsh.le w') _ _ _ h9⟩
        · have := hnewlt _ _ _ _ _ hj' h1 h3
          exact Nat.le_trans h.size this
        · rintro (hs | hs)
          · have := h.stlt _ hs
            have := hnewlt _ _ _ _ _ hj' h1 h3
            omega
          · exact (ho e).2 hs
    · have hj' := hliveO j _ hh hj
      obtain ⟨L, h1, h2, h3⟩ := h.obj j fz sz rows hj'
      refine ⟨L, hob _ _ h1, h2, ?_⟩
      rcases h3 with h3 | ⟨h3, hf, ho, c, E, h5, h6, h7, h8, h9⟩
      · exact .inl h3
      · exact .inr ⟨h3, fun e => .inl (hf e), fun e => hown _ (lt_of_heap h5) (ho e), c, E, by rw [hold _ (lt_of_heap h5)]; exact h5, h6, h7, h8, RVR.mono hle.cl _ _ _ h9⟩
  · intro j L hj
    rw [upd_newObjs]
    rcases hinv j L hj with ⟨h1, h2, _⟩ | ⟨hh, hm⟩
    · rw [if_pos ⟨h1, h2⟩]
      cases hq : os[j - n]? with
      | none => rw [List.getElem?_eq_none_iff] at hq; omega
      | some q => exact ⟨_, rfl⟩
    · rw [if_neg hh]; exact h.objKey j L hm
  · intro i j o o' Li Lj hi hj hLi hLj hni hnj heq
    rcases hinv i Li hLi with ⟨a1, a2, a3⟩ | ⟨ah, am⟩
    · have hi' := hnewO i false o.1 o.2 a1 a2 hi
      have := hnewlt _ _ _ _ _ hi' a3 hni
      rcases hinv j Lj hLj with ⟨b1, b2, b3⟩ | ⟨bh, bm⟩
      · have hj' := hnewO j false o'.1 o'.2 b1 b2 hj
        have := h'.objNe (i - n) (j - n) _ _ Li Lj hi' hj' a3 b3 hni hnj heq
        omega
      · have := hlt_old j o' Lj (hliveO j _ bh hj) bm hnj
        omega
    · have := hlt_old i o Li (hliveO i _ ah hi) am hni
      rcases hinv j Lj hLj with ⟨b1, b2, b3⟩ | ⟨bh, bm⟩
      · have hj' := hnewO j false o'.1 o'.2 b1 b2 hj
        have := hnewlt _ _ _ _ _ hj' b3 hnj
        omega
      · exact h.objNe i j o o' Li Lj (hliveO i _ ah hi) (hliveO j _ bh hj) am bm hni hnj heq
  · intro i j b o L hi hj hL hnil
    obtain ⟨ls, hls⟩ := h.boxKey i b hi
    obtain ⟨_, T, cs, hc, _⟩ := h.box' hls hi
    have := lt_of_heap hc
    rcases hinv j L hL with ⟨b1, b2, b3⟩ | ⟨bh, bm⟩
    · have hj' := hnewO j false o.1 o.2 b1 b2 hj
      have := hnewlt _ _ _ _ _ hj' b3 hnil
      omega
    · exact h.boxObj i j b o L hi (hliveO j _ bh hj) bm hnil

/-! ### Arguments: what a callee is shown of the caller's own -/

mutual
def Res (rb : List (Nat × List PV)) (ro : List (Nat × Bool × Nat × List (List PV))) : PV → PV → Prop
  | .ow k lo len, q => ∃ fz sz all, (k, fz, sz, all) ∈ ro ∧ lo + len ≤ all.length ∧ q = .sl sz ((all.drop lo).take len)
  | .pt k off, q => ∃ ls, (k, ls) ∈ rb ∧ plainL ls = true ∧ q = .ep (ls.drop off)
  | .ag ps, q => ∃ qs, q = .ag qs ∧ ResL rb ro ps qs
  | .tu ps, q => ∃ qs, q = .tu qs ∧ ResL rb ro ps qs
  | .cl f caps, q => ∃ qs, q = .cl f qs ∧ ResL rb ro caps qs
  | .cm f caps, q => ∃ qs, q = .cm f qs ∧ ResL rb ro caps qs
  | .sc v, q => q = .sc v
  | .sl sz rows, q => q = .sl sz rows
  | .nl, q => q = .nl
  | .ep sfx, q => q = .ep sfx
  | .eo .., _ => False
  | .bs .., _ => False
  | .ub φ, q => q = .ub φ
  | .nn kd, q => q = .nn kd
  | .ls sz rows, q => ∃ rows', q = .sl sz rows' ∧ ResR rb ro rows rows'
  | .lp .., _ => False
  | .bad, q => q = .bad
def ResL (rb : List (Nat × List PV)) (ro : List (Nat × Bool × Nat × List (List PV))) : List PV → List PV → Prop
  | [], qs => qs = []
  | p :: ps, qs => ∃ q r, qs = q :: r ∧ Res rb ro p q ∧ ResL rb ro ps r
def ResR (rb : List (Nat × List PV)) (ro : List (Nat × Bool × Nat × List (List PV))) : List (List PV) → List (List PV) → Prop
  | [], qs => qs = []
  | p :: ps, qs => ∃ q r, qs = q :: r ∧ ResL rb ro p q ∧ ResR rb ro ps r
end

theorem ResL.len {rb : List (Nat × List PV)} {ro : List (Nat × Bool × Nat × List (List PV))} : ∀ {ps qs : List PV}, ResL rb ro ps qs → qs.length = ps.length
  | [], qs, h => by simp only [ResL] at h; simp [h]
  | p :: ps, qs, h => by
    simp only [ResL] at h
    obtain ⟨q, r, rfl, _, h2⟩ := h
    simp [ResL.len h2]
theorem ResR.len {rb : List (Nat × List PV)} {ro : List (Nat × Bool × Nat × List (List PV))} : ∀ {ps qs : List (List PV)}, ResR rb ro ps qs → qs.length = ps.length
  | [], qs, h => by simp only [ResR] at h; simp [h]
  | p :: ps, qs, h => by
    simp only [ResR] at h
    obtain ⟨q, r, rfl, _, h2⟩ := h
    simp [ResR.len h2]

/-- The blocks that a callee may read as stable: the stable ones, and those of the caller's own that it is shown. -/
def shown (M : Mem) (rb : List (Nat × List PV)) (ro : List (Nat × Bool × Nat × List (List PV))) (b : Nat) : Prop :=
  M.st b ∨ (∃ q ∈ rb, M.bx q.1 = some b) ∨ ∃ q ∈ ro, ∃ L, M.ob q.1 = some L ∧ L.nil = false ∧ L.b = b

theorem shown_le {w0 : World} {X : Nat → Prop} {S0 : Base} {M : Mem} {B : BMap} {O : OMap} {w : World} {rb : List (Nat × List PV)} {ro : List (Nat × Bool × Nat × List (List PV))} (h : HRel w0 X S0 M B O w) (hb : ∀ q ∈ rb, B q.1 = some q.2) (ho : ∀ q ∈ ro, O q.1 = some (some q.2)) : ∀ b, shown M rb ro b → b < w.heap.size := by
  rintro b (h1 | ⟨q, hq, h2⟩ | ⟨q, hq, L, h2, h3, rfl⟩)
  · exact h.stlt b h1
  · obtain ⟨_, T, cs, hc, _⟩ := h.box' (hb q hq) h2
    exact lt_of_heap hc
  · obtain ⟨_, hc⟩ := h.obj' (fz := q.2.1) (sz := q.2.2.1) (rows := q.2.2.2) (ho q hq) h2
    rcases hc with ⟨e, _⟩ | ⟨_, _, _, cs, E, hc, _⟩
    · rw [h3] at e; cases e
    · exact lt_of_heap hc

theorem show_le (M : Mem) (rb : List (Nat × List PV)) (ro : List (Nat × Bool × Nat × List (List PV))) (w : World) : M.cl.Le (closedM (shown M rb ro)).cl w w := ⟨fun _ h => Or.inl h, (fun _ _ h => by cases h), (fun _ _ h => by cases h), fun _ _ => rfl⟩

mutual
theorem Res.sound {w0 : World} {X : Nat → Prop} {S0 : Base} {M : Mem} {B : BMap} {O : OMap} {w : World} {rb : List (Nat × List PV)} {ro : List (Nat × Bool × Nat × List (List PV))} (h : HRel w0 X S0 M B O w) (hb : ∀ q ∈ rb, B q.1 = some q.2) (ho : ∀ q ∈ ro, O q.1 = some (some q.2)) :
    ∀ (p q : PV) (v : Value), Res rb ro p q → RV M w p v → RV (closedM (shown M rb ro)) w q v
  | .sc x, q, v, hr, hv => by simp only [Res] at hr; subst hr; simpa [RV] using hv
  | .ag ps, q, v, hr, hv => by
    simp only [Res] at hr
    obtain ⟨qs, rfl, hr⟩ := hr
    simp only [RV] at hv ⊢
    obtain ⟨cs, e, r⟩ := hv
    exact ⟨cs, e, ResL.sound h hb ho ps qs _ hr r⟩
  | .tu ps, q, v, hr, hv => by
    simp only [Res] at hr
    obtain ⟨qs, rfl, hr⟩ := hr
    simp only [RV] at hv ⊢
    obtain ⟨cs, e, r⟩ := hv
    exact ⟨cs, e, ResL.sound h hb ho ps qs _ hr r⟩
  | .cl f caps, q, v, hr, hv => by
    simp only [Res] at hr
    obtain ⟨qs, rfl, hr⟩ := hr
    simp only [RV] at hv ⊢
    obtain ⟨cs, e, r⟩ := hv
    exact ⟨cs, e, ResL.sound h hb ho caps qs _ hr r⟩
  | .cm f caps, q, v, hr, hv => by
    simp only [Res] at hr
    obtain ⟨qs, rfl, hr⟩ := hr
    simp only [RV] at hv ⊢
    obtain ⟨cs, e, r⟩ := hv
    exact ⟨cs, e, ResL.sound h hb ho caps qs _ hr r⟩
  | .sl sz rows, q, v, hr, hv => by
    simp only [Res] at hr; subst hr
    simp only [RV] at hv ⊢
    obtain ⟨a, n, c, e, hn, hc, r⟩ := hv
    refine ⟨a, n, c, e, hn, hc, ?_⟩
    rcases r with r | ⟨b, off, cs, ha, hs, hcl, hR⟩
    · exact .inl r
    · exact .inr ⟨b, off, cs, ha, .inl hs, hcl, RVR.mono (show_le M rb ro w) _ _ _ hR⟩
  | .nl, q, v, hr, hv => by simp only [Res] at hr; subst hr; simpa [RV] using hv
  | .ow k lo len, q, v, hr, hv => by
    simp only [Res] at hr
    obtain ⟨fz, sz, all, hmem, hle, rfl⟩ := hr
    simp only [RV] at hv ⊢
    obtain ⟨L, hL, hcase⟩ := hv
    obtain ⟨hLs, hob⟩ := h.obj' (ho _ hmem) hL
    have hlen : ((all.drop lo).take len).length = len := by simp; omega
    rcases hcase with ⟨hn, rfl, xa, rfl⟩ | ⟨hn, hcap, xa, rfl, hxa⟩
    · exact ⟨xa, 0, 0, rfl, by simp, Nat.le_refl _, .inl (by simp)⟩
    · refine ⟨xa, len, _, rfl, hlen.symm, by omega, ?_⟩
      by_cases h0 : len = 0
      · left; subst h0; simp
      · right
        rcases hob with ⟨e, _⟩ | ⟨_, _, _, cs, E, hh, hcs, _, _, hR⟩
        · rw [hn] at e; cases e
        · have hc : Cells w L.b (0 + lo * sz) (cs.toList.drop (lo * sz)) := (Cells.of_block hh).drop (lo * sz)
          rw [Nat.zero_add] at hc
          refine ⟨L.b, lo * sz, cs.toList.drop (lo * sz), by rw [hxa (by omega), hLs], .inr (.inr ⟨_, hmem, L, hL, hn, rfl⟩), hc, ?_⟩
          exact RVR.mono (show_le M rb ro w) _ _ _ (RVR.takeRows len (RVR.dropRows lo hR))
  | .pt k off, q, v, hr, hv => by
    simp only [Res] at hr
    obtain ⟨ls, hmem, hpl, rfl⟩ := hr
    simp only [RV] at hv ⊢
    obtain ⟨b, hbx, rfl⟩ := hv
    obtain ⟨_, T, cs, hh, hcs⟩ := h.box' (hb _ hmem) hbx
    have hc : Cells w b (0 + off) (cs.toList.drop off) := (Cells.of_block hh).drop off
    rw [Nat.zero_add] at hc
    refine ⟨b, off, cs.toList.drop off, rfl, .inr (.inl ⟨_, hmem, hbx⟩), hc, ?_⟩
    refine RVL.mono (show_le M rb ro w) _ _ (RVL.drop off (RVL.toCl _ _ hpl hcs))
  | .ep sfx, q, v, hr, hv => by
    simp only [Res] at hr; subst hr
    simp only [RV] at hv ⊢
    obtain ⟨b, off, cs, e, hs, hcl, hr⟩ := hv
    exact ⟨b, off, cs, e, .inl hs, hcl, RVL.mono (show_le M rb ro w) _ _ hr⟩
  | .eo k i off, q, v, hr, hv => by simp [Res] at hr
  | .bs .., q, v, hr, hv => by simp [Res] at hr
  | .ub φ, q, v, hr, hv => by simp only [Res] at hr; subst hr; simp only [RV] at hv ⊢; exact hv
  | .nn kd, q, v, hr, hv => by simp only [Res] at hr; subst hr; simp only [RV] at hv ⊢; exact hv
  | .ls sz rows, q, v, hr, hv => by
    simp only [Res] at hr
    obtain ⟨rows', rfl, hr⟩ := hr
    simp only [RV] at hv ⊢
    obtain ⟨b, cs, e, hs, hcl, hR⟩ := hv
    exact ⟨_, _, _, e, hr.len.symm, Nat.le_refl _, .inr ⟨b, 0, cs, rfl, .inl hs, hcl, ResR.sound h hb ho sz rows rows' cs hr hR⟩⟩
  | .lp .., q, v, hr, hv => by simp [Res] at hr
  | .bad, q, v, hr, hv => by simp only [Res] at hr; subst hr; simp [RV]
theorem ResL.sound {w0 : World} {X : Nat → Prop} {S0 : Base} {M : Mem} {B : BMap} {O : OMap} {w : World} {rb : List (Nat × List PV)} {ro : List (Nat × Bool × Nat × List (List PV))} (h : HRel w0 X S0 M B O w) (hb : ∀ q ∈ rb, B q.1 = some q.2) (ho : ∀ q ∈ ro, O q.1 = some (some q.2)) :
    ∀ (ps qs : List PV) (cs : List Value), ResL rb ro ps qs → RVL M w ps cs → RVL (closedM (shown M rb ro)) w qs cs
  | [], qs, cs, hr, hv => by simp only [ResL] at hr; subst hr; simpa [RVL] using hv
  | p :: ps, qs, cs, hr, hv => by
    simp only [ResL] at hr
    obtain ⟨q, r, rfl, h1, h2⟩ := hr
    simp only [RVL] at hv ⊢
    obtain ⟨c, rr, e, h3, h4⟩ := hv
    exact ⟨c, rr, e, Res.sound h hb ho p q c h1 h3, ResL.sound h hb ho ps r rr h2 h4⟩
theorem ResR.sound {w0 : World} {X : Nat → Prop} {S0 : Base} {M : Mem} {B : BMap} {O : OMap} {w : World} {rb : List (Nat × List PV)} {ro : List (Nat × Bool × Nat × List (List PV))} (h : HRel w0 X S0 M B O w) (hb : ∀ q ∈ rb, B q.1 = some q.2) (ho : ∀ q ∈ ro, O q.1 = some (some q.2)) (sz : Nat) :
    ∀ (ps qs : List (List PV)) (cs : List Value), ResR rb ro ps qs → RVR M w sz ps cs → RVR (closedM (shown M rb ro)).cl w sz qs cs
  | [], qs, cs, hr, hv => by simp only [ResR] at hr; subst hr; simp [RVR]
  | p :: ps, qs, cs, hr, hv => by
    simp only [ResR] at hr
    obtain ⟨q, r, rfl, h1, h2⟩ := hr
    simp only [RVR] at hv ⊢
    obtain ⟨c1, c2, e, hl, h3, h4⟩ := hv
    exact ⟨c1, c2, e, h1.len.trans hl, ResL.sound h hb ho p q c1 h1 h3, ResR.sound h hb ho sz ps r c2 h2 h4⟩
end

/-- Scalars alone: no memory behind them. -/
def scal : PV → Bool
  | .sc _ => true
  | .ag ps => ps.all fun p => match p with | .sc _ => true | .nl => true | _ => false
  | .tu ps => ps.all fun p => match p with | .sc _ => true | .nl => true | .ag qs => qs.all (fun q => match q with | .sc _ => true | .nl => true | _ => false) | _ => false
  | .nl => true
  | _ => false

theorem RVL.scal1 {M M' : Mem} {w : World} : ∀ (ps : List PV) (cs : List Value), (ps.all fun p => match p with | .sc _ => true | .nl => true | _ => false) = true → RVL M w ps cs → RVL M' w ps cs
  | [], cs, _, hv => by simpa [RVL] using hv
  | p :: ps, cs, hp, hv => by
    simp only [RVL] at hv ⊢
    simp only [List.all_cons, Bool.and_eq_true] at hp
    obtain ⟨c, r, e, h1, h2⟩ := hv
    refine ⟨c, r, e, ?_, RVL.scal1 ps r hp.2 h2⟩
    cases p <;> first | (simp only [RV] at h1 ⊢; exact h1) | (exact absurd hp.1 (by simp))

theorem RV.scal {M M' : Mem} {w : World} (p : PV) (v : Value) (hp : Pv.scal p = true) (hv : RV M w p v) : RV M' w p v := by
  cases p with
  | sc x => simpa [RV] using hv
  | nl => simpa [RV] using hv
  | ag ps =>
    simp only [RV] at hv ⊢
    obtain ⟨cs, e, r⟩ := hv
    exact ⟨cs, e, RVL.scal1 ps _ (by simpa [Pv.scal] using hp) r⟩
  | tu ps =>
    simp only [RV] at hv ⊢
    obtain ⟨cs, e, r⟩ := hv
    refine ⟨cs, e, ?_⟩
    unfold Pv.scal at hp
    clear e
    generalize cs.toList = l at r
    induction ps generalizing l with
    | nil => simpa [RVL] using r
    | cons p ps ih =>
      simp only [RVL] at r ⊢
      simp only [List.all_cons, Bool.and_eq_true] at hp
      obtain ⟨c, q, e, h1, h2⟩ := r
      refine ⟨c, q, e, ?_, ih hp.2 _ h2⟩
      cases p with
      | sc x => simpa [RV] using h1
      | nl => simpa [RV] using h1
      | ag qs =>
        simp only [RV] at h1 ⊢
        obtain ⟨ds, e', r'⟩ := h1
        exact ⟨ds, e', RVL.scal1 qs _ hp.1 r'⟩
      | _ => exact absurd hp.1 (by simp)
  | _ => simp [Pv.scal] at hp

/-- What a call is: of a function by its name, or of a function value; the arguments, then what was captured. -/
def callee (ts : List PV) (c : Callee) (args : List Operand) : Option (Nat × List PV) :=
  match c with
  | .value f => match aev ts f with
    | .cl g caps => some (g, args.map (aev ts) ++ caps)
    | .cm g caps => some (g, caps ++ args.map (aev ts))
    | _ => none
  | _ => none

theorem callee_sound {P : Program} {w0 : World} {X : Nat → Prop} {S0 : Base} {M : Mem} {s : St} {a : Act} {w : World} {ts : List PV} {o : Oper} {c : Call} {f : Nat} {ps : List PV} (hr : Rel w0 X S0 M s a w) (ho : o.op = .call c) (hl : ∀ x ∈ o.op.operands.toList, aev s.tmps x = aev ts x) (hc : callee ts c.callee c.args.toList = some (f, ps)) :
    ∃ vs : List Value, RVL M w ps vs ∧ (execOp a.eval o).run P w = (callFunc f vs.toArray).run P w := by
  unfold callee at hc
  split at hc
  · rename_i g hg
    split at hc
    · rename_i g' caps hcl
      cases hc
      rw [ho] at hl
      have h1 := ev_of hr hl (x := g) (by simp [Op.operands, Call.operands, hg]) hcl
      simp only [RV] at h1
      obtain ⟨cs, hv, hcs⟩ := h1
      have hargs := map_eval hr ts c.args.toList (fun x hx => hl x (by simp only [Op.operands, Call.operands]; simp; right; simpa using hx))
      refine ⟨c.args.toList.map a.eval ++ cs.toList, hargs.append hcs, ?_⟩
      have e : (c.args.toList.map a.eval ++ cs.toList).toArray = c.args.map a.eval ++ cs := by apply Array.ext'; simp
      rw [e]
      simp [execOp, ho, resolve, hg, hv, Deferred.ofValue, invoke]
    · rename_i g' caps hcl
      cases hc
      rw [ho] at hl
      have h1 := ev_of hr hl (x := g) (by simp [Op.operands, Call.operands, hg]) hcl
      simp only [RV] at h1
      obtain ⟨cs, hv, hcs⟩ := h1
      have hargs := map_eval hr ts c.args.toList (fun x hx => hl x (by simp only [Op.operands, Call.operands]; simp; right; simpa using hx))
      refine ⟨cs.toList ++ c.args.toList.map a.eval, hcs.append hargs, ?_⟩
      have e : (cs.toList ++ c.args.toList.map a.eval).toArray = cs ++ c.args.map a.eval := by apply Array.ext'; simp
      rw [e]
      simp [execOp, ho, resolve, hg, hv, Deferred.ofValue, invoke]
    · cases hc
  · cases hc

/-- A call that answers scalars: it may be shown all that is the caller's own. -/
theorem os_callS {P : Program} {o : Oper} {ts : List PV} {c : Call} {f : Nat} {ps qs : List PV} {r : PV} {rb : List (Nat × List PV)} {ro : List (Nat × Bool × Nat × List (List PV))} (ho : o.op = .call c) (hc : callee ts c.callee c.args.toList = some (f, ps)) (hres : ResL rb ro ps qs) (hspec : Ctr P f qs r []) (hsc : scal r = true) :
    OpSem P o ⟨r, rb, ro, [], [], [], []⟩ ts := by
  intro w0 X S0 M s a w Q K hr hl hs hk
  obtain ⟨vs, hvs, hrun⟩ := callee_sound (P := P) hr ho hl hc
  have hq := ResL.sound hr.toHRel hs.1 hs.2.1 ps qs vs hres hvs
  have hS := hspec.run w (shown M rb ro) vs (shown_le hr.toHRel hs.1 hs.2.1) hq
  unfold Oper.wp
  rw [hrun]
  have fin : ∀ e w', (∃ v M', e = Ending.returned v ∧ RV M' w' r v ∧ HRel w (fun _ => False) (Base.of (shown M rb ro)) M' (fun _ => none) (osMap []) w') → ∃ v, e = .returned v ∧ K (a.put o.dst v) w' := by
    rintro e w' ⟨v, M', he, hrv, hrel⟩
    refine ⟨v, he, hk M _ _ ?_⟩
    have hold : ∀ b, b < w.heap.size → w'.heap[b]? = w.heap[b]? := fun b hb => hrel.kept b hb (fun x => x)
    have hle : M.Le M w w' := ⟨fun _ h => h, fun _ _ h => h, fun _ _ h => h, fun b hb => hold b (hr.stlt b hb)⟩
    have hr' := hr.world hle hrel.os hrel.tape hrel.out hrel.size hold
    have := rel_put hr' o.dst (RV.scal r v hsc hrv)
    simpa [St.apply, upd_nil] using this
  rcases hS with ⟨h1, h2⟩ | ⟨v, w', h1, h2⟩
  · rw [h1, Oper.upon_enter]
    refine h2.mono ?_
    intro e w' he
    obtain ⟨v, rfl, hK⟩ := fin e w' he
    exact hK
  · rw [h1, Oper.upon_value]
    obtain ⟨v', e, hK⟩ := fin _ w' h2
    cases e
    exact hK

/-- Objects that are frozen, one after the other. -/
def frozen (ro : List (Nat × Bool × Nat × List (List PV))) : List (Nat × Option (Bool × Nat × List (List PV))) := ro.map fun q => (q.1, some (true, q.2.2))

theorem upd_cons {α : Type} (f : Nat → Option α) (p : Nat × α) (l : List (Nat × α)) : upd f (p :: l) = upd (upd f l) [p] := by
  funext j
  obtain ⟨k, v⟩ := p
  rw [upd_one]
  unfold upd
  rw [List.find?_cons]
  by_cases e : k = j
  · subst e; simp
  · have e' : ¬ j = k := fun x => e x.symm
    have e2 : (k == j) = false := by simp [e]
    rw [if_neg e']
    simp only [e2]

theorem HRel.freezeAll {w0 : World} {X : Nat → Prop} {S0 : Base} {M : Mem} {B : BMap} {O : OMap} {w : World} (h : HRel w0 X S0 M B O w) : ∀ (ro : List (Nat × Bool × Nat × List (List PV))), (∀ q ∈ ro, O q.1 = some (some q.2)) →
    ∃ M', HRel w0 X S0 M' B (upd O (frozen ro)) w ∧ M.Le M' w w ∧ M'.ob = M.ob ∧ M'.bx = M.bx ∧ ∀ q ∈ ro, ∀ L, M.ob q.1 = some L → L.nil = false → M'.st L.b
  | [], _ => ⟨M, by simpa [frozen, upd_nil] using h, Mem.Le.refl M w, rfl, rfl, by simp⟩
  | q :: ro, hro => by
    obtain ⟨M1, h1, hle1, hob1, hbx1, hst1⟩ := HRel.freezeAll h ro (fun x hx => hro x (by simp [hx]))
    have hq : ∃ fz, upd O (frozen ro) q.1 = some (some (fz, q.2.2)) := by
      unfold upd
      cases hf : (frozen ro).find? (fun p => p.1 == q.1) with
      | none => exact ⟨q.2.1, hro q (by simp)⟩
      | some p =>
        have hm := List.mem_of_find?_eq_some hf
        have hk := List.find?_some hf
        simp only [frozen, List.mem_map] at hm
        obtain ⟨x, hx, rfl⟩ := hm
        simp at hk
        have e1 := hro x (by simp [hx])
        have e2 := hro q (by simp)
        rw [hk] at e1
        rw [e1] at e2
        simp only [Option.some.injEq] at e2
        exact ⟨true, by rw [e2]⟩
    obtain ⟨fz, hq⟩ := hq
    obtain ⟨M2, h2, hle2, hob2, hbx2⟩ := h1.freeze (k := q.1) (fz := fz) (sz := q.2.2.1) (rows := q.2.2.2) hq
    refine ⟨M2, ?_, hle1.trans hle2, hob2.trans hob1, hbx2.trans hbx1, ?_⟩
    · show HRel w0 X S0 M2 B (upd O ((q.1, some (true, q.2.2)) :: frozen ro)) w
      rw [upd_cons]
      exact h2
    · intro x hx L hL hn
      rcases List.mem_cons.1 hx with rfl | hx
      · obtain ⟨_, hc⟩ := h2.obj' (k := x.1) (fz := true) (sz := x.2.2.1) (rows := x.2.2.2) (L := L) (by rw [upd_one, if_pos rfl]) (by rw [hob2, hob1]; exact hL)
        rcases hc with ⟨e, _⟩ | ⟨_, hf, _⟩
        · rw [hn] at e; cases e
        · exact hf rfl
      · exact hle2.st _ (hst1 x hx L hL hn)

/-- A call that answers slices: what it was shown of the caller's own slices is not written any more; its new slices are the caller's, under keys from n on. -/
theorem os_callF {P : Program} {o : Oper} {ts : List PV} {c : Call} {f n : Nat} {ps qs : List PV} {r : PV} {os : List (Nat × List (List PV))} {ro : List (Nat × Bool × Nat × List (List PV))} (ho : o.op = .call c) (hc : callee ts c.callee c.args.toList = some (f, ps)) (hres : ResL [] ro ps qs) (hspec : Ctr P f qs r os)
    (hkeys : ∀ q ∈ ro, ¬ (n ≤ q.1 ∧ q.1 < n + os.length)) :
    OpSem P o ⟨shift n r, [], ro, [], (List.range os.length).map (n + ·), [], newObjs n os ++ frozen ro⟩ ts := by
  intro w0 X S0 M s a w Q K hr hl hs hk
  obtain ⟨vs, hvs, hrun⟩ := callee_sound (P := P) hr ho hl hc
  obtain ⟨M1, h1, hle1, hob1, hbx1, hst1⟩ := hr.toHRel.freezeAll ro hs.2.1
  have hq := ResL.sound hr.toHRel (rb := []) (by simp) hs.2.1 ps qs vs hres hvs
  have hsub : ∀ b, shown M [] ro b → M1.st b := by
    rintro b (h | ⟨q, hq, _⟩ | ⟨q, hq, L, h2, h3, rfl⟩)
    · exact hle1.st b h
    · simp at hq
    · exact hst1 q hq L h2 h3
  have hS := hspec.run w (shown M [] ro) vs (shown_le hr.toHRel (rb := []) (by simp) hs.2.1) hq
  unfold Oper.wp
  rw [hrun]
  have hfree : ∀ k, n ≤ k → k < n + os.length → upd s.O (frozen ro) k = none := by
    intro k h1 h2
    rw [upd_ne]
    · exact hs.2.2.2 k (List.mem_map.2 ⟨k - n, List.mem_range.2 (by omega), by omega⟩)
    · intro hm
      simp only [frozen, List.map_map, List.mem_map] at hm
      obtain ⟨q, hq, e⟩ := hm
      simp at e
      exact hkeys q hq ⟨by omega, by omega⟩
  have fin : ∀ e w', (∃ v M', e = Ending.returned v ∧ RV M' w' r v ∧ HRel w (fun _ => False) (Base.of (shown M [] ro)) M' (fun _ => none) (osMap os) w') → ∃ v, e = .returned v ∧ K (a.put o.dst v) w' := by
    rintro e w' ⟨v, M', he, hrv, hrel⟩
    obtain ⟨M'', hm, hle, hsh⟩ := h1.merge hrel hsub n hfree
    refine ⟨v, he, hk M'' _ _ ?_⟩
    have happ : upd (upd s.O (frozen ro)) (newObjs n os) = upd s.O (newObjs n os ++ frozen ro) := by
      funext k
      unfold upd
      rw [List.find?_append]
      cases (newObjs n os).find? (fun p => p.1 == k) <;> simp
    have hr' : Rel w0 X S0 M'' ⟨s.tmps, s.B, upd s.O (newObjs n os ++ frozen ro)⟩ a w' := ⟨by rw [← happ]; exact hm, hr.dfr, hr.len, fun t => RV.mono (hle1.trans hle) _ _ (hr.tmp t)⟩
    have := rel_put hr' o.dst (RV.shift hsh r v hrv)
    simpa [St.apply, upd_nil] using this
  rcases hS with ⟨h1, h2⟩ | ⟨v, w', h1, h2⟩
  · rw [h1, Oper.upon_enter]
    refine h2.mono ?_
    intro e w' he
    obtain ⟨v, rfl, hK⟩ := fin e w' he
    exact hK
  · rw [h1, Oper.upon_value]
    obtain ⟨v', e, hK⟩ := fin _ w' h2
    cases e
    exact hK

end Go.Pv

/-
  The evaluator: what an operation does to a state that is written out. Everything is in continuation form, so that weak head normal form computes it. Generic over the program.
-/
namespace Go.Pv

structure CSt where
  tm : List PV
  bx : List (Nat × List PV)
  ob : List (Nat × Option (Bool × Nat × List (List PV)))

def lkA {α : Type} : List (Nat × α) → Nat → Option α
  | [], _ => none
  | (j, v) :: r, k => bif Nat.beq j k then some v else lkA r k

def CSt.st (c : CSt) : St := ⟨c.tm, lkA c.bx, lkA c.ob⟩

/-! ### Continuation forms -/

def lkK {α : Type} (d : α) : List α → Nat → (α → Prop) → Prop
  | [], _, k => k d
  | x :: _, 0, k => k x
  | _ :: xs, n + 1, k => lkK d xs n k

theorem lkK_eq {α : Type} (d : α) : ∀ (l : List α) (n : Nat) (k : α → Prop), lkK d l n k = k (l.getD n d)
  | [], n, k => by simp [lkK]
  | x :: xs, 0, k => by simp [lkK]
  | x :: xs, n + 1, k => by simp [lkK, lkK_eq d xs n k]

noncomputable def clK (vs : List Value) : (List PV → Prop) → Prop :=
  @List.rec Value (fun _ => (List PV → Prop) → Prop) (fun k => k []) (fun v _ R k => R fun r => match v with
    | .slice none 0 0 => k (.nl :: r)
    | v => k (.sc v :: r)) vs
theorem clK_eq : ∀ (vs : List Value) (k : List PV → Prop), clK vs k = k (vs.map cleaf)
  | [], k => rfl
  | v :: vs, k => by
    show clK vs (fun r => match v with
      | .slice none 0 0 => k (.nl :: r)
      | v => k (.sc v :: r)) = _
    rw [clK_eq vs, List.map_cons]
    generalize vs.map cleaf = r
    unfold cleaf
    split
    · rfl
    · rename_i h
      split
      · exact absurd rfl h
      · rfl
noncomputable def evK (ts : List PV) (x : Operand) (k : PV → Prop) : Prop :=
  match x with
  | .tmp t => lkK .bad ts t k
  | .const v => match v with
    | .slice none 0 0 => k .nl
    | .agg cs => clK cs.toList fun ps => k (.ag ps)
    | v => k (.sc v)
  | .global g => k (.sc (.pointer (some ⟨g, 0, none⟩)))
  | .func f => k (.cl f [])

theorem evK_eq (ts : List PV) (x : Operand) (k : PV → Prop) : evK ts x k = k (aev ts x) := by
  cases x
  case const v =>
    simp only [evK, aev, cst]
    split
    · rfl
    · rw [clK_eq]
    · rename_i h1 h2
      split
      · exact absurd rfl h1
      · exact absurd rfl (h2 _)
      · rfl
  all_goals simp [evK, aev, lkK_eq]

def evLK (ts : List PV) : List Operand → (List PV → Prop) → Prop
  | [], k => k []
  | x :: xs, k => evK ts x fun p => evLK ts xs fun ps => k (p :: ps)

theorem evLK_eq (ts : List PV) : ∀ (xs : List Operand) (k : List PV → Prop), evLK ts xs k = k (xs.map (aev ts))
  | [], k => rfl
  | x :: xs, k => by simp [evLK, evK_eq, evLK_eq ts xs]

def takeK {α : Type} : Nat → List α → (List α → Prop) → Prop
  | 0, _, k => k []
  | _ + 1, [], k => k []
  | n + 1, x :: xs, k => takeK n xs fun ys => k (x :: ys)

theorem takeK_eq {α : Type} : ∀ (n : Nat) (l : List α) (k : List α → Prop), takeK n l k = k (l.take n)
  | 0, l, k => by simp [takeK]
  | n + 1, [], k => by simp [takeK]
  | n + 1, x :: xs, k => by simp [takeK, takeK_eq n xs]

def dropK {α : Type} : Nat → List α → (List α → Prop) → Prop
  | 0, l, k => k l
  | _ + 1, [], k => k []
  | n + 1, _ :: xs, k => dropK n xs k

theorem dropK_eq {α : Type} : ∀ (n : Nat) (l : List α) (k : List α → Prop), dropK n l k = k (l.drop n)
  | 0, l, k => by simp [dropK]
  | n + 1, [], k => by simp [dropK]
  | n + 1, x :: xs, k => by simp [dropK, dropK_eq n xs]

def appK {α : Type} : List α → List α → (List α → Prop) → Prop
  | [], m, k => k m
  | x :: xs, m, k => appK xs m fun ys => k (x :: ys)

theorem appK_eq {α : Type} : ∀ (l m : List α) (k : List α → Prop), appK l m k = k (l ++ m)
  | [], m, k => rfl
  | x :: xs, m, k => by simp [appK, appK_eq xs m]

def mapK {α β : Type} (f : α → (β → Prop) → Prop) : List α → (List β → Prop) → Prop
  | [], k => k []
  | x :: xs, k => f x fun y => mapK f xs fun ys => k (y :: ys)

theorem mapK_eq {α β : Type} (f : α → (β → Prop) → Prop) (g : α → β) (h : ∀ x k, f x k = k (g x)) : ∀ (l : List α) (k : List β → Prop), mapK f l k = k (l.map g)
  | [], k => rfl
  | x :: xs, k => by simp [mapK, h, mapK_eq f g h xs]

def spliceK (ls : List PV) (off : Nat) (ns : List PV) (k : List PV → Prop) : Prop :=
  takeK off ls fun a => dropK (off + ns.length) ls fun b => appK ns b fun c => appK a c k

theorem spliceK_eq (ls : List PV) (off : Nat) (ns : List PV) (k : List PV → Prop) : spliceK ls off ns k = k (splice ls off ns) := by
  simp [spliceK, takeK_eq, dropK_eq, appK_eq, splice]

def setK {α : Type} : List (Nat × α) → Nat → α → (List (Nat × α) → Prop) → Prop
  | [], n, v, k => k [(n, v)]
  | (j, u) :: r, n, v, k => bif Nat.beq j n then k ((n, v) :: r) else setK r n v fun r' => k ((j, u) :: r')

def setA {α : Type} : List (Nat × α) → Nat → α → List (Nat × α)
  | [], n, v => [(n, v)]
  | (j, u) :: r, n, v => bif Nat.beq j n then (n, v) :: r else (j, u) :: setA r n v

theorem setK_eq {α : Type} : ∀ (l : List (Nat × α)) (n : Nat) (v : α) (k : List (Nat × α) → Prop), setK l n v k = k (setA l n v)
  | [], n, v, k => rfl
  | (j, u) :: r, n, v, k => by
    simp only [setK, setA]
    cases Nat.beq j n <;> simp [setK_eq r]

theorem beq_ne {i j : Nat} (h : i ≠ j) : Nat.beq i j = false := by
  cases hb : Nat.beq i j with
  | false => rfl
  | true => exact absurd (Nat.eq_of_beq_eq_true hb) h

theorem lkA_setA {α : Type} : ∀ (l : List (Nat × α)) (n : Nat) (v : α) (j : Nat), lkA (setA l n v) j = if j = n then some v else lkA l j
  | [], n, v, j => by
    simp only [setA, lkA]
    by_cases h : j = n
    · subst h; simp
    · have : Nat.beq n j = false := beq_ne fun e => h e.symm
      simp [this, h]
  | (i, u) :: r, n, v, j => by
    simp only [setA]
    by_cases h1 : i = n
    · subst h1
      simp only [Nat.beq_refl, cond_true, lkA]
      by_cases h : j = i
      · subst h; simp
      · have : Nat.beq i j = false := beq_ne fun e => h e.symm
        simp [this, h]
    · have hb : Nat.beq i n = false := beq_ne h1
      simp only [hb, cond_false, lkA]
      by_cases h : Nat.beq i j = true
      · have : i = j := Nat.eq_of_beq_eq_true h
        subst this
        simp [h1]
      · simp only [Bool.not_eq_true] at h
        simp [h, lkA_setA r n v j]

def setsK {α : Type} (l : List (Nat × α)) : List (Nat × α) → (List (Nat × α) → Prop) → Prop
  | [], k => k l
  | (n, v) :: us, k => setsK l us fun l' => setK l' n v k

def setsA {α : Type} (l : List (Nat × α)) : List (Nat × α) → List (Nat × α)
  | [] => l
  | (n, v) :: us => setA (setsA l us) n v

theorem setsK_eq {α : Type} (l : List (Nat × α)) : ∀ (us : List (Nat × α)) (k : List (Nat × α) → Prop), setsK l us k = k (setsA l us)
  | [], k => rfl
  | (n, v) :: us, k => by simp [setsK, setsA, setsK_eq l us, setK_eq]

theorem lkA_setsA {α : Type} (l : List (Nat × α)) : ∀ (us : List (Nat × α)), lkA (setsA l us) = upd (lkA l) us
  | [] => rfl
  | (n, v) :: us => by
    funext j
    rw [upd_cons, upd_one, ← lkA_setsA l us]
    simp only [setsA, lkA_setA]

def stK : List PV → Nat → PV → (List PV → Prop) → Prop
  | [], _, _, k => k []
  | _ :: xs, 0, v, k => k (v :: xs)
  | x :: xs, n + 1, v, k => stK xs n v fun ys => k (x :: ys)

theorem stK_eq : ∀ (ts : List PV) (n : Nat) (v : PV) (k : List PV → Prop), stK ts n v k = k (ts.set n v)
  | [], n, v, k => by simp [stK]
  | x :: xs, 0, v, k => by simp [stK]
  | x :: xs, n + 1, v, k => by simp [stK, stK_eq xs n v]

def putK (ts : List PV) (dst : Option Nat) (v : PV) (k : List PV → Prop) : Prop :=
  match dst with
  | some d => stK ts d v k
  | none => k ts

theorem putK_eq (ts : List PV) (dst : Option Nat) (v : PV) (k : List PV → Prop) : putK ts dst v k = k (setT ts dst v) := by
  cases dst <;> simp [putK, setT, stK_eq]

def applyK (c : CSt) (dst : Option Nat) (E : Eff) (k : CSt → Prop) : Prop :=
  match c, E with
  | ⟨tm, bx, ob⟩, ⟨v, _, _, _, _, wb, wo⟩ => putK tm dst v fun tm => setsK bx wb fun bx => setsK ob wo fun ob => k ⟨tm, bx, ob⟩

theorem applyK_eq (c : CSt) (dst : Option Nat) (E : Eff) (k : CSt → Prop) : applyK c dst E k = k ⟨setT c.tm dst E.val, setsA c.bx E.wb, setsA c.ob E.wo⟩ := by
  simp [applyK, putK_eq, setsK_eq]

theorem apply_st (c : CSt) (dst : Option Nat) (E : Eff) : (CSt.mk (setT c.tm dst E.val) (setsA c.bx E.wb) (setsA c.ob E.wo)).st = c.st.apply dst E := by
  simp [CSt.st, St.apply, lkA_setsA]

/-- A test: where its outcome is written out, one way; else both. -/
def splitK (b : Bool) (k : Bool → Prop) : Prop := @Bool.rec (fun _ => Prop) (k false) (k true) b

theorem splitK_eq (b : Bool) (k : Bool → Prop) : splitK b k = k b := by cases b <;> rfl
theorem split_intro {b : Bool} {X Y : Prop} (h1 : b = true → Y) (h2 : b = false → X) : @Bool.rec (fun _ => Prop) X Y b := by
  cases b
  · exact h2 rfl
  · exact h1 rfl

theorem splitK_intro {b : Bool} {k : Bool → Prop} (h1 : b = true → k true) (h2 : b = false → k false) : splitK b k := by
  cases b
  · exact h2 rfl
  · exact h1 rfl

def okK (b : Bool) (k : Prop) : Prop := match b with | true => k | false => False
theorem okK_iff {b : Bool} {k : Prop} (h : okK b k) : b = true ∧ k := by cases b; exact h.elim; exact ⟨rfl, h⟩

/-! ### One operation -/

def lvK (p : PV) (k : List PV → Prop) : Prop := match p with | .ag ps => k ps | p => k [p]
theorem lvK_eq (p : PV) (k : List PV → Prop) : lvK p k = k (leaves p) := by cases p <;> rfl

def ldK (P : Program) (t : TypeId) (sfx : List PV) (k : PV → Prop) : Prop :=
  match P.underlying t, P.info? t with
  | some d, some ⟨_, _, n, _, _, _, _, _, _, _⟩ => match isAggD d with
    | true => okK (Nat.ble n sfx.length) (takeK n sfx fun l => k (.ag l))
    | false => match sfx with
      | p :: _ => k p
      | [] => False
  | _, _ => False

theorem ldK_sound {P : Program} {t : TypeId} {sfx : List PV} {k : PV → Prop} (h : ldK P t sfx k) : ∃ d inf p, P.underlying t = some d ∧ P.info? t = some inf ∧ leafVal (isAggD d) inf.size sfx = some p ∧ k p := by
  unfold ldK at h
  split at h
  · rename_i d a b n c e f g i j l h1 h2
    split at h
    · rename_i hd
      obtain ⟨hb, hk⟩ := okK_iff h
      rw [takeK_eq] at hk
      have hle : n ≤ sfx.length := by simpa using hb
      exact ⟨d, _, .ag (sfx.take n), h1, h2, by simp [leafVal, hd, hle], hk⟩
    · rename_i hd
      split at h
      · rename_i p r
        exact ⟨d, _, p, h1, h2, by simp [leafVal, hd], h⟩
      · exact h.elim
  · exact h.elim

def fldK (P : Program) (t : TypeId) (i : Nat) (k : Nat → Prop) : Prop :=
  match P.underlying t with
  | some (.struct fs) => match fs.toList[i]? with
    | some ⟨_, ty, off, _, _, _, _⟩ => match P.info? ty with
      | some ⟨_, _, n, _, _, _, _, _, _, _⟩ => match n with | 0 => False | _ + 1 => k off
      | none => False
    | none => False
  | _ => False

theorem fldK_sound {P : Program} {t : TypeId} {i : Nat} {k : Nat → Prop} (h : fldK P t i k) : ∃ (fs : Array Field) (f : Field) (inf : TypeInfo), P.underlying t = some (.struct fs) ∧ fs[i]? = some f ∧ P.info? f.type = some inf ∧ inf.size ≠ 0 ∧ k f.offset := by
  unfold fldK at h
  split at h
  · rename_i fs h1
    split at h
    · rename_i a ty off b c d e h2
      split at h
      · rename_i h3
        split at h
        · exact h.elim
        · exact ⟨fs, _, _, h1, by simpa using h2, h3, by simp, h⟩
      · exact h.elim
    · exact h.elim
  · exact h.elim

def paddK (p : PV) (n : Nat) (k : PV → Prop) : Prop :=
  match p with
  | .pt key off => k (.pt key (off + n))
  | .ep sfx => dropK n sfx fun s => k (.ep s)
  | .eo key i off => k (.eo key i (off + n))
  | _ => False

theorem paddK_sound {p : PV} {n : Nat} {k : PV → Prop} (h : paddK p n k) : ∃ q, padd p n = some q ∧ k q := by
  cases p with
  | pt key off => exact ⟨_, rfl, h⟩
  | ep sfx => simp only [paddK, dropK_eq] at h; exact ⟨_, rfl, h⟩
  | eo key i off => exact ⟨_, rfl, h⟩
  | _ => exact h.elim

/-- A sum, a difference, a product, a quotient of floats: a float, or some NaN. -/
noncomputable def fltK (op : BinOp) (a b : Nat) (k : PV → Prop) : Prop :=
  match fres op a b with
  | some res => @Option.rec Nat (fun _ => Prop) (k (.nn .f64)) (fun r => k (.sc (.float .f64 r))) res
  | none => False
theorem fltK_sound {op : BinOp} {a b : Nat} {k : PV → Prop} (h : fltK op a b k) : ∃ res, fres op a b = some res ∧ k (fpv res) := by
  unfold fltK at h
  split at h
  · rename_i res hr
    refine ⟨res, hr, ?_⟩
    cases res <;> exact h
  · exact h.elim
theorem split_opt {o : Option Nat} {X : Prop} {Y : Nat → Prop} (h1 : o = none → X) (h2 : ∀ r, o = some r → Y r) : @Option.rec Nat (fun _ => Prop) X Y o := by
  cases o with
  | none => exact h1 rfl
  | some r => exact h2 r rfl
noncomputable def nanK (op : BinOp) (p q : PV) (k : PV → Prop) : Prop :=
  okK (fnn p && fnn q && (nnB p || nnB q)) (match nres op with | some r => k r | none => False)

noncomputable def binK (P : Program) (op : BinOp) (t : TypeId) (p q : PV) (k : PV → Prop) : Prop :=
  match p, q with
  | .sc u, .sc v => match pbin op u v with
    | some r => k (.sc r)
    | none => match pdiv op u v with
      | some (r, (m, n)) => (m ≠ 0 ∧ 0 ≤ n) ∧ k (.sc r)
      | none => match op, u, v with
        | .eql, .bool a, .bool b => P.underlying t = some .bool ∧ k (.sc (.bool (a == b)))
        | .neq, .bool a, .bool b => P.underlying t = some .bool ∧ k (.sc (.bool (a != b)))
        | op, .float .f64 a, .float .f64 b => fltK op a b k
        | _, _, _ => False
  | .ag xs, .ag ys => match op with
    | .eql => EqOk P t ∧ ∃ r, eqInts (P.fieldsOf t).toList xs ys = some r ∧ k (.sc (.bool r))
    | .neq => EqOk P t ∧ ∃ r, eqInts (P.fieldsOf t).toList xs ys = some r ∧ k (.sc (.bool (!r)))
    | _ => False
  | p, q => nanK op p q k

/-- Objects and boxes that values show. -/
def rowsK (c : CSt) (key lo len : Nat) (k : Bool → Nat → List (List PV) → Prop) : Prop :=
  match lkA c.ob key with
  | some (some (fz, sz, rows)) => lo + len ≤ rows.length ∧ k fz sz rows
  | _ => False

/-- The elements that a slice shows, and what must be there for it. -/
def srcK (c : CSt) (p : PV) (sz : Nat) (k : List (Nat × Bool × Nat × List (List PV)) → List (List PV) → Prop) : Prop :=
  match p with
  | .sl sz' rows => sz' = sz ∧ k [] rows
  | .nl => k [] []
  | .ow key lo len => match lkA c.ob key with
    | some (some (fz, sz', all)) => (sz' = sz ∧ lo + len ≤ all.length) ∧ k [(key, fz, sz', all)] ((all.drop lo).take len)
    | _ => False
  | _ => False

theorem srcK_sound {c : CSt} {p : PV} {sz : Nat} {k : List (Nat × Bool × Nat × List (List PV)) → List (List PV) → Prop} (h : srcK c p sz k) : ∃ ro rows, srcOk p sz ro rows ∧ (∀ q ∈ ro, lkA c.ob q.1 = some (some q.2)) ∧ k ro rows := by
  unfold srcK at h
  split at h
  · obtain ⟨rfl, h⟩ := h
    exact ⟨[], _, .inl ⟨rfl, rfl⟩, by simp, h⟩
  · exact ⟨[], [], .inr (.inl ⟨rfl, rfl, rfl⟩), by simp, h⟩
  · rename_i key lo len
    split at h
    · rename_i fz sz' all hk
      obtain ⟨⟨rfl, hle⟩, h⟩ := h
      exact ⟨_, _, .inr (.inr ⟨key, lo, len, fz, all, rfl, rfl, rfl, hle⟩), by simp [hk], h⟩
    · exact h.elim
  · exact h.elim

/-- Arguments of a call, as the callee sees them. -/
def resK (c : CSt) (p : PV) (k : List (Nat × List PV) → List (Nat × Bool × Nat × List (List PV)) → PV → Prop) : Prop :=
  match p with
  | .sc v => k [] [] (.sc v)
  | .sl sz rows => k [] [] (.sl sz rows)
  | .nl => k [] [] .nl
  | .ep sfx => k [] [] (.ep sfx)
  | .nn kd => k [] [] (.nn kd)
  | .ow key lo len => match lkA c.ob key with
    | some (some (fz, sz, all)) => lo + len ≤ all.length ∧ k [] [(key, fz, sz, all)] (.sl sz ((all.drop lo).take len))
    | _ => False
  | .pt key off => match lkA c.bx key with
    | some ls => okK (plainL ls) (dropK off ls fun s => k [(key, ls)] [] (.ep s))
    | none => False
  | _ => False

noncomputable def resLK (c : CSt) (ps : List PV) : (List (Nat × List PV) → List (Nat × Bool × Nat × List (List PV)) → List PV → Prop) → Prop :=
  @List.rec PV (fun _ => (List (Nat × List PV) → List (Nat × Bool × Nat × List (List PV)) → List PV → Prop) → Prop) (fun k => k [] [] [])
    (fun p _ R k => resK c p fun rb ro q => R fun rb' ro' qs => appK rb rb' fun rb'' => appK ro ro' fun ro'' => k rb'' ro'' (q :: qs)) ps
theorem resLK_cons (c : CSt) (p : PV) (ps : List PV) (k : List (Nat × List PV) → List (Nat × Bool × Nat × List (List PV)) → List PV → Prop) : resLK c (p :: ps) k = resK c p fun rb ro q => resLK c ps fun rb' ro' qs => appK rb rb' fun rb'' => appK ro ro' fun ro'' => k rb'' ro'' (q :: qs) := rfl

noncomputable def resRK (c : CSt) (ps : List (List PV)) : (List (Nat × List PV) → List (Nat × Bool × Nat × List (List PV)) → List (List PV) → Prop) → Prop :=
  @List.rec (List PV) (fun _ => (List (Nat × List PV) → List (Nat × Bool × Nat × List (List PV)) → List (List PV) → Prop) → Prop) (fun k => k [] [] [])
    (fun p _ R k => resLK c p fun rb ro q => R fun rb' ro' qs => appK rb rb' fun rb'' => appK ro ro' fun ro'' => k rb'' ro'' (q :: qs)) ps
theorem resRK_cons (c : CSt) (p : List PV) (ps : List (List PV)) (k : List (Nat × List PV) → List (Nat × Bool × Nat × List (List PV)) → List (List PV) → Prop) : resRK c (p :: ps) k = resLK c p fun rb ro q => resRK c ps fun rb' ro' qs => appK rb rb' fun rb'' => appK ro ro' fun ro'' => k rb'' ro'' (q :: qs) := rfl

noncomputable def resVK (c : CSt) (p : PV) (k : List (Nat × List PV) → List (Nat × Bool × Nat × List (List PV)) → PV → Prop) : Prop :=
  match p with
  | .ag ps => resLK c ps fun rb ro qs => k rb ro (.ag qs)
  | .cl f caps => resLK c caps fun rb ro qs => k rb ro (.cl f qs)
  | .cm f caps => resLK c caps fun rb ro qs => k rb ro (.cm f qs)
  | .ls sz rows => resRK c rows fun rb ro qs => k rb ro (.sl sz qs)
  | p => resK c p k

noncomputable def resAK (c : CSt) (ps : List PV) : (List (Nat × List PV) → List (Nat × Bool × Nat × List (List PV)) → List PV → Prop) → Prop :=
  @List.rec PV (fun _ => (List (Nat × List PV) → List (Nat × Bool × Nat × List (List PV)) → List PV → Prop) → Prop) (fun k => k [] [] [])
    (fun p _ R k => resVK c p fun rb ro q => R fun rb' ro' qs => appK rb rb' fun rb'' => appK ro ro' fun ro'' => k rb'' ro'' (q :: qs)) ps
theorem resAK_cons (c : CSt) (p : PV) (ps : List PV) (k : List (Nat × List PV) → List (Nat × Bool × Nat × List (List PV)) → List PV → Prop) : resAK c (p :: ps) k = resVK c p fun rb ro q => resAK c ps fun rb' ro' qs => appK rb rb' fun rb'' => appK ro ro' fun ro'' => k rb'' ro'' (q :: qs) := rfl

def OkB (c : CSt) (rb : List (Nat × List PV)) : Prop := ∀ q ∈ rb, lkA c.bx q.1 = some q.2
def OkO (c : CSt) (ro : List (Nat × Bool × Nat × List (List PV))) : Prop := ∀ q ∈ ro, lkA c.ob q.1 = some (some q.2)

mutual
theorem Res.mono {rb rb' : List (Nat × List PV)} {ro ro' : List (Nat × Bool × Nat × List (List PV))} (hb : ∀ x ∈ rb, x ∈ rb') (ho : ∀ x ∈ ro, x ∈ ro') : ∀ (p q : PV), Res rb ro p q → Res rb' ro' p q
  | .ow k lo len, q, h => by simp only [Res] at h ⊢; obtain ⟨fz, sz, all, h1, h2⟩ := h; exact ⟨fz, sz, all, ho _ h1, h2⟩
  | .pt k off, q, h => by simp only [Res] at h ⊢; obtain ⟨ls, h1, h2⟩ := h; exact ⟨ls, hb _ h1, h2⟩
  | .ag ps, q, h => by simp only [Res] at h ⊢; obtain ⟨qs, h1, h2⟩ := h; exact ⟨qs, h1, ResL.mono hb ho ps qs h2⟩
  | .tu ps, q, h => by simp only [Res] at h ⊢; obtain ⟨qs, h1, h2⟩ := h; exact ⟨qs, h1, ResL.mono hb ho ps qs h2⟩
  | .cl f ps, q, h => by simp only [Res] at h ⊢; obtain ⟨qs, h1, h2⟩ := h; exact ⟨qs, h1, ResL.mono hb ho ps qs h2⟩
  | .cm f ps, q, h => by simp only [Res] at h ⊢; obtain ⟨qs, h1, h2⟩ := h; exact ⟨qs, h1, ResL.mono hb ho ps qs h2⟩
  | .sc v, q, h => by simpa [Res] using h
  | .sl sz rows, q, h => by simpa [Res] using h
  | .nl, q, h => by simpa [Res] using h
  | .ep s, q, h => by simpa [Res] using h
  | .eo .., q, h => by simp [Res] at h
  | .bs .., q, h => by simp [Res] at h
  | .ub φ, q, h => by simpa only [Res] using h
  | .nn kd, q, h => by simpa only [Res] using h
  | .ls sz rows, q, h => by simp only [Res] at h ⊢; obtain ⟨rs, h1, h2⟩ := h; exact ⟨rs, h1, ResR.mono hb ho rows rs h2⟩
  | .lp .., q, h => by simp [Res] at h
  | .bad, q, h => by simpa [Res] using h
theorem ResL.mono {rb rb' : List (Nat × List PV)} {ro ro' : List (Nat × Bool × Nat × List (List PV))} (hb : ∀ x ∈ rb, x ∈ rb') (ho : ∀ x ∈ ro, x ∈ ro') : ∀ (ps qs : List PV), ResL rb ro ps qs → ResL rb' ro' ps qs
  | [], qs, h => by simpa [ResL] using h
  | p :: ps, qs, h => by
    simp only [ResL] at h ⊢
    obtain ⟨q, r, e, h1, h2⟩ := h
    exact ⟨q, r, e, Res.mono hb ho p q h1, ResL.mono hb ho ps r h2⟩
theorem ResR.mono {rb rb' : List (Nat × List PV)} {ro ro' : List (Nat × Bool × Nat × List (List PV))} (hb : ∀ x ∈ rb, x ∈ rb') (ho : ∀ x ∈ ro, x ∈ ro') : ∀ (ps qs : List (List PV)), ResR rb ro ps qs → ResR rb' ro' ps qs
  | [], qs, h => by simpa [ResR] using h
  | p :: ps, qs, h => by
    simp only [ResR] at h ⊢
    obtain ⟨q, r, e, h1, h2⟩ := h
    exact ⟨q, r, e, ResL.mono hb ho p q h1, ResR.mono hb ho ps r h2⟩
end

theorem resK_sound {c : CSt} {p : PV} {k : List (Nat × List PV) → List (Nat × Bool × Nat × List (List PV)) → PV → Prop} (h : resK c p k) : ∃ rb ro q, Res rb ro p q ∧ OkB c rb ∧ OkO c ro ∧ k rb ro q := by
  unfold resK at h
  split at h
  · exact ⟨[], [], _, by simp [Res], by simp [OkB], by simp [OkO], h⟩
  · exact ⟨[], [], _, by simp [Res], by simp [OkB], by simp [OkO], h⟩
  · exact ⟨[], [], _, by simp [Res], by simp [OkB], by simp [OkO], h⟩
  · exact ⟨[], [], _, by simp [Res], by simp [OkB], by simp [OkO], h⟩
  · exact ⟨[], [], _, by simp [Res], by simp [OkB], by simp [OkO], h⟩
  · split at h
    · rename_i fz sz all hk
      obtain ⟨hle, h⟩ := h
      exact ⟨[], _, _, by simp only [Res]; exact ⟨fz, sz, all, by simp, hle, rfl⟩, by simp [OkB], by simp [OkO, hk], h⟩
    · exact h.elim
  · split at h
    · rename_i ls hk
      obtain ⟨hp, h⟩ := okK_iff h
      rw [dropK_eq] at h
      exact ⟨_, [], _, by simp only [Res]; exact ⟨ls, by simp, hp, rfl⟩, by simp [OkB, hk], by simp [OkO], h⟩
    · exact h.elim
  · exact h.elim

theorem resLK_sound {c : CSt} : ∀ {ps : List PV} {k : List (Nat × List PV) → List (Nat × Bool × Nat × List (List PV)) → List PV → Prop}, resLK c ps k → ∃ rb ro qs, ResL rb ro ps qs ∧ OkB c rb ∧ OkO c ro ∧ k rb ro qs
  | [], k, h => ⟨[], [], [], by simp [ResL], by simp [OkB], by simp [OkO], h⟩
  | p :: ps, k, h => by
    rw [resLK_cons] at h
    obtain ⟨rb, ro, q, h1, h2, h3, h⟩ := resK_sound h
    obtain ⟨rb', ro', qs, h4, h5, h6, h⟩ := resLK_sound h
    simp only [appK_eq] at h
    refine ⟨_, _, _, ?_, ?_, ?_, h⟩
    · simp only [ResL]
      exact ⟨q, qs, rfl, Res.mono (by simp +contextual) (by simp +contextual) _ _ h1, ResL.mono (by simp +contextual) (by simp +contextual) _ _ h4⟩
    · intro x hx; rcases List.mem_append.1 hx with hx | hx; exact h2 x hx; exact h5 x hx
    · intro x hx; rcases List.mem_append.1 hx with hx | hx; exact h3 x hx; exact h6 x hx

theorem resRK_sound {c : CSt} : ∀ {ps : List (List PV)} {k : List (Nat × List PV) → List (Nat × Bool × Nat × List (List PV)) → List (List PV) → Prop}, resRK c ps k → ∃ rb ro qs, ResR rb ro ps qs ∧ OkB c rb ∧ OkO c ro ∧ k rb ro qs
  | [], k, h => ⟨[], [], [], by simp [ResR], by simp [OkB], by simp [OkO], h⟩
  | p :: ps, k, h => by
    rw [resRK_cons] at h
    obtain ⟨rb, ro, q, h1, h2, h3, h⟩ := resLK_sound h
    obtain ⟨rb', ro', qs, h4, h5, h6, h⟩ := resRK_sound h
    simp only [appK_eq] at h
    refine ⟨_, _, _, ?_, ?_, ?_, h⟩
    · simp only [ResR]
      exact ⟨q, qs, rfl, ResL.mono (by simp +contextual) (by simp +contextual) _ _ h1, ResR.mono (by simp +contextual) (by simp +contextual) _ _ h4⟩
    · intro x hx; rcases List.mem_append.1 hx with hx | hx; exact h2 x hx; exact h5 x hx
    · intro x hx; rcases List.mem_append.1 hx with hx | hx; exact h3 x hx; exact h6 x hx

theorem resVK_sound {c : CSt} {p : PV} {k : List (Nat × List PV) → List (Nat × Bool × Nat × List (List PV)) → PV → Prop} (h : resVK c p k) : ∃ rb ro q, Res rb ro p q ∧ OkB c rb ∧ OkO c ro ∧ k rb ro q := by
  unfold resVK at h
  split at h
  · obtain ⟨rb, ro, qs, h1, h2, h3, h⟩ := resLK_sound h
    exact ⟨rb, ro, _, by simp only [Res]; exact ⟨qs, rfl, h1⟩, h2, h3, h⟩
  · obtain ⟨rb, ro, qs, h1, h2, h3, h⟩ := resLK_sound h
    exact ⟨rb, ro, _, by simp only [Res]; exact ⟨qs, rfl, h1⟩, h2, h3, h⟩
  · obtain ⟨rb, ro, qs, h1, h2, h3, h⟩ := resLK_sound h
    exact ⟨rb, ro, _, by simp only [Res]; exact ⟨qs, rfl, h1⟩, h2, h3, h⟩
  · obtain ⟨rb, ro, qs, h1, h2, h3, h⟩ := resRK_sound h
    exact ⟨rb, ro, _, by simp only [Res]; exact ⟨qs, rfl, h1⟩, h2, h3, h⟩
  · exact resK_sound h

theorem resAK_sound {c : CSt} : ∀ {ps : List PV} {k : List (Nat × List PV) → List (Nat × Bool × Nat × List (List PV)) → List PV → Prop}, resAK c ps k → ∃ rb ro qs, ResL rb ro ps qs ∧ OkB c rb ∧ OkO c ro ∧ k rb ro qs
  | [], k, h => ⟨[], [], [], by simp [ResL], by simp [OkB], by simp [OkO], h⟩
  | p :: ps, k, h => by
    rw [resAK_cons] at h
    obtain ⟨rb, ro, q, h1, h2, h3, h⟩ := resVK_sound h
    obtain ⟨rb', ro', qs, h4, h5, h6, h⟩ := resAK_sound h
    simp only [appK_eq] at h
    refine ⟨_, _, _, ?_, ?_, ?_, h⟩
    · simp only [ResL]
      exact ⟨q, qs, rfl, Res.mono (by simp +contextual) (by simp +contextual) _ _ h1, ResL.mono (by simp +contextual) (by simp +contextual) _ _ h4⟩
    · intro x hx; rcases List.mem_append.1 hx with hx | hx; exact h2 x hx; exact h5 x hx
    · intro x hx; rcases List.mem_append.1 hx with hx | hx; exact h3 x hx; exact h6 x hx

end Go.Pv
