import Derived.Test.YtbhfokahocgndaaGreatPvL
import GoSem.ClaimChange
import Derived.DataReads
import Derived.ChangeBears
import Derived.Carry
import Derived.ChangeArms
import Derived.OpenShut
import Derived.Laws.Externs
/-
  What serves at the ends: answers, arguments that came in, the law's own form. Generic over the program.
-/
set_option linter.unusedSimpArgs false
set_option linter.unusedVariables false
namespace Go.Pv

/-! ### Tests -/

theorem split_dec {p : Prop} [Decidable p] {X Y : Prop} (h1 : p → Y) (h2 : ¬ p → X) : @Bool.rec (fun _ => Prop) X Y (decide p) :=
  split_intro (fun h => h1 (of_decide_eq_true h)) (fun h => h2 (of_decide_eq_false h))
theorem split_beq {a b : Int} {X Y : Prop} (h1 : a = b → Y) (h2 : ¬ a = b → X) : @Bool.rec (fun _ => Prop) X Y (a == b) :=
  split_intro (fun h => h1 (by simpa using h)) (fun h => h2 (by simpa using h))
theorem split_bne {a b : Int} {X Y : Prop} (h1 : ¬ a = b → Y) (h2 : a = b → X) : @Bool.rec (fun _ => Prop) X Y (a != b) :=
  split_intro (fun h => h1 (by simpa using h)) (fun h => h2 (by simpa using h))
theorem split_not {b : Bool} {X Y : Prop} (h1 : b = false → Y) (h2 : b = true → X) : @Bool.rec (fun _ => Prop) X Y (!b) :=
  split_intro (fun h => h1 (by simpa using h)) (fun h => h2 (by simpa using h))
theorem split_beqS {a b : List UInt8} {X Y : Prop} (h1 : a = b → Y) (h2 : ¬ a = b → X) : @Bool.rec (fun _ => Prop) X Y (a == b) :=
  split_intro (fun h => h1 (by simpa using h)) (fun h => h2 (by simpa using h))

theorem split_t {b : Bool} {X Y : Prop} (h : b = true) (hy : Y) : @Bool.rec (fun _ => Prop) X Y b := by subst h; exact hy
theorem split_f {b : Bool} {X Y : Prop} (h : b = false) (hx : X) : @Bool.rec (fun _ => Prop) X Y b := by subst h; exact hx
theorem split_nt {b : Bool} {X Y : Prop} (h : b = false) (hy : Y) : @Bool.rec (fun _ => Prop) X Y (!b) := by subst h; exact hy
theorem split_nf {b : Bool} {X Y : Prop} (h : b = true) (hx : X) : @Bool.rec (fun _ => Prop) X Y (!b) := by subst h; exact hx
theorem split_dt {p : Prop} [Decidable p] {X Y : Prop} (h : p) (hy : Y) : @Bool.rec (fun _ => Prop) X Y (decide p) := split_t (decide_eq_true h) hy
theorem split_df {p : Prop} [Decidable p] {X Y : Prop} (h : ¬ p) (hx : X) : @Bool.rec (fun _ => Prop) X Y (decide p) := split_f (decide_eq_false h) hx
theorem split_et {a b : Int} {X Y : Prop} (h : a = b) (hy : Y) : @Bool.rec (fun _ => Prop) X Y (a == b) := split_t (by simpa using h) hy
theorem split_ef {a b : Int} {X Y : Prop} (h : ¬ a = b) (hx : X) : @Bool.rec (fun _ => Prop) X Y (a == b) := split_f (by simpa using h) hx
theorem split_bt {a b : Int} {X Y : Prop} (h : ¬ a = b) (hy : Y) : @Bool.rec (fun _ => Prop) X Y (a != b) := split_t (by simpa using h) hy
theorem split_bf {a b : Int} {X Y : Prop} (h : a = b) (hx : X) : @Bool.rec (fun _ => Prop) X Y (a != b) := split_f (by simpa using h) hx

/-- A call, by its contract. -/
theorem call_by {P : Program} {f : Nat} {qs : List PV} {r : PV} {os : List (Nat × List (List PV))} {K : PV → List (Nat × List (List PV)) → Prop} (h : Ctr P f qs r os) (k : K r os) : ∃ r os, Ctr P f qs r os ∧ K r os := ⟨r, os, h, k⟩

/-! ### Answers -/

theorem rnOk_nil (c : CSt) : RnOk c [] [] [] := ⟨by simp, by simp [lkA], by simp [lkA], by simp [lkA]⟩

mutual
theorem wkV_plain : ∀ p : PV, plain p = true → WkV [] [] [] p p
  | .sc v, _ => by simp [WkV]
  | .ag ps, h => by simp only [WkV]; exact ⟨ps, rfl, wkL_plain ps (by simpa [plain] using h)⟩
  | .tu ps, h => by simp only [WkV]; exact ⟨ps, rfl, wkL_plain ps (by simpa [plain] using h)⟩
  | .cl f ps, h => by simp only [WkV]; exact ⟨ps, rfl, wkL_plain ps (by simpa [plain] using h)⟩
  | .cm f ps, h => by simp only [WkV]; exact ⟨ps, rfl, wkL_plain ps (by simpa [plain] using h)⟩
  | .sl sz rows, _ => by simp [WkV]
  | .nl, _ => by simp [WkV]
  | .ow .., h => by simp [plain] at h
  | .pt .., h => by simp [plain] at h
  | .bs .., h => by simp [plain] at h
  | .eo .., h => by simp [plain] at h
  | .ep s, _ => by simp [WkV]
  | .ub φ, _ => by simp [WkV]
  | .nn kd, _ => by simp [WkV]
  | .ls .., h => by simp [plain] at h
  | .lp .., h => by simp [plain] at h
  | .bad, _ => by simp [WkV]
theorem wkL_plain : ∀ ps : List PV, plainL ps = true → WkL [] [] [] ps ps
  | [], _ => by simp [WkL]
  | p :: ps, h => by
    simp only [plainL, Bool.and_eq_true] at h
    simp only [WkL]
    exact ⟨p, ps, rfl, wkV_plain p h.1, wkL_plain ps h.2⟩
end

/-- An answer without keys. -/
theorem exit_plain {c : CSt} {p r : PV} (hp : plain p = true) (e : p = r) : ExitOk c p r [] := by
  subst e
  exact ⟨.inl ⟨[], [], by simpa [osL] using rnOk_nil c, wkV_plain p hp⟩⟩

/-- A nil slice as an own one. -/
theorem exit_nil {c : CSt} (sz : Nat) : ExitOk c .nl (.ow 0 0 0) [(sz, [])] := ⟨.inr ⟨rfl, sz, rfl, rfl⟩⟩

/-! ### Arguments that came in -/

/-- The cells' own forms, by the type. -/
def Typed (P : Program) : Nat → TypeId → List PV → Prop
  | 0, _, _ => False
  | fuel + 1, t, ls =>
    match P.underlying t with
    | some .bool => ∃ b, ls = [.sc (.bool b)]
    | some (.int k) => ∃ n, ls = [.sc (.int k n)] ∧ (Lit.int k n).wf = true
    | some (.float k) => ∃ b, ls = [.sc (.float k b)] ∧ (Lit.float k b).wf = true
    | some .string => ∃ s : ByteArray, ls = [.sc (.string s)] ∧ s.size ≤ maxLen
    | some (.slice e) => P.cellsOf e = 0 ∨ ∃ rows, ls = [.sl (P.cellsOf e) rows] ∧ rows.length ≤ maxLen ∧ ∀ r ∈ rows, Typed P fuel e r
    | some (.struct fs) => ∃ parts : List (List PV), ls = parts.flatten ∧ parts.length = fs.size ∧ ∀ (i : Nat) (f : Field) (p : List PV), fs[i]? = some f → parts[i]? = some p → Typed P fuel f.type p
    | some (.array n e) => ∃ parts : List (List PV), ls = parts.flatten ∧ parts.length = n ∧ ∀ p ∈ parts, Typed P fuel e p
    | _ => True

theorem RVL.flat {M : Mem} {w : World} : ∀ {parts : List (List PV)} {css : List (List Value)}, parts.length = css.length → (∀ (i : Nat) (p : List PV) (c : List Value), parts[i]? = some p → css[i]? = some c → RVL M w p c) → RVL M w parts.flatten css.flatten
  | [], [], _, _ => by simp [RVL]
  | p :: ps, c :: cs, hl, h => by
    simp only [List.flatten_cons]
    exact (h 0 p c rfl rfl).append (RVL.flat (by simpa using hl) fun i p' c' hp hc => h (i + 1) p' c' (by simpa using hp) (by simpa using hc))
  | [], _ :: _, hl, _ => by simp at hl
  | _ :: _, [], hl, _ => by simp at hl

/-- Pieces of given lengths, one behind the other, are the whole. -/
theorem flat_pieces (cs : List Value) : ∀ (ns : List Nat) (at_ : Nat), at_ + ns.sum = cs.length → ((List.range ns.length).map (fun j => (cs.drop (at_ + (ns.take j).sum)).take (ns.getD j 0))).flatten = cs.drop at_
  | [], at_, h => by
    simp at h
    simp [h]
  | n :: ns, at_, h => by
    simp only [List.sum_cons] at h
    rw [List.length_cons, List.range_succ_eq_map, List.map_cons, List.flatten_cons, List.map_map]
    simp only [List.take_zero, List.sum_nil, Nat.add_zero, List.getD_cons_zero]
    have ih := flat_pieces cs ns (at_ + n) (by omega)
    have e : (List.map ((fun j => List.take ((n :: ns).getD j 0) (List.drop (at_ + (List.take j (n :: ns)).sum) cs)) ∘ Nat.succ) (List.range ns.length)) = (List.range ns.length).map (fun j => (cs.drop (at_ + n + (ns.take j).sum)).take (ns.getD j 0)) := by
      apply List.map_congr_left
      intro j _
      simp [List.take_succ_cons, Nat.add_assoc]
    rw [e, ih]
    rw [← List.drop_drop]
    exact List.take_append_drop n (List.drop at_ cs)

theorem choose_list {β : Type} [Inhabited β] {n : Nat} {R : Nat → β → Prop} (h : ∀ i, i < n → ∃ y, R i y) : ∃ ys : List β, ys.length = n ∧ ∀ (i : Nat) (y : β), ys[i]? = some y → i < n ∧ R i y := by
  induction n with
  | zero => exact ⟨[], rfl, by simp⟩
  | succ n ih =>
    obtain ⟨ys, hl, hy⟩ := ih fun i hi => h i (by omega)
    obtain ⟨y, hr⟩ := h n (by omega)
    refine ⟨ys ++ [y], by simp [hl], ?_⟩
    intro i z hz
    rw [List.getElem?_append] at hz
    by_cases hi : i < ys.length
    · rw [if_pos hi] at hz
      obtain ⟨h1, h2⟩ := hy i z hz
      exact ⟨by omega, h2⟩
    · rw [if_neg hi] at hz
      have : i - ys.length = 0 := by
        cases hk : i - ys.length with
        | zero => rfl
        | succ m => rw [hk] at hz; simp at hz
      rw [this] at hz
      simp at hz
      subst hz
      have : i = n := by omega
      subst this
      exact ⟨by omega, hr⟩

theorem rows_of {M : Mem} {w : World} {b off sz : Nat} {P : List PV → Prop} : ∀ (n s : Nat), (∀ i, i < n → ∃ ls cs, cs.length = sz ∧ Cells w b (off + (s + i) * sz) cs ∧ RVL M w ls cs ∧ P ls) →
    ∃ rows cs, rows.length = n ∧ cs.length = n * sz ∧ Cells w b (off + s * sz) cs ∧ RVR M w sz rows cs ∧ ∀ r ∈ rows, P r
  | 0, s, _ => ⟨[], [], rfl, by simp, by intro j u h; simp at h, by simp [RVR], by simp⟩
  | n + 1, s, h => by
    obtain ⟨ls, c1, e1, e2, e3, e4⟩ := h 0 (by omega)
    obtain ⟨rows, c2, f1, f2, f3, f4, f5⟩ := rows_of n (s + 1) (fun i hi => by have := h (i + 1) (by omega); rwa [show s + (i + 1) = s + 1 + i by omega] at this)
    refine ⟨ls :: rows, c1 ++ c2, by simp [f1], by simp [e1, f2, Nat.add_mul]; omega, ?_, ?_, ?_⟩
    · intro j u hj
      rw [List.getElem?_append] at hj
      by_cases hlt : j < c1.length
      · rw [if_pos hlt] at hj
        have := e2 j u hj
        simpa using this
      · rw [if_neg hlt] at hj
        have := f3 _ u hj
        rw [show off + (s + 1) * sz + (j - c1.length) = off + s * sz + j by rw [Nat.add_mul]; omega] at this
        exact this
    · simp only [RVR]
      exact ⟨c1, c2, rfl, by rw [← e3.length, e1], e3, f4⟩
    · intro r hr
      rcases List.mem_cons.1 hr with rfl | hr
      · exact e4
      · exact f5 r hr

theorem typed_of {H : Type} {enc : TypeId × Value → H} {P : Program} {w : World} {spare : Nat → Bool} {held : Bool} (hl : laidOutB P = true) : ∀ (fuel : Nat) (t : TypeId) (cs : List Value) (x : DataW H × List MemPlace), t < P.types.size → DataW.trod enc P w 0 spare held fuel t cs = some x →
    ∃ ls, RVL (closedM (· < w.heap.size)) w ls cs ∧ Typed P fuel t ls := by
  intro fuel
  induction fuel with
  | zero => intro t cs x _ h; simp [DataW.trod] at h
  | succ fuel ih =>
    intro t cs x ht h
    have one : ∀ c : Value, RVL (closedM (· < w.heap.size)) w [.sc c] [c] := fun c => by simp [RVL, RV]
    have all : ∀ l : List Value, RVL (closedM (· < w.heap.size)) w (l.map .sc) l := by
      intro l
      induction l with
      | nil => simp [RVL]
      | cons c l ih => simp only [List.map_cons, RVL]; exact ⟨c, l, rfl, by simp [RV], ih⟩
    cases hu : P.underlying t with
    | none => exact ⟨_, all cs, by simp only [Typed, hu]⟩
    | some d =>
      cases d
      case bool =>
        obtain ⟨b, rfl, _⟩ := DataW.trod_bool hu h
        exact ⟨_, one _, by simp only [Typed, hu]; exact ⟨_, rfl⟩⟩
      case int k =>
        obtain ⟨n, rfl, _, hw⟩ := DataW.trod_int hu h
        exact ⟨_, one _, by simp only [Typed, hu]; exact ⟨_, rfl, hw⟩⟩
      case float k =>
        have : ∃ b, cs = [.float k b] ∧ (Lit.float k b).wf = true := by
          unfold DataW.trod at h
          rw [hu] at h
          split at h <;> simp_all
        obtain ⟨b, rfl, hw⟩ := this
        exact ⟨_, one _, by simp only [Typed, hu]; exact ⟨_, rfl, hw⟩⟩
      case string =>
        obtain ⟨b, rfl, _, hw⟩ := DataW.trod_string hu h
        exact ⟨_, one _, by simp only [Typed, hu]; exact ⟨_, rfl, hw⟩⟩
      case slice e =>
        by_cases hz : P.cellsOf e = 0
        · exact ⟨_, all cs, by simp only [Typed, hu]; exact .inl hz⟩
        rcases DataW.trod_slice hu h with ⟨rfl, _⟩ | ⟨a, len, cap, elems, rest, n, hfn, rfl, _, _, hlc, hcm, hel, hget, _⟩
        · refine ⟨[.sl (P.cellsOf e) []], ?_, ?_⟩
          · simp only [RVL, RV]
            exact ⟨_, [], rfl, ⟨none, 0, 0, rfl, rfl, Nat.le_refl _, by simp⟩, rfl⟩
          · simp only [Typed, hu]
            exact .inr ⟨[], rfl, by simp, by simp⟩
        · obtain rfl : fuel = n := by omega
          have hlt := kid_slice hl ht hu
          have each : ∀ i, i < len → ∃ c ls, w.cells? 0 (a.add (i * P.cellsOf e)) (P.cellsOf e) = some c ∧ RVL (closedM (· < w.heap.size)) w ls c ∧ Typed P fuel e ls := by
            intro i hi
            have hg := hget i hi
            have : ∃ y, elems[i]? = some y := ⟨elems[i]'(by omega), by simp⟩
            obtain ⟨y, hy⟩ := this
            cases hx : w.cells? 0 (a.add (i * P.cellsOf e)) (P.cellsOf e) with
            | none => rw [hx, hy] at hg; cases hg
            | some c =>
              rw [hx, hy] at hg
              simp only [Option.bind_some] at hg
              obtain ⟨ls, h1, h2⟩ := ih e c y hlt hg
              exact ⟨c, ls, rfl, h1, h2⟩
          by_cases h0 : len = 0
          · subst h0
            refine ⟨[.sl (P.cellsOf e) []], ?_, ?_⟩
            · simp only [RVL, RV]
              exact ⟨_, [], rfl, ⟨_, 0, cap, rfl, rfl, Nat.zero_le _, by simp⟩, rfl⟩
            · simp only [Typed, hu]
              exact .inr ⟨[], rfl, by simp, by simp⟩
          · obtain ⟨c0, ls0, hc0, _, _⟩ := each 0 (by omega)
            have hcell0 : ∃ u, w.cell? a = some u := by
              obtain ⟨_, hlen0, hget0⟩ := World.cells?_some hc0
              have := hget0 0 (by omega)
              simp only [Nat.zero_mul, Addr.add_zero'] at this
              have hlt0 : 0 < c0.length := by omega
              rw [List.getElem?_eq_getElem hlt0] at this
              exact ⟨_, this⟩
            obtain ⟨u, hu0⟩ := hcell0
            have hblk := World.block_lt_of_cell? w a hu0
            obtain ⟨b, off, spot⟩ := a
            have hspot : spot = none := by
              cases spot with
              | none => rfl
              | some q =>
                simp only [World.cell?] at hu0
                split at hu0 <;> simp at hu0
            subst hspot
            obtain ⟨rows, cs, r1, r2, r3, r4, r5⟩ := rows_of (M := (closedM (· < w.heap.size)).cl) (w := w) (b := b) (off := off) (sz := P.cellsOf e) (P := Typed P fuel e) len 0 (by
              intro i hi
              obtain ⟨c, ls, e1, e2, e3⟩ := each i hi
              obtain ⟨_, hlen, hget1⟩ := World.cells?_some e1
              refine ⟨ls, c, hlen, ?_, e2, e3⟩
              intro j v hj
              have hjl : j < c.length := (List.getElem?_eq_some_iff.1 hj).1
              have := hget1 j (by omega)
              rw [hj, Addr.add_lit, Addr.add_lit] at this
              simpa using this)
            refine ⟨[.sl (P.cellsOf e) rows], ?_, ?_⟩
            · simp only [RVL, RV]
              refine ⟨_, [], rfl, ⟨_, len, cap, rfl, r1.symm, hlc, .inr ⟨b, off, cs, rfl, hblk, by simpa using r3, r4⟩⟩, rfl⟩
            · simp only [Typed, hu]
              exact .inr ⟨rows, rfl, by rw [r1]; omega, r5⟩
      case struct fs =>
        obtain ⟨xs, n, hfn, _, hlen, hxl, hget⟩ := DataW.trod_struct hu h
        obtain rfl : fuel = n := by omega
        obtain ⟨k1, k2, k3⟩ := kid_struct hl ht hu
        have each : ∀ i, i < fs.size → ∃ ls, ∀ f, fs.toList[i]? = some f → RVL (closedM (· < w.heap.size)) w ls ((cs.drop f.offset).take (P.cellsOf f.type)) ∧ Typed P fuel f.type ls := by
          intro i hi
          have hf : fs.toList[i]? = some fs[i] := by simp [hi]
          have hg := hget i fs[i] (by simp [hi])
          have : ∃ y, xs[i]? = some y := ⟨xs[i]'(by omega), by simp⟩
          obtain ⟨y, hy⟩ := this
          rw [hy] at hg
          obtain ⟨ls, h1, h2⟩ := ih _ _ y (k1 _ (List.mem_of_getElem? hf)) hg
          refine ⟨ls, fun f hf' => ?_⟩
          rw [hf] at hf'; cases hf'
          exact ⟨h1, h2⟩
        obtain ⟨parts, p1, p2⟩ := choose_list each
        have hns : (fs.toList.map fun f => P.cellsOf f.type).length = fs.size := by simp
        have hfl := flat_pieces cs (fs.toList.map fun f => P.cellsOf f.type) 0 (by rw [Nat.zero_add, ← k2, hlen])
        rw [hns] at hfl
        simp only [Nat.zero_add, List.drop_zero] at hfl
        refine ⟨parts.flatten, ?_, ?_⟩
        · rw [← hfl]
          refine RVL.flat (by simp [p1]) ?_
          intro i p c hp hc
          obtain ⟨hi, hR⟩ := p2 i p hp
          have hf : fs.toList[i]? = some fs[i] := by simp [hi]
          obtain ⟨h1, _⟩ := hR _ hf
          have hoff := k3 i _ hf
          rw [List.getElem?_map, List.getElem?_range hi] at hc
          simp only [Option.map_some, Option.some.injEq] at hc
          rw [← hc]
          have e1 : ((fs.toList.map fun f => P.cellsOf f.type).take i).sum = fs[i].offset := by rw [hoff, List.map_take]
          have e2 : (fs.toList.map fun f => P.cellsOf f.type).getD i 0 = P.cellsOf fs[i].type := by
            rw [List.getD_eq_getElem?_getD, List.getElem?_map, hf]; rfl
          rw [e1, e2]
          exact h1
        · simp only [Typed, hu]
          refine ⟨parts, rfl, p1, ?_⟩
          intro i f p hf hp
          obtain ⟨_, hR⟩ := p2 i p hp
          exact (hR f (by simpa using hf)).2
      case array n e =>
        obtain ⟨xs, m, hfn, _, hlen, hxl, hget⟩ := DataW.trod_array hu h
        obtain rfl : fuel = m := by omega
        obtain ⟨k1, k2⟩ := kid_array hl ht hu
        have each : ∀ i, i < n → ∃ ls, RVL (closedM (· < w.heap.size)) w ls ((cs.drop (i * P.cellsOf e)).take (P.cellsOf e)) ∧ Typed P fuel e ls := by
          intro i hi
          have hg := hget i hi
          have : ∃ y, xs[i]? = some y := ⟨xs[i]'(by omega), by simp⟩
          obtain ⟨y, hy⟩ := this
          rw [hy] at hg
          exact ih _ _ y k1 hg
        obtain ⟨parts, p1, p2⟩ := choose_list each
        have hsum : ∀ m, (List.replicate m (P.cellsOf e)).sum = m * P.cellsOf e := by
          intro m; simp
        have hfl := flat_pieces cs (List.replicate n (P.cellsOf e)) 0 (by rw [Nat.zero_add, hsum, hlen, k2])
        simp only [List.length_replicate, Nat.zero_add, List.drop_zero] at hfl
        refine ⟨parts.flatten, ?_, ?_⟩
        · rw [← hfl]
          refine RVL.flat (by simp [p1]) ?_
          intro i p c hp hc
          obtain ⟨hi, hR, _⟩ := p2 i p hp
          rw [List.getElem?_map, List.getElem?_range hi] at hc
          simp only [Option.map_some, Option.some.injEq] at hc
          rw [← hc]
          have e1 : ((List.replicate n (P.cellsOf e)).take i).sum = i * P.cellsOf e := by
            rw [List.take_replicate, hsum, Nat.min_eq_left (by omega)]
          have e2 : (List.replicate n (P.cellsOf e)).getD i 0 = P.cellsOf e := by
            rw [List.getD_eq_getElem?_getD, List.getElem?_replicate, if_pos hi]; rfl
          rw [e1, e2]
          exact hR
        · simp only [Typed, hu]
          refine ⟨parts, rfl, p1, ?_⟩
          intro p hp
          obtain ⟨i, hi⟩ := List.getElem?_of_mem hp
          exact (p2 i p hi).2.2
      all_goals exact ⟨_, all cs, by simp only [Typed, hu]⟩

/-! ### A law's call -/

theorem ctr_calls {P : Program} {f : Nat} {fn : Func} {args : List PV} {r : Value} {w : World} {vs : List Value} (hf : P.funcs[f]? = some fn) (hb : fn.body.isSome = true) (hname : (fn.name == "runtime.NumGoroutine") = false) (h : Ctr P f args (.sc r) []) (hv : RVL (closedM (· < w.heap.size)) w args vs) :
    Calls P f vs.toArray w fun e w' => e = .returned r ∧ RowKit.Below w.heap.size w w' := by
  have hcall : (callFunc f vs.toArray).run P w = .ok (.enter f vs.toArray) w := by
    obtain ⟨code, hc⟩ := Option.isSome_iff_exists.1 hb
    simp [callFunc, hf, hc]; simpa using hname
  rcases h.run w _ vs (fun _ h => h) hv with ⟨_, h2⟩ | ⟨v, w', h1, _⟩
  · refine h2.mono ?_
    rintro e w' ⟨v, M', rfl, hrv, hrel⟩
    simp only [RV] at hrv
    subst hrv
    exact ⟨rfl, hrel.os, hrel.tape, hrel.out, hrel.size, fun k hk => hrel.kept k hk (fun x => x)⟩
  · rw [hcall] at h1; cases h1

end Go.Pv

/-
  Loops, for use: a state at the loop's head is the state in which it was come to, but for some slots, boxes, slices. Generic over the program.
-/
namespace Go.Pv

/-- The slots that code writes. -/
def dstsC : Code → List Nat
  | .region _ ops _ => ops.toList.filterMap (·.dst)
  | .seq a b => dstsC a ++ dstsC b
  | .cond _ a b => dstsC a ++ dstsC b
  | .block _ b => dstsC b
  | .loop b => dstsC b
  | _ => []

noncomputable def havK (ds : List Nat) : List PV → (List PV → Prop) → Prop :=
  @List.rec Nat (fun _ => List PV → (List PV → Prop) → Prop) (fun tm k => k tm) (fun d _ R tm k => stK tm d .bad fun tm => R tm k) ds
def hav : List Nat → List PV → List PV
  | [], tm => tm
  | d :: ds, tm => hav ds (tm.set d .bad)
theorem havK_eq : ∀ (ds : List Nat) (tm : List PV) (k : List PV → Prop), havK ds tm k = k (hav ds tm)
  | [], tm, k => rfl
  | d :: ds, tm, k => by
    show stK tm d .bad (fun tm => havK ds tm k) = _
    rw [stK_eq, havK_eq ds]; rfl

noncomputable def setVK (vs : List (Nat × PV)) : List PV → (List PV → Prop) → Prop :=
  @List.rec (Nat × PV) (fun _ => List PV → (List PV → Prop) → Prop) (fun tm k => k tm) (fun v _ R tm k => match v with | (i, p) => stK tm i p fun tm => R tm k) vs
def setV : List (Nat × PV) → List PV → List PV
  | [], tm => tm
  | v :: vs, tm => setV vs (tm.set v.1 v.2)
theorem setVK_eq : ∀ (vs : List (Nat × PV)) (tm : List PV) (k : List PV → Prop), setVK vs tm k = k (setV vs tm)
  | [], tm, k => rfl
  | v :: vs, tm, k => by
    show stK tm v.1 v.2 (fun tm => setVK vs tm k) = _
    rw [stK_eq, setVK_eq vs]; rfl

noncomputable def headK (body : Code) (tm : List PV) (vs : List (Nat × PV)) (k : List PV → Prop) : Prop := havK (dstsC body) tm fun tm => setVK vs tm k
def headT (body : Code) (tm : List PV) (vs : List (Nat × PV)) : List PV := setV vs (hav (dstsC body) tm)
theorem headK_eq (body : Code) (tm : List PV) (vs : List (Nat × PV)) (k : List PV → Prop) : headK body tm vs k = k (headT body tm vs) := by
  unfold headK headT; rw [havK_eq, setVK_eq]

/-- Slot by slot: what is said of none is passed over. -/
noncomputable def wkLK (kb : List Nat) (rn : List (Nat × Nat)) (fz : List (Nat × Bool × Nat × List (List PV))) (qs : List PV) : List PV → Prop :=
  @List.rec PV (fun _ => List PV → Prop) (fun ps => ps = []) (fun q _ R ps => match ps with
    | [] => False
    | p :: ps => match q with
      | .bad => R ps
      | q => WkV kb rn fz p q ∧ R ps) qs

theorem wkLK_sound (kb : List Nat) (rn : List (Nat × Nat)) (fz : List (Nat × Bool × Nat × List (List PV))) : ∀ (qs ps : List PV), wkLK kb rn fz qs ps → WkL kb rn fz ps qs
  | [], ps, h => by
    have h : ps = [] := h
    simpa [WkL] using h
  | q :: qs, ps, h => by
    cases ps with
    | nil => exact h.elim
    | cons p ps =>
      simp only [WkL]
      cases q
      case bad => exact ⟨p, ps, rfl, by simp [WkV], wkLK_sound kb rn fz qs ps h⟩
      all_goals exact ⟨p, ps, rfl, h.1, wkLK_sound kb rn fz qs ps h.2⟩

/-- Boxes, one by one. -/
noncomputable def wkBK (kb : List Nat) (rn : List (Nat × Nat)) (fz : List (Nat × Bool × Nat × List (List PV))) (bx : List (Nat × List PV)) (bx' : List (Nat × List PV)) : Prop :=
  @List.rec (Nat × List PV) (fun _ => Prop) True (fun b _ R => match lkA bx b.1 with
    | some ls => wkLK kb rn fz b.2 ls ∧ R
    | none => False) bx'

theorem wkBK_sound {kb : List Nat} {rn : List (Nat × Nat)} {fz : List (Nat × Bool × Nat × List (List PV))} {bx : List (Nat × List PV)} : ∀ {bx' : List (Nat × List PV)}, wkBK kb rn fz bx bx' → ∀ k ls', lkA bx' k = some ls' → ∃ ls, lkA bx k = some ls ∧ WkL kb rn fz ls ls'
  | [], _, k, ls', hk => by simp [lkA] at hk
  | (j, m) :: bx', h, k, ls', hk => by
    have h : (match lkA bx j with | some ls => wkLK kb rn fz m ls ∧ wkBK kb rn fz bx bx' | none => False) := h
    split at h
    · rename_i ls hl
      simp only [lkA] at hk
      by_cases e : j = k
      · subst e
        simp only [Nat.beq_refl, cond_true, Option.some.injEq] at hk
        subst hk
        exact ⟨ls, hl, wkLK_sound _ _ _ _ _ h.1⟩
      · rw [beq_ne e] at hk
        exact wkBK_sound h.2 k ls' hk
    · exact h.elim

/-- Slices, one by one, under their names. -/
noncomputable def wkOK (rn : List (Nat × Nat)) (ob : List (Nat × Option (Bool × Nat × List (List PV)))) (fzk : List Nat) (ob' : List (Nat × Option (Bool × Nat × List (List PV)))) : Prop :=
  @List.rec (Nat × Option (Bool × Nat × List (List PV))) (fun _ => Prop) True (fun o _ R => match o with
    | (_, none) => R
    | (k, some q) => match lkA rn k with
      | some k0 => match lkA ob k0 with
        | some (some q0) => q0 = q ∧ okK (!fzk.any fun x => Nat.beq x k0) R
        | _ => False
      | none => False) ob'

def rnB (rn : List (Nat × Nat)) (ks : List Nat) : Bool := (rn.all fun p => ks.any fun k => Nat.beq k p.1) && rn.all fun p => rn.all fun q => !Nat.beq p.2 q.2 || Nat.beq p.1 q.1

theorem wkOK_sound {rn : List (Nat × Nat)} {ob : List (Nat × Option (Bool × Nat × List (List PV)))} {fzk : List Nat} : ∀ {ob' : List (Nat × Option (Bool × Nat × List (List PV)))}, wkOK rn ob fzk ob' → ∀ k o, lkA ob' k = some o → o = none ∨ ∃ k0 q, lkA rn k = some k0 ∧ o = some q ∧ lkA ob k0 = some (some q) ∧ ∀ x ∈ fzk, x ≠ k0
  | [], _, k, o, hk => by simp [lkA] at hk
  | (j, none) :: ob', h, k, o, hk => by
    have h : wkOK rn ob fzk ob' := h
    simp only [lkA] at hk
    by_cases e : j = k
    · subst e
      simp only [Nat.beq_refl, cond_true, Option.some.injEq] at hk
      exact .inl hk.symm
    · rw [beq_ne e] at hk
      exact wkOK_sound h k o hk
  | (j, some q) :: ob', h0, k, o, hk => by
    have h : (match lkA rn j with
      | some k0 => match lkA ob k0 with
        | some (some q0) => q0 = q ∧ okK (!fzk.any fun x => Nat.beq x k0) (wkOK rn ob fzk ob')
        | _ => False
      | none => False) := h0
    clear h0
    split at h
    · rename_i k0 hr
      split at h
      · rename_i q0 hl
        obtain ⟨rfl, h1⟩ := h
        obtain ⟨hf, h⟩ := okK_iff h1
        simp only [lkA] at hk
        by_cases e : j = k
        · subst e
          simp only [Nat.beq_refl, cond_true, Option.some.injEq] at hk
          subst hk
          refine .inr ⟨k0, q0, hr, rfl, hl, ?_⟩
          intro x hx e
          subst e
          have hf : (fzk.any fun y => Nat.beq y x) = false := by simpa using hf
          rw [List.any_eq_false] at hf
          exact hf x hx (by simp)
        · rw [beq_ne e] at hk
          exact wkOK_sound h k o hk
      · exact h.elim
    · exact h.elim

theorem lkA_mem {α : Type} : ∀ {l : List (Nat × α)} {k : Nat} {v : α}, lkA l k = some v → (k, v) ∈ l
  | [], k, v, h => by simp [lkA] at h
  | (j, u) :: r, k, v, h => by
    simp only [lkA] at h
    by_cases e : j = k
    · subst e; simp at h; simp [h]
    · rw [beq_ne e] at h; exact List.mem_cons_of_mem _ (lkA_mem h)
theorem lkA_of_key {α : Type} : ∀ {l : List (Nat × α)} {k : Nat}, k ∈ l.map (·.1) → ∃ v, lkA l k = some v
  | [], k, h => by simp at h
  | (j, u) :: r, k, h => by
    simp only [lkA]
    by_cases e : j = k
    · subst e; exact ⟨u, by simp⟩
    · rw [beq_ne e]
      simp only [List.map_cons, List.mem_cons] at h
      rcases h with h | h
      · exact absurd h.symm e
      · exact lkA_of_key h

/-- Forgetting and renaming, checked piece by piece. -/
noncomputable def wkK (rn : List (Nat × Nat)) (fz : List (Nat × Bool × Nat × List (List PV))) (c : CSt) (tm : List PV) (bx : List (Nat × List PV)) (ob : List (Nat × Option (Bool × Nat × List (List PV)))) : Prop :=
  ((rnB rn (ob.map (·.1)) && pinOk c.bx c.ob (bx.map (·.1)) rn) = true ∧ ∀ q ∈ fz, lkA c.ob q.1 = some (some q.2)) ∧ wkOK rn c.ob (fz.map (·.1)) ob ∧ wkBK (bx.map (·.1)) rn fz c.bx bx ∧ wkLK (bx.map (·.1)) rn fz tm c.tm

theorem wkK_sound {rn : List (Nat × Nat)} {fz : List (Nat × Bool × Nat × List (List PV))} {c : CSt} {tm : List PV} {bx : List (Nat × List PV)} {ob : List (Nat × Option (Bool × Nat × List (List PV)))} (h : wkK rn fz c tm bx ob) : Wk c ⟨tm, bx, ob⟩ := by
  obtain ⟨⟨h1, h2⟩, h3, h4, h5⟩ := h
  rw [Bool.and_eq_true] at h1
  obtain ⟨h1, hpin⟩ := h1
  refine wk_of (c' := ⟨tm, bx, ob⟩) fz rn ⟨h2, ?_, ?_, ?_⟩ (wkBK_sound h4) (wkLK_sound _ _ _ _ _ h5) hpin
  · intro k o hk
    rcases wkOK_sound h3 k o hk with e0 | ⟨k0, q, a, b, d, e⟩
    · exact .inl e0
    · exact .inr ⟨k0, q, a, b, d, fun x hx => e x.1 (List.mem_map.2 ⟨x, hx, rfl⟩)⟩
  · intro k k0 hk
    simp only [rnB, Bool.and_eq_true, List.all_eq_true] at h1
    have := h1.1 _ (lkA_mem hk)
    simp only [List.any_eq_true] at this
    obtain ⟨j, hj, e⟩ := this
    have e : j = k := by simpa using e
    subst e
    exact lkA_of_key hj
  · intro k k' k0 hk hk'
    simp only [rnB, Bool.and_eq_true, List.all_eq_true] at h1
    have := h1.2 _ (lkA_mem hk) _ (lkA_mem hk')
    simpa using this

/-- A loop, by an invariant: a family of states, a measure; what a round ends with implies the next head. -/
theorem tri_loopN {P : Program} (hm : P.follows .mixedOrders = true) {body : Code} {Q : Exit → CSt → Prop} {c : CSt} (hok : codeOk body = true) {β : Type} (I : β → Prop) (S : β → CSt) (μ : β → Nat) (b0 : β) (h0 : I b0) (hw : Wk c (S b0))
    (N : β → CSt → Prop) (hN : ∀ b c', N b c' → ∃ b', I b' ∧ μ b' < μ b ∧ Wk c' (S b')) (round : ∀ b, I b → pwp P body (S b) (loopQ Q (N b))) : Tri P (.loop body) Q c := by
  refine ⟨?_⟩
  intro w0 X S0 M a w hr
  obtain ⟨M0, hr0⟩ := hw w0 X S0 M a w hr
  intro fb k cs
  have key : ∀ n b, μ b = n → I b → ∀ M a w, Rel w0 X S0 M (S b).st a w → ∃ e a' w', (∃ c' M', Rel w0 X S0 M' c'.st a' w' ∧ Q e c') ∧ Arrives P (lone (fb.at a (.code body :: .inLoop body :: k)) cs w) fb k cs e a' w' := by
    intro n
    induction n using Nat.strongRecOn with
    | _ n ih =>
      intro b hb hI M a w hr
      obtain ⟨e, a₁, w₁, ⟨c1, M1, hr1, hq⟩, harr⟩ := (pwp_sound hm body (S b) _ hok (round b hI)).run w0 X S0 M a w hr fb (.inLoop body :: k) cs
      cases e with
      | normal =>
        obtain ⟨b', hI', hlt, hwk⟩ := hN b c1 hq
        obtain ⟨M2, hr2⟩ := hwk w0 X S0 M1 a₁ w₁ hr1
        obtain ⟨e₂, a₂, w₂, hq₂, harr₂⟩ := ih (μ b') (hb ▸ hlt) b' rfl hI' M2 a₁ w₁ hr2
        exact ⟨e₂, a₂, w₂, hq₂, .of_steps (Steps.trans harr (.one step_inLoop)) harr₂⟩
      | exit id => exact ⟨_, a₁, w₁, ⟨c1, M1, hr1, hq⟩, .pass (x := .inLoop body) rfl (fun _ _ => .inl (by simp)) harr⟩
      | goto l => exact ⟨_, a₁, w₁, ⟨c1, M1, hr1, hq⟩, .pass (x := .inLoop body) rfl (fun _ _ => .inl (by simp)) harr⟩
      | ret => exact ⟨_, a₁, w₁, ⟨c1, M1, hr1, hq⟩, .pass (x := .inLoop body) rfl (fun _ _ => .inl (by simp)) harr⟩
      | panic ch => exact ⟨_, a₁, w₁, ⟨c1, M1, hr1, hq⟩, .pass (x := .inLoop body) rfl (fun _ _ => .inl (by simp)) harr⟩
      | outgrown => exact ⟨_, a₁, w₁, ⟨c1, M1, hr1, hq⟩, .pass (x := .inLoop body) rfl (fun _ _ => .inl (by simp)) harr⟩
  obtain ⟨e, a', w', hq, harr⟩ := key _ b0 rfl h0 M0 a w hr0
  exact ⟨e, a', w', hq, .of_steps (.one step_loop) harr⟩

/-- A loop: the state at its head is that in which it was come to, but for the slots that V says (all else that the loop writes is forgotten), the boxes W, the slices O. -/
theorem tri_for {P : Program} (hm : P.follows .mixedOrders = true) {body : Code} {Q : Exit → CSt → Prop} {c : CSt} (hok : codeOk body = true) {β : Type} (I : β → Prop) (V : β → List (Nat × PV)) (W : β → List (Nat × List PV)) (O : β → List (Nat × Option (Bool × Nat × List (List PV)))) (rn : List (Nat × Nat)) (μ : β → Nat) (b0 : β) (h0 : I b0)
    (hw : Wk c ⟨headT body c.tm (V b0), W b0, O b0⟩)
    (round : ∀ b, I b → headK body c.tm (V b) fun tm => pwp P body ⟨tm, W b, O b⟩ (loopQ Q fun c' => ∃ b', (I b' ∧ μ b' < μ b) ∧ headK body c.tm (V b') fun tm => wkK rn [] c' tm (W b') (O b'))) : Tri P (.loop body) Q c := by
  refine tri_loopN hm hok I (fun b => ⟨headT body c.tm (V b), W b, O b⟩) μ b0 h0 hw (fun b c' => ∃ b', (I b' ∧ μ b' < μ b) ∧ headK body c.tm (V b') fun tm => wkK rn [] c' tm (W b') (O b')) ?_ ?_
  · rintro b c' ⟨b', ⟨h1, h2⟩, h3⟩
    rw [headK_eq] at h3
    exact ⟨b', h1, h2, wkK_sound h3⟩
  · intro b hb
    have h := round b hb
    rw [headK_eq] at h
    exact h

/-- A loop that changes no box and no slice that was there. -/
theorem tri_for0 {P : Program} (hm : P.follows .mixedOrders = true) {body : Code} {Q : Exit → CSt → Prop} {tm : List PV} {bx : List (Nat × List PV)} {ob : List (Nat × Option (Bool × Nat × List (List PV)))} (hok : codeOk body = true) {β : Type} (I : β → Prop) (V : β → List (Nat × PV)) (rn : List (Nat × Nat)) (μ : β → Nat) (b0 : β) (h0 : I b0)
    (hw : headK body tm (V b0) fun tm' => wkK rn [] ⟨tm, bx, ob⟩ tm' bx ob)
    (round : ∀ b, I b → headK body tm (V b) fun tm' => pwp P body ⟨tm', bx, ob⟩ (loopQ Q fun c' => ∃ b', (I b' ∧ μ b' < μ b) ∧ headK body tm (V b') fun tm' => wkK rn [] c' tm' bx ob)) : Tri P (.loop body) Q ⟨tm, bx, ob⟩ := by
  refine tri_for hm hok I V (fun _ => bx) (fun _ => ob) rn μ b0 h0 ?_ round
  rw [headK_eq] at hw
  exact wkK_sound hw

/-- A loop that changes boxes. -/
theorem tri_forB {P : Program} (hm : P.follows .mixedOrders = true) {body : Code} {Q : Exit → CSt → Prop} {tm : List PV} {bx : List (Nat × List PV)} {ob : List (Nat × Option (Bool × Nat × List (List PV)))} (hok : codeOk body = true) {β : Type} (I : β → Prop) (V : β → List (Nat × PV)) (W : β → List (Nat × List PV)) (rn : List (Nat × Nat)) (μ : β → Nat) (b0 : β) (h0 : I b0)
    (hw : headK body tm (V b0) fun tm' => wkK rn [] ⟨tm, bx, ob⟩ tm' (W b0) ob)
    (round : ∀ b, I b → headK body tm (V b) fun tm' => pwp P body ⟨tm', W b, ob⟩ (loopQ Q fun c' => ∃ b', (I b' ∧ μ b' < μ b) ∧ headK body tm (V b') fun tm' => wkK rn [] c' tm' (W b') ob)) : Tri P (.loop body) Q ⟨tm, bx, ob⟩ := by
  refine tri_for hm hok I V W (fun _ => ob) rn μ b0 h0 ?_ round
  rw [headK_eq] at hw
  exact wkK_sound hw

/-- A loop that changes boxes and slices; 'rn0' renames at its first head, and each round names its own. -/
theorem tri_forO {P : Program} (hm : P.follows .mixedOrders = true) {body : Code} {Q : Exit → CSt → Prop} {tm : List PV} {bx : List (Nat × List PV)} {ob : List (Nat × Option (Bool × Nat × List (List PV)))} (hok : codeOk body = true) {β : Type} (I : β → Prop) (V : β → List (Nat × PV)) (W : β → List (Nat × List PV)) (O : β → List (Nat × Option (Bool × Nat × List (List PV)))) (rn0 : List (Nat × Nat)) (μ : β → Nat) (b0 : β) (h0 : I b0)
    (hw : headK body tm (V b0) fun tm' => wkK rn0 [] ⟨tm, bx, ob⟩ tm' (W b0) (O b0))
    (round : ∀ b, I b → headK body tm (V b) fun tm' => pwp P body ⟨tm', W b, O b⟩ (loopQ Q fun c' => ∃ b' rn, (I b' ∧ μ b' < μ b) ∧ headK body tm (V b') fun tm' => wkK rn [] c' tm' (W b') (O b'))) : Tri P (.loop body) Q ⟨tm, bx, ob⟩ := by
  refine tri_loopN hm hok I (fun b => ⟨headT body tm (V b), W b, O b⟩) μ b0 h0 ?_ (fun b c' => ∃ b' rn, (I b' ∧ μ b' < μ b) ∧ headK body tm (V b') fun tm' => wkK rn [] c' tm' (W b') (O b')) ?_ ?_
  · rw [headK_eq] at hw
    exact wkK_sound hw
  · rintro b c' ⟨b', rn, ⟨h1, h2⟩, h3⟩
    rw [headK_eq] at h3
    exact ⟨b', h1, h2, wkK_sound h3⟩
  · intro b hb
    have h := round b hb
    rw [headK_eq] at h
    exact h

/-- What a slot says of itself. -/
theorem wkV_sc {kb : List Nat} {rn : List (Nat × Nat)} {fz : List (Nat × Bool × Nat × List (List PV))} {v u : Value} (h : v = u) : WkV kb rn fz (.sc v) (.sc u) := by subst h; simp [WkV]
mutual
theorem wkV_same {kb : List Nat} {rn : List (Nat × Nat)} {fz : List (Nat × Bool × Nat × List (List PV))} : ∀ p : PV, plain p = true → WkV kb rn fz p p
  | .sc v, _ => by simp [WkV]
  | .ag ps, h => by simp only [WkV]; exact ⟨ps, rfl, wkL_same ps (by simpa [plain] using h)⟩
  | .tu ps, h => by simp only [WkV]; exact ⟨ps, rfl, wkL_same ps (by simpa [plain] using h)⟩
  | .cl f ps, h => by simp only [WkV]; exact ⟨ps, rfl, wkL_same ps (by simpa [plain] using h)⟩
  | .cm f ps, h => by simp only [WkV]; exact ⟨ps, rfl, wkL_same ps (by simpa [plain] using h)⟩
  | .sl sz rows, _ => by simp [WkV]
  | .nl, _ => by simp [WkV]
  | .ow .., h => by simp [plain] at h
  | .pt .., h => by simp [plain] at h
  | .bs .., h => by simp [plain] at h
  | .eo .., h => by simp [plain] at h
  | .ep s, _ => by simp [WkV]
  | .ub φ, _ => by simp [WkV]
  | .nn kd, _ => by simp [WkV]
  | .ls .., h => by simp [plain] at h
  | .lp .., h => by simp [plain] at h
  | .bad, _ => by simp [WkV]
theorem wkL_same {kb : List Nat} {rn : List (Nat × Nat)} {fz : List (Nat × Bool × Nat × List (List PV))} : ∀ ps : List PV, plainL ps = true → WkL kb rn fz ps ps
  | [], _ => by simp [WkL]
  | p :: ps, h => by
    simp only [plainL, Bool.and_eq_true] at h
    simp only [WkL]
    exact ⟨p, ps, rfl, wkV_same p h.1, wkL_same ps h.2⟩
end
theorem wkV_pt {kb : List Nat} {rn : List (Nat × Nat)} {fz : List (Nat × Bool × Nat × List (List PV))} {k off off' : Nat} (h : kb.contains k = true) (e : off = off') : WkV kb rn fz (.pt k off) (.pt k off') := by
  subst e; simp only [WkV]; exact ⟨by simpa using h, trivial⟩
theorem wkV_ow {kb : List Nat} {rn : List (Nat × Nat)} {fz : List (Nat × Bool × Nat × List (List PV))} {k k0 lo len lo' len' : Nat} (h : lkA rn k = some k0) (e1 : lo = lo') (e2 : len = len') : WkV kb rn fz (.ow k0 lo len) (.ow k lo' len') := by
  subst e1; subst e2; simp only [WkV]; exact ⟨k0, h, rfl⟩

end Go.Pv

/-
  A nil slice where a contract speaks of an empty one. Generic over the program.
-/
namespace Go.Pv

def SubL : List PV → List PV → Prop
  | [], [] => True
  | p :: ps, q :: qs => (p = q ∨ (p = .nl ∧ ∃ sz, q = .sl sz [])) ∧ SubL ps qs
  | _, _ => False
def SubA : List PV → List PV → Prop
  | [], [] => True
  | p :: ps, q :: qs => (p = q ∨ (p = .nl ∧ ∃ sz, q = .sl sz []) ∨ ∃ xs ys, p = .ag xs ∧ q = .ag ys ∧ SubL xs ys) ∧ SubA ps qs
  | _, _ => False

theorem sub_nl {M : Mem} {w : World} {v : Value} {sz : Nat} (h : RV M w .nl v) : RV M w (.sl sz []) v := by
  simp only [RV] at h ⊢
  obtain ⟨a, rfl⟩ := h
  exact ⟨a, 0, 0, rfl, rfl, Nat.le_refl _, .inl trivial⟩

theorem subL_sound {M : Mem} {w : World} : ∀ {ps qs : List PV} {cs : List Value}, SubL ps qs → RVL M w ps cs → RVL M w qs cs
  | [], [], cs, _, h => h
  | p :: ps, q :: qs, cs, hs, h => by
    simp only [RVL] at h ⊢
    obtain ⟨c, r, rfl, h1, h2⟩ := h
    refine ⟨c, r, rfl, ?_, subL_sound hs.2 h2⟩
    rcases hs.1 with rfl | ⟨rfl, sz, rfl⟩
    · exact h1
    · exact sub_nl h1
  | [], _ :: _, _, hs, _ => hs.elim
  | _ :: _, [], _, hs, _ => hs.elim

theorem subA_sound {M : Mem} {w : World} : ∀ {ps qs : List PV} {cs : List Value}, SubA ps qs → RVL M w ps cs → RVL M w qs cs
  | [], [], cs, _, h => h
  | p :: ps, q :: qs, cs, hs, h => by
    simp only [RVL] at h ⊢
    obtain ⟨c, r, rfl, h1, h2⟩ := h
    refine ⟨c, r, rfl, ?_, subA_sound hs.2 h2⟩
    rcases hs.1 with rfl | ⟨rfl, sz, rfl⟩ | ⟨xs, ys, rfl, rfl, hl⟩
    · exact h1
    · exact sub_nl h1
    · simp only [RV] at h1 ⊢
      obtain ⟨cs, e, h1⟩ := h1
      exact ⟨cs, e, subL_sound hl h1⟩
  | [], _ :: _, _, hs, _ => hs.elim
  | _ :: _, [], _, hs, _ => hs.elim

theorem Ctr.weak {P : Program} {f : Nat} {ps qs : List PV} {r : PV} {os : List (Nat × List (List PV))} (h : Ctr P f qs r os) (hs : SubA ps qs) : Ctr P f ps r os :=
  ⟨fun w st vs hst hv => h.run w st vs hst (subA_sound hs hv)⟩

theorem call_wk {P : Program} {f : Nat} {ps qs : List PV} {r : PV} {os : List (Nat × List (List PV))} {K : PV → List (Nat × List (List PV)) → Prop} (h : Ctr P f qs r os) (hs : SubA ps qs) (k : K r os) : ∃ r os, Ctr P f ps r os ∧ K r os := ⟨r, os, h.weak hs, k⟩

end Go.Pv

/-
  Functions without a body; answers that are new slices. Generic over the program.
-/
namespace Go.Pv

theorem ctr_extern {P : Program} {f : Nat} {fn : Func} {e : Array Value → Sem Value} {args : List PV} {r : Value} (hf : P.funcs[f]? = some fn) (hname : (fn.name == "runtime.NumGoroutine") = false) (hb : fn.body.isNone = true) (hn : Extern.findNext fn = none) (he : Extern.find fn = some e)
    (h : ∀ (w : World) (M : Mem) (vs : List Value), RVL M w args vs → (e vs.toArray).run P w = .ok r w) : Ctr P f args (.sc r) [] := by
  refine ⟨?_⟩
  intro w st vs hst hv
  right
  refine ⟨r, w, ?_, r, closedM st, rfl, by simp [RV], ?_⟩
  · rw [run_callFunc_extern hf hname hb hn he, h w _ vs hv]; rfl
  · refine { os := rfl, tape := rfl, out := rfl, size := Nat.le_refl _, kept := fun _ _ _ => rfl, stlt := hst, stok := fun b hb => .inl hb, box := ?_, boxKey := ?_, obj := ?_, objKey := ?_, boxNe := ?_, objNe := ?_, boxObj := ?_, pinB := ?_, pinO := ?_ }
    · intro k ls hk; cases hk
    · intro k b hk; cases hk
    · intro k a b c hk; simp [osMap] at hk
    · intro k L hk; cases hk
    · intro k k' b hk; cases hk
    · intro k k' o o' L L' hk; simp [osMap] at hk
    · intro k k' b o L hk; cases hk
    · intro k b hk; cases hk
    · intro k b hk; cases hk

end Go.Pv

/-
  Answers that are new slices. Generic over the program.
-/
namespace Go.Pv

/-- An answer with slices of the call's own. -/
theorem exit_own {c : CSt} {p r : PV} {os : List (Nat × List (List PV))} (rn : List (Nat × Nat)) (h1 : rnB rn ((osL 0 os).map (·.1)) = true) (h2 : wkOK rn c.ob [] (osL 0 os)) (h3 : WkV [] rn [] p r) : ExitOk c p r os := by
  refine ⟨.inl ⟨[], rn, ⟨by simp, ?_, ?_, ?_⟩, h3⟩⟩
  · intro k o hk
    rcases wkOK_sound h2 k o hk with e0 | ⟨k0, q, a, b, d, e⟩
    · exact .inl e0
    · exact .inr ⟨k0, q, a, b, d, by simp⟩
  · intro k k0 hk
    simp only [rnB, Bool.and_eq_true, List.all_eq_true] at h1
    have := h1.1 _ (lkA_mem hk)
    simp only [List.any_eq_true] at this
    obtain ⟨j, hj, e⟩ := this
    have e : j = k := by simpa using e
    subst e
    exact lkA_of_key hj
  · intro k k' k0 hk hk'
    simp only [rnB, Bool.and_eq_true, List.all_eq_true] at h1
    have := h1.2 _ (lkA_mem hk) _ (lkA_mem hk')
    simpa using this

theorem wkV_ag {kb : List Nat} {rn : List (Nat × Nat)} {fz : List (Nat × Bool × Nat × List (List PV))} {ps qs : List PV} (h : wkLK kb rn fz qs ps) : WkV kb rn fz (.ag ps) (.ag qs) := by
  simp only [WkV]; exact ⟨ps, rfl, wkLK_sound _ _ _ _ _ h⟩
theorem wkV_tu {kb : List Nat} {rn : List (Nat × Nat)} {fz : List (Nat × Bool × Nat × List (List PV))} {ps qs : List PV} (h : wkLK kb rn fz qs ps) : WkV kb rn fz (.tu ps) (.tu qs) := by
  simp only [WkV]; exact ⟨ps, rfl, wkLK_sound _ _ _ _ _ h⟩

theorem wkV_cl {kb : List Nat} {rn : List (Nat × Nat)} {fz : List (Nat × Bool × Nat × List (List PV))} {f : Nat} {ps qs : List PV} (h : wkLK kb rn fz qs ps) : WkV kb rn fz (.cl f ps) (.cl f qs) := by
  simp only [WkV]; exact ⟨ps, rfl, wkLK_sound _ _ _ _ _ h⟩
theorem wkV_ls {kb : List Nat} {rn : List (Nat × Nat)} {fz : List (Nat × Bool × Nat × List (List PV))} {sz : Nat} {rows : List (List PV)} (h : rows.all (kbOkL kb) = true) : WkV kb rn fz (.ls sz rows) (.ls sz rows) := by
  simp only [WkV]; exact ⟨trivial, h⟩

theorem call_eq {P : Program} {f : Nat} {ps qs : List PV} {r : PV} {os : List (Nat × List (List PV))} {K : PV → List (Nat × List (List PV)) → Prop} (h : Ctr P f qs r os) (e : ps = qs) (k : K r os) : ∃ r os, Ctr P f ps r os ∧ K r os := ⟨r, os, e ▸ h, k⟩

/-- The slices that a call answers, as values that nobody writes. -/
def fzL (n : Nat) : List (Nat × List (List PV)) → List (Nat × Bool × Nat × List (List PV))
  | [] => []
  | (sz, rows) :: os => (n, false, sz, rows) :: fzL (n + 1) os
theorem fzL_mem : ∀ {os : List (Nat × List (List PV))} {n : Nat} {q : Nat × Bool × Nat × List (List PV)}, q ∈ fzL n os → n ≤ q.1 ∧ os[q.1 - n]? = some q.2.2 ∧ q.2.1 = false
  | [], n, q, h => by simp [fzL] at h
  | (sz, rows) :: os, n, q, h => by
    simp only [fzL, List.mem_cons] at h
    rcases h with rfl | h
    · simp
    · obtain ⟨h1, h2, h3⟩ := fzL_mem h
      refine ⟨by omega, ?_, h3⟩
      rw [show q.1 - n = (q.1 - (n + 1)) + 1 by omega]; simpa using h2
theorem Ctr.frz {P : Program} {f : Nat} {args : List PV} {r r' : PV} {os : List (Nat × List (List PV))} (h : Ctr P f args r os) (hw : WkV [] [] (fzL 0 os) r r') : Ctr P f args r' [] := by
  refine ⟨?_⟩
  intro w st vs hst hvs
  have key : ∀ e w', (∃ v M', e = Ending.returned v ∧ RV M' w' r v ∧ HRel w (fun _ => False) (Base.of st) M' (fun _ => none) (osMap os) w') → ∃ v M', e = Ending.returned v ∧ RV M' w' r' v ∧ HRel w (fun _ => False) (Base.of st) M' (fun _ => none) (osMap []) w' := by
    rintro e w' ⟨v, M', he, hv, hr⟩
    have e1 : lkA (osL 0 os) = osMap os := by
      funext k
      rw [lkA_osL]
      simp only [Nat.zero_le, if_true, Nat.sub_zero, osMap]
      cases os[k]? <;> rfl
    have e2 : (lkA ([] : List (Nat × List PV))) = fun _ => none := by funext k; rfl
    rw [← e1, ← e2] at hr
    obtain ⟨M1, hle, hF, hnew⟩ := HRel.ren (c := ⟨[], [], osL 0 os⟩) (fz := fzL 0 os) (rn := []) (bx' := []) (ob' := []) hr (fun _ _ h => by cases h) (fun _ _ h => by cases h) ⟨(by
      intro q hq
      obtain ⟨h1, h2, h3⟩ := fzL_mem hq
      show lkA (osL 0 os) q.1 = _
      rw [lkA_osL, if_pos h1, h2]
      simp only [Option.map_some, Option.some.injEq]
      rw [← h3]), by simp [lkA], by simp [lkA], by simp [lkA]⟩ (by simp [lkA])
    have e3 : lkA ([] : List (Nat × Option (Bool × Nat × List (List PV)))) = osMap [] := by funext k; simp [lkA, osMap]
    rw [e3, e2] at hnew
    exact ⟨v, _, he, WkV.sound hF _ _ _ hw (RV.mono hle _ _ hv), hnew⟩
  rcases h.run w st vs hst hvs with ⟨h1, h2⟩ | ⟨v, w', h1, h2⟩
  · exact .inl ⟨h1, h2.mono fun e w' => key e w'⟩
  · exact .inr ⟨v, w', h1, key _ _ h2⟩

theorem Tri.wk {P : Program} {code : Code} {Q : Exit → CSt → Prop} {c c' : CSt} (hw : Wk c c') (h : Tri P code Q c') : Tri P code Q c := by
  refine ⟨?_⟩
  intro w0 X S0 M a w hr
  obtain ⟨M', hr'⟩ := hw w0 X S0 M a w hr
  exact h.run w0 X S0 M' a w hr'

theorem wk_nilSlot {c : CSt} (slot K sz : Nat) (hs : c.tm.getD slot .bad = .nl) (hK : lkA c.ob K = none) : Wk c ⟨c.tm.set slot (.ow K 0 0), c.bx, (K, some (false, sz, [])) :: c.ob⟩ := by
  intro w0 X S0 M a w hr
  obtain ⟨M', hnew, hle, hob⟩ := hr.toHRel.addObj (k := K) hK ⟨0, sz, 0, true⟩ (rows := []) (.inl ⟨rfl, rfl⟩) (fun _ _ _ h => by cases h) (fun _ _ _ _ _ _ h => by cases h)
  have e : upd (lkA c.ob) [(K, some (false, sz, []))] = lkA ((K, some (false, sz, [])) :: c.ob) := by
    funext j
    rw [upd_one]
    simp only [lkA]
    by_cases ej : j = K
    · subst ej; simp
    · rw [if_neg ej, beq_ne (fun x => ej x.symm)]; rfl
  refine ⟨M', ?_, hr.dfr, ?_, ?_⟩
  · have h2 : HRel w0 X S0 M' (lkA c.bx) (upd (lkA c.ob) [(K, some (false, sz, []))]) w := hnew
    rw [e] at h2
    exact h2
  · have := hr.len
    simpa [CSt.st] using this
  · intro t
    have ht := RV.mono hle _ _ (hr.tmp t)
    by_cases et : slot = t
    · subst et
      have hs' : c.st.tmps.getD slot .bad = .nl := hs
      rw [hs'] at ht
      simp only [RV] at ht
      obtain ⟨ad, hv⟩ := ht
      by_cases hlt : slot < c.tm.length
      · have e2 : (c.tm.set slot (.ow K 0 0)).getD slot .bad = .ow K 0 0 := by simp [List.getD, hlt]
        show RV M' w ((c.tm.set slot (.ow K 0 0)).getD slot .bad) _
        rw [e2]
        simp only [RV]
        exact ⟨_, hob, .inl ⟨rfl, rfl, ad, hv⟩⟩
      · rw [List.getD_eq_getElem?_getD, List.getElem?_eq_none (by omega)] at hs
        cases hs
    · show RV M' w ((c.tm.set slot (.ow K 0 0)).getD t .bad) _
      rw [List.getD_eq_getElem?_getD, List.getElem?_set_ne et, ← List.getD_eq_getElem?_getD]
      exact ht

/-- A nil slice in a slot becomes an own slice, under a new key. -/
theorem tri_nil {P : Program} {code : Code} {Q : Exit → CSt → Prop} {tm : List PV} {bx : List (Nat × List PV)} {ob : List (Nat × Option (Bool × Nat × List (List PV)))} (slot K sz : Nat) (hs : lkK .bad tm slot fun p => p = .nl) (hK : lkA ob K = none) (h : stK tm slot (.ow K 0 0) fun tm' => Tri P code Q ⟨tm', bx, (K, some (false, sz, [])) :: ob⟩) : Tri P code Q ⟨tm, bx, ob⟩ := by
  rw [lkK_eq] at hs
  rw [stK_eq] at h
  exact Tri.wk (wk_nilSlot slot K sz hs hK) h

end Go.Pv

/-
  From a body to the contract of a function that writes what is handed in. Generic over the program.
-/
namespace Go.Pv

structure ExitE (c : CSt) (p r : PV) (bx' : List (Nat × List PV)) (ob' : List (Nat × Option (Bool × Nat × List (List PV)))) : Prop where
  ok : Wk ⟨[p], c.bx, c.ob⟩ ⟨[r], bx', ob'⟩

theorem exitE_of {c : CSt} {p r : PV} {bx' : List (Nat × List PV)} {ob' : List (Nat × Option (Bool × Nat × List (List PV)))} (rn : List (Nat × Nat)) (fz : List (Nat × Bool × Nat × List (List PV))) (h : wkK rn fz ⟨[p], c.bx, c.ob⟩ [r] bx' ob') : ExitE c p r bx' ob' := ⟨wkK_sound h⟩

def exitEQ (P : Program) (rs : List ResultVar) (r : PV) (bx' : List (Nat × List PV)) (ob' : List (Nat × Option (Bool × Nat × List (List PV)))) (e : Exit) (c : CSt) : Prop :=
  match e with
  | .ret => resultK P c rs fun p => ExitE c p r bx' ob'
  | .normal => resultK P c rs fun p => ExitE c p r bx' ob'
  | _ => False

theorem exit_soundE {P : Program} {fn : Func} {w0 : World} {X : Nat → Prop} {S0 : Base} {M : Mem} {c : CSt} {a : Act} {w : World} {r : PV} {bx' : List (Nat × List PV)} {ob' : List (Nat × Option (Bool × Nat × List (List PV)))} (hr : Rel w0 X S0 M c.st a w) (h : resultK P c fn.results.toList fun p => ExitE c p r bx' ob') :
    ∃ v, (results fn a.tmps).run P w = .ok v w ∧ ∃ M', RV M' w r v ∧ HRel w0 X S0 M' (lkA bx') (lkA ob') w := by
  unfold resultK at h
  obtain ⟨F, hF, hF1, hF2⟩ : ∃ F : ResultVar → Sem Value, results fn a.tmps = (do let vs ← fn.results.mapM F; pure (if h : vs.size = 1 then vs[0] else .tuple vs)) ∧ (∀ t, F (.tmp t) = pure (a.tmps.getD t undef)) ∧ (∀ ad t, F (.cell ad t) = do loadVar t (← asAddr (a.tmps.getD ad undef))) := ⟨_, rfl, fun _ => rfl, fun _ _ => rfl⟩
  obtain ⟨ps, vs, h1, h2, h3⟩ := resultsK_sound hr F hF1 hF2 h
  have hlen := h1.length
  have hres : (results fn a.tmps).run P w = .ok (if h : vs.length = 1 then vs[0] else .tuple vs.toArray) w := by
    rw [hF, Array.mapM_eq_mapM_toList]
    simp only [Sem.run_bind, Sem.run_map, h2]
    simp
  have fin : ∀ p, ExitE c p r bx' ob' → ∀ v, RV M w p v → ∃ M', RV M' w r v ∧ HRel w0 X S0 M' (lkA bx') (lkA ob') w := by
    rintro p ⟨hk⟩ v hv
    obtain ⟨M', hr'⟩ := hk w0 X S0 M { tmps := #[v], defers := [] } w ⟨hr.toHRel, rfl, rfl, fun t => by
      cases t with
      | zero => exact hv
      | succ t => simp [CSt.st, RV]⟩
    exact ⟨M', hr'.tmp 0, hr'.toHRel⟩
  split at h3
  · rename_i p
    simp only [RVL] at h1
    obtain ⟨v, rr, rfl, h4, rfl⟩ := h1
    refine ⟨v, by rw [hres]; simp, fin p h3 v h4⟩
  · rename_i ps hne
    have hl1 : vs.length ≠ 1 := by
      rw [hlen]
      intro e
      obtain ⟨p, rfl⟩ := List.length_eq_one_iff.1 e
      exact hne p rfl
    refine ⟨.tuple vs.toArray, by rw [hres, dif_neg hl1], fin _ h3 _ ?_⟩
    simp only [RV]
    exact ⟨vs.toArray, rfl, by simpa using h1⟩

theorem spec_of_bodyE {P : Program} (hm : P.follows .mixedOrders = true) {f : Nat} {fn : Func} {code : Code} {args : List PV} {r : PV} {bx bx' : List (Nat × List PV)} {ob ob' : List (Nat × Option (Bool × Nat × List (List PV)))} (hf : P.funcs[f]? = some fn) (hb : fn.body = some code) (hname : (fn.name == "runtime.NumGoroutine") = false) (hok : codeOk code = true)
    (h : pwp P code ⟨args ++ List.replicate (fn.ntmps - args.length) .bad, bx, ob⟩ (exitEQ P fn.results.toList r bx' ob')) : CtrE P f args bx ob r bx' ob' := by
  refine ⟨?_⟩
  intro w X M vs h0 hvs
  left
  refine ⟨by simp [callFunc, hf, hb]; simpa using hname, ?_⟩
  refine calls_of_wp hf hb ?_
  have hlen := hvs.length
  have hrel : Rel w X (baseOf M) M (CSt.st ⟨args ++ List.replicate (fn.ntmps - args.length) .bad, bx, ob⟩) { tmps := vs.toArray ++ Array.replicate (fn.ntmps - vs.toArray.size) undef, defers := [] } w := by
    refine ⟨h0, rfl, ?_, ?_⟩
    · simp [CSt.st, hlen]
    · intro t
      simp only [CSt.st]
      rw [List.getD_eq_getElem?_getD, Array.getD_eq_getD_getElem?, List.getElem?_append, Array.getElem?_append]
      by_cases ht : t < args.length
      · rw [if_pos ht, if_pos (by simp; omega)]
        obtain ⟨c, hc, hv⟩ := hvs.get t (p := args[t]) (by simp [ht])
        simp [ht, hc]
        exact hv
      · rw [if_neg ht]
        rw [List.getElem?_replicate]
        split <;> simp [RV]
  refine wp_mono ((pwp_sound hm code _ _ hok h).run w X (baseOf M) M _ w hrel) ?_
  rintro e a' w' ⟨c', M', hr', hq⟩
  cases e with
  | ret =>
    obtain ⟨v, h1, M'', h2, h3⟩ := exit_soundE (fn := fn) hr' hq
    exact ⟨hr'.dfr, v, h1, v, M'', rfl, h2, h3⟩
  | normal =>
    obtain ⟨v, h1, M'', h2, h3⟩ := exit_soundE (fn := fn) hr' hq
    exact ⟨hr'.dfr, v, h1, v, M'', rfl, h2, h3⟩
  | exit i => exact hq.elim
  | goto i => exact hq.elim
  | panic ch => exact hq.elim
  | outgrown => exact hq.elim

/-- A call, by its contract. -/
theorem callE_by {P : Program} {f : Nat} {qs : List PV} {r : PV} {bx bx' : List (Nat × List PV)} {ob ob' : List (Nat × Option (Bool × Nat × List (List PV)))} {K : PV → List (Nat × List PV) → List (Nat × Option (Bool × Nat × List (List PV))) → Prop} (h : CtrE P f qs bx ob r bx' ob') (k : K r bx' ob') : ∃ r bx' ob', CtrE P f qs bx ob r bx' ob' ∧ K r bx' ob' := ⟨r, bx', ob', h, k⟩

end Go.Pv

/-
  A nil slice where a contract speaks of an empty one, however deep. Generic over the program.
-/
namespace Go.Pv

mutual
def SubV : PV → PV → Prop
  | .nl, q => q = .nl ∨ ∃ sz, q = .sl sz []
  | .ag ps, q => ∃ qs, q = .ag qs ∧ SubVL ps qs
  | .tu ps, q => ∃ qs, q = .tu qs ∧ SubVL ps qs
  | .cl f ps, q => ∃ qs, q = .cl f qs ∧ SubVL ps qs
  | .cm f ps, q => ∃ qs, q = .cm f qs ∧ SubVL ps qs
  | .sl sz rows, q => ∃ rows', q = .sl sz rows' ∧ SubVR rows rows'
  | .ep ps, q => ∃ qs, q = .ep qs ∧ SubVL ps qs
  | .sc v, q => q = .sc v
  | .pt k off, q => q = .pt k off
  | .bs k off len, q => q = .bs k off len
  | .ow k lo len, q => q = .ow k lo len
  | .eo k i off, q => q = .eo k i off
  | .ub φ, q => q = .ub φ
  | .nn kd, q => q = .nn kd
  | .ls sz rows, q => q = .ls sz rows
  | .lp s, q => q = .lp s
  | .bad, q => q = .bad
def SubVL : List PV → List PV → Prop
  | [], qs => qs = []
  | p :: ps, qs => ∃ q r, qs = q :: r ∧ SubV p q ∧ SubVL ps r
def SubVR : List (List PV) → List (List PV) → Prop
  | [], qs => qs = []
  | p :: ps, qs => ∃ q r, qs = q :: r ∧ SubVL p q ∧ SubVR ps r
end

theorem SubVL.len : ∀ {ps qs : List PV}, SubVL ps qs → qs.length = ps.length
  | [], qs, h => by simp only [SubVL] at h; simp [h]
  | p :: ps, qs, h => by
    simp only [SubVL] at h
    obtain ⟨q, r, rfl, _, h2⟩ := h
    simp [SubVL.len h2]
theorem SubVR.len : ∀ {ps qs : List (List PV)}, SubVR ps qs → qs.length = ps.length
  | [], qs, h => by simp only [SubVR] at h; simp [h]
  | p :: ps, qs, h => by
    simp only [SubVR] at h
    obtain ⟨q, r, rfl, _, h2⟩ := h
    simp [SubVR.len h2]

mutual
theorem SubV.sound {M : Mem} {w : World} : ∀ (p q : PV) (v : Value), SubV p q → RV M w p v → RV M w q v
  | .nl, q, v, h, hv => by
    simp only [SubV] at h
    rcases h with rfl | ⟨sz, rfl⟩
    · exact hv
    · exact sub_nl hv
  | .ag ps, q, v, h, hv => by
    simp only [SubV] at h
    obtain ⟨qs, rfl, h⟩ := h
    simp only [RV] at hv ⊢
    obtain ⟨cs, e, r⟩ := hv
    exact ⟨cs, e, SubVL.sound ps qs _ h r⟩
  | .tu ps, q, v, h, hv => by
    simp only [SubV] at h
    obtain ⟨qs, rfl, h⟩ := h
    simp only [RV] at hv ⊢
    obtain ⟨cs, e, r⟩ := hv
    exact ⟨cs, e, SubVL.sound ps qs _ h r⟩
  | .cl f ps, q, v, h, hv => by
    simp only [SubV] at h
    obtain ⟨qs, rfl, h⟩ := h
    simp only [RV] at hv ⊢
    obtain ⟨cs, e, r⟩ := hv
    exact ⟨cs, e, SubVL.sound ps qs _ h r⟩
  | .cm f ps, q, v, h, hv => by
    simp only [SubV] at h
    obtain ⟨qs, rfl, h⟩ := h
    simp only [RV] at hv ⊢
    obtain ⟨cs, e, r⟩ := hv
    exact ⟨cs, e, SubVL.sound ps qs _ h r⟩
  | .sl sz rows, q, v, h, hv => by
    simp only [SubV] at h
    obtain ⟨rows', rfl, h⟩ := h
    simp only [RV] at hv ⊢
    obtain ⟨a, n, c, e, hn, hc, r⟩ := hv
    refine ⟨a, n, c, e, by rw [h.len]; exact hn, hc, ?_⟩
    rcases r with rfl | ⟨b, off, cs, ha, hs, hcl, hR⟩
    · left; simpa [SubVR] using h
    · exact .inr ⟨b, off, cs, ha, hs, hcl, SubVR.sound sz rows rows' cs h hR⟩
  | .ep ps, q, v, h, hv => by
    simp only [SubV] at h
    obtain ⟨qs, rfl, h⟩ := h
    simp only [RV] at hv ⊢
    obtain ⟨b, off, cs, e, hs, hcl, hr⟩ := hv
    exact ⟨b, off, cs, e, hs, hcl, SubVL.sound ps qs cs h hr⟩
  | .sc x, q, v, h, hv => by simp only [SubV] at h; subst h; exact hv
  | .pt .., q, v, h, hv => by simp only [SubV] at h; subst h; exact hv
  | .bs .., q, v, h, hv => by simp only [SubV] at h; subst h; exact hv
  | .ow .., q, v, h, hv => by simp only [SubV] at h; subst h; exact hv
  | .eo .., q, v, h, hv => by simp only [SubV] at h; subst h; exact hv
  | .ub .., q, v, h, hv => by simp only [SubV] at h; subst h; exact hv
  | .nn .., q, v, h, hv => by simp only [SubV] at h; subst h; exact hv
  | .ls .., q, v, h, hv => by simp only [SubV] at h; subst h; exact hv
  | .lp .., q, v, h, hv => by simp only [SubV] at h; subst h; exact hv
  | .bad, q, v, h, hv => by simp only [SubV] at h; subst h; exact hv
theorem SubVL.sound {M : Mem} {w : World} : ∀ (ps qs : List PV) (cs : List Value), SubVL ps qs → RVL M w ps cs → RVL M w qs cs
  | [], qs, cs, h, hv => by simp only [SubVL] at h; subst h; exact hv
  | p :: ps, qs, cs, h, hv => by
    simp only [SubVL] at h
    obtain ⟨q, r, rfl, h1, h2⟩ := h
    simp only [RVL] at hv ⊢
    obtain ⟨c, rr, e, h3, h4⟩ := hv
    exact ⟨c, rr, e, SubV.sound p q c h1 h3, SubVL.sound ps r rr h2 h4⟩
theorem SubVR.sound {M : Mem} {w : World} (sz : Nat) : ∀ (ps qs : List (List PV)) (cs : List Value), SubVR ps qs → RVR M w sz ps cs → RVR M w sz qs cs
  | [], qs, cs, h, hv => by simp only [SubVR] at h; subst h; exact hv
  | p :: ps, qs, cs, h, hv => by
    simp only [SubVR] at h
    obtain ⟨q, r, rfl, h1, h2⟩ := h
    simp only [RVR] at hv ⊢
    obtain ⟨c1, c2, e, hl, h3, h4⟩ := hv
    exact ⟨c1, c2, e, h1.len.trans hl, SubVL.sound p q c1 h1 h3, SubVR.sound sz ps r c2 h2 h4⟩
end

theorem Ctr.deep {P : Program} {f : Nat} {ps qs : List PV} {r : PV} {os : List (Nat × List (List PV))} (h : Ctr P f qs r os) (hs : SubVL ps qs) : Ctr P f ps r os :=
  ⟨fun w st vs hst hv => h.run w st vs hst (SubVL.sound ps qs vs hs hv)⟩
theorem call_deep {P : Program} {f : Nat} {ps qs : List PV} {r : PV} {os : List (Nat × List (List PV))} {K : PV → List (Nat × List (List PV)) → Prop} (h : Ctr P f qs r os) (hs : SubVL ps qs) (k : K r os) : ∃ r os, Ctr P f ps r os ∧ K r os := ⟨r, os, h.deep hs, k⟩
mutual
theorem SubV.refl : ∀ p : PV, SubV p p
  | .nl => by simp [SubV]
  | .ag ps => by simp only [SubV]; exact ⟨ps, rfl, SubVL.refl ps⟩
  | .tu ps => by simp only [SubV]; exact ⟨ps, rfl, SubVL.refl ps⟩
  | .cl f ps => by simp only [SubV]; exact ⟨ps, rfl, SubVL.refl ps⟩
  | .cm f ps => by simp only [SubV]; exact ⟨ps, rfl, SubVL.refl ps⟩
  | .sl sz rows => by simp only [SubV]; exact ⟨rows, rfl, SubVR.refl rows⟩
  | .ep ps => by simp only [SubV]; exact ⟨ps, rfl, SubVL.refl ps⟩
  | .sc x => by simp [SubV]
  | .pt .. => by simp [SubV]
  | .bs .. => by simp [SubV]
  | .ow .. => by simp [SubV]
  | .eo .. => by simp [SubV]
  | .ub .. => by simp [SubV]
  | .nn .. => by simp [SubV]
  | .ls .. => by simp [SubV]
  | .lp .. => by simp [SubV]
  | .bad => by simp [SubV]
theorem SubVL.refl : ∀ ps : List PV, SubVL ps ps
  | [] => by simp [SubVL]
  | p :: ps => by simp only [SubVL]; exact ⟨p, ps, rfl, SubV.refl p, SubVL.refl ps⟩
theorem SubVR.refl : ∀ ps : List (List PV), SubVR ps ps
  | [] => by simp [SubVR]
  | p :: ps => by simp only [SubVR]; exact ⟨p, ps, rfl, SubVL.refl p, SubVR.refl ps⟩
end
theorem subV_nl {sz : Nat} : SubV .nl (.sl sz []) := by simp only [SubV]; exact .inr ⟨sz, rfl⟩
theorem subV_sl {sz : Nat} {rows rows' : List (List PV)} (h : SubVR rows rows') : SubV (.sl sz rows) (.sl sz rows') := by simp only [SubV]; exact ⟨rows', rfl, h⟩
theorem subV_eq {sz : Nat} {r r' : List (List PV)} (h : r = r') : SubV (.sl sz r) (.sl sz r') := by subst h; exact SubV.refl _
theorem subV_tk {sz n : Nat} {r : List (List PV)} (h : r.length = n) : SubV (.sl sz ((r.drop 0).take n)) (.sl sz r) := by subst h; rw [List.drop_zero, List.take_length]; exact SubV.refl _
theorem subV_ag {ps qs : List PV} (h : SubVL ps qs) : SubV (.ag ps) (.ag qs) := by simp only [SubV]; exact ⟨qs, rfl, h⟩
theorem subV_ep {ps qs : List PV} (h : SubVL ps qs) : SubV (.ep ps) (.ep qs) := by simp only [SubV]; exact ⟨qs, rfl, h⟩
theorem subVL_cons {p q : PV} {ps qs : List PV} (h1 : SubV p q) (h2 : SubVL ps qs) : SubVL (p :: ps) (q :: qs) := by simp only [SubVL]; exact ⟨q, qs, rfl, h1, h2⟩
theorem subVL_nil : SubVL [] [] := by simp [SubVL]
theorem subVR_cons {p q : List PV} {ps qs : List (List PV)} (h1 : SubVL p q) (h2 : SubVR ps qs) : SubVR (p :: ps) (q :: qs) := by simp only [SubVR]; exact ⟨q, qs, rfl, h1, h2⟩
theorem subVR_nil : SubVR [] [] := by simp [SubVR]
end Go.Pv
