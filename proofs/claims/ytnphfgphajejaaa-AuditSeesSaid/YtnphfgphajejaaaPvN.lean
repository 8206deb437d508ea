/-
  What serves at the ends: answers, arguments that came in, the law's own form. Generic over the program.
-/
import Derived.Test.YtnphfgphajejaaaPvM
import GoSem.ClaimChange
import Derived.DataReads
import Derived.ChangeBears
import Derived.Carry
import Derived.ChangeArms
import Derived.OpenShut
namespace Go.Pv

/-! ### Tests -/

theorem split_dec {p : Prop} [Decidable p] {X Y : Prop} (h1 : p → Y) (h2 : ¬ p → X) : @Bool.rec (fun _ => Prop) X Y (decide p) :=
  split_intro (fun h => h1 (of_decide_eq_true h)) (fun h => h2 (of_decide_eq_false h))
theorem split_beq {a b : Int} {X Y : Prop} (h1 : a = b → Y) (h2 : ¬ a = b → X) : @Bool.rec (fun _ => Prop) X Y (a == b) :=
  split_intro (fun h => h1 (by simpa using h)) (fun h => h2 (by simpa using h))
theorem split_bne {a b : Int} {X Y : Prop} (h1 : ¬ a = b → Y) (h2 : a = b → X) : @Bool.rec (fun _ => Prop) X Y (a != b) :=
  split_intro (fun h => h1 (by simpa using h)) (fun h => h2 (by simpa using h))
theorem split_not {b : Bool} {X Y : Prop} (h1 : b = false → Y) (h2 : b = true → X) : @Bool.rec (fun _ => Prop) X Y (!b) :=
  split_intro (fun h => h1 (by simpa using h)) (fun h => h2 (by simpa using h))
theorem split_beqS {a b : List UInt8} {X Y : Prop} (h1 : a = b → Y) (h2 : ¬ a = b → X) : @Bool.rec (fun _ => Prop) X Y (a == b) :=
  split_intro (fun h => h1 (by simpa using h)) (fun h => h2 (by simpa using h))

theorem split_t {b : Bool} {X Y : Prop} (h : b = true) (hy : Y) : @Bool.rec (fun _ => Prop) X Y b := by subst h; exact hy
theorem split_f {b : Bool} {X Y : Prop} (h : b = false) (hx : X) : @Bool.rec (fun _ => Prop) X Y b := by subst h; exact hx
theorem split_nt {b : Bool} {X Y : Prop} (h : b = false) (hy : Y) : @Bool.rec (fun _ => Prop) X Y (!b) := by subst h; exact hy
theorem split_nf {b : Bool} {X Y : Prop} (h : b = true) (hx : X) : @Bool.rec (fun _ => Prop) X Y (!b) := by subst h; exact hx
theorem split_dt {p : Prop} [Decidable p] {X Y : Prop} (h : p) (hy : Y) : @Bool.rec (fun _ => Prop) X Y (decide p) := split_t (decide_eq_true h) hy
theorem split_df {p : Prop} [Decidable p] {X Y : Prop} (h : ¬ p) (hx : X) : @Bool.rec (fun _ => Prop) X Y (decide p) := split_f (decide_eq_false h) hx
theorem split_et {a b : Int} {X Y : Prop} (h : a = b) (hy : Y) : @Bool.rec (fun _ => Prop) X Y (a == b) := split_t (by simpa using h) hy
theorem split_ef {a b : Int} {X Y : Prop} (h : ¬ a = b) (hx : X) : @Bool.rec (fun _ => Prop) X Y (a == b) := split_f (by simpa using h) hx
theorem split_bt {a b : Int} {X Y : Prop} (h : ¬ a = b) (hy : Y) : @Bool.rec (fun _ => Prop) X Y (a != b) := split_t (by simpa using h) hy
theorem split_bf {a b : Int} {X Y : Prop} (h : a = b) (hx : X) : @Bool.rec (fun _ => Prop) X Y (a != b) := split_f (by simpa using h) hx

/-- A call, by its contract. -/
theorem call_by {P : Program} {f : Nat} {qs : List PV} {r : PV} {os : List (Nat × List (List PV))} {K : PV → List (Nat × List (List PV)) → Prop} (h : Ctr P f qs r os) (k : K r os) : ∃ r os, Ctr P f qs r os ∧ K r os := ⟨r, os, h, k⟩

/-! ### Answers -/

theorem rnOk_nil (c : CSt) : RnOk c [] [] [] := ⟨by simp, by simp [lkA], by simp [lkA], by simp [lkA]⟩

mutual
theorem wkV_plain : ∀ p : PV, plain p = true → WkV [] [] [] p p
  | .sc v, _ => by simp [WkV]
  | .ag ps, h => by simp only [WkV]; exact ⟨ps, rfl, wkL_plain ps (by simpa [plain] using h)⟩
  | .tu ps, h => by simp only [WkV]; exact ⟨ps, rfl, wkL_plain ps (by simpa [plain] using h)⟩
  | .cl f ps, h => by simp only [WkV]; exact ⟨ps, rfl, wkL_plain ps (by simpa [plain] using h)⟩
  | .sl sz rows, _ => by simp [WkV]
  | .nl, _ => by simp [WkV]
  | .ow .., h => by simp [plain] at h
  | .pt .., h => by simp [plain] at h
  | .eo .., h => by simp [plain] at h
  | .ep s, _ => by simp [WkV]
  | .ub φ, _ => by simp [WkV]
  | .ls .., h => by simp [plain] at h
  | .lp .., h => by simp [plain] at h
  | .bad, _ => by simp [WkV]
theorem wkL_plain : ∀ ps : List PV, plainL ps = true → WkL [] [] [] ps ps
  | [], _ => by simp [WkL]
  | p :: ps, h => by
    simp only [plainL, Bool.and_eq_true] at h
    simp only [WkL]
    exact ⟨p, ps, rfl, wkV_plain p h.1, wkL_plain ps h.2⟩
end

/-- An answer without keys. -/
theorem exit_plain {c : CSt} {p r : PV} (hp : plain p = true) (e : p = r) : ExitOk c p r [] := by
  subst e
  exact ⟨.inl ⟨[], [], by simpa [osL] using rnOk_nil c, wkV_plain p hp⟩⟩

/-- A nil slice as an own one. -/
theorem exit_nil {c : CSt} (sz : Nat) : ExitOk c .nl (.ow 0 0 0) [(sz, [])] := ⟨.inr ⟨rfl, sz, rfl, rfl⟩⟩

/-! ### Arguments that came in -/

/-- The cells' own forms, by the type. -/
def Typed (P : Program) : Nat → TypeId → List PV → Prop
  | 0, _, _ => False
  | fuel + 1, t, ls =>
    match P.underlying t with
    | some .bool => ∃ b, ls = [.sc (.bool b)]
    | some (.int k) => ∃ n, ls = [.sc (.int k n)] ∧ (Lit.int k n).wf = true
    | some (.float k) => ∃ b, ls = [.sc (.float k b)] ∧ (Lit.float k b).wf = true
    | some .string => ∃ s : ByteArray, ls = [.sc (.string s)] ∧ s.size ≤ maxLen
    | some (.slice e) => P.cellsOf e = 0 ∨ ∃ rows, ls = [.sl (P.cellsOf e) rows] ∧ rows.length ≤ maxLen ∧ ∀ r ∈ rows, Typed P fuel e r
    | some (.struct fs) => ∃ parts : List (List PV), ls = parts.flatten ∧ parts.length = fs.size ∧ ∀ (i : Nat) (f : Field) (p : List PV), fs[i]? = some f → parts[i]? = some p → Typed P fuel f.type p
    | some (.array n e) => ∃ parts : List (List PV), ls = parts.flatten ∧ parts.length = n ∧ ∀ p ∈ parts, Typed P fuel e p
    | _ => True

theorem RVL.flat {M : Mem} {w : World} : ∀ {parts : List (List PV)} {css : List (List Value)}, parts.length = css.length → (∀ (i : Nat) (p : List PV) (c : List Value), parts[i]? = some p → css[i]? = some c → RVL M w p c) → RVL M w parts.flatten css.flatten
  | [], [], _, _ => by simp [RVL]
  | p :: ps, c :: cs, hl, h => by
    simp only [List.flatten_cons]
    exact (h 0 p c rfl rfl).append (RVL.flat (by simpa using hl) fun i p' c' hp hc => h (i + 1) p' c' (by simpa using hp) (by simpa using hc))
  | [], _ :: _, hl, _ => by simp at hl
  | _ :: _, [], hl, _ => by simp at hl

/-- Pieces of given lengths, one behind the other, are the whole. -/
theorem flat_pieces (cs : List Value) : ∀ (ns : List Nat) (at_ : Nat), at_ + ns.sum = cs.length → ((List.range ns.length).map (fun j => (cs.drop (at_ + (ns.take j).sum)).take (ns.getD j 0))).flatten = cs.drop at_
  | [], at_, h => by
    simp at h
    simp [h]
  | n :: ns, at_, h => by
    simp only [List.sum_cons] at h
    rw [List.length_cons, List.range_succ_eq_map, List.map_cons, List.flatten_cons, List.map_map]
    simp only [List.take_zero, List.sum_nil, Nat.add_zero, List.getD_cons_zero]
    have ih := flat_pieces cs ns (at_ + n) (by omega)
    have e : (List.map ((fun j => List.take ((n :: ns).getD j 0) (List.drop (at_ + (List.take j (n :: ns)).sum) cs)) ∘ Nat.succ) (List.range ns.length)) = (List.range ns.length).map (fun j => (cs.drop (at_ + n + (ns.take j).sum)).take (ns.getD j 0)) := by
      apply List.map_congr_left
      intro j _
      simp [List.take_succ_cons, Nat.add_assoc]
    rw [e, ih]
    rw [← List.drop_drop]
    exact List.take_append_drop n (List.drop at_ cs)

theorem choose_list {β : Type} [Inhabited β] {n : Nat} {R : Nat → β → Prop} (h : ∀ i, i < n → ∃ y, R i y) : ∃ ys : List β, ys.length = n ∧ ∀ (i : Nat) (y : β), ys[i]? = some y → i < n ∧ R i y := by
  induction n with
  | zero => exact ⟨[], rfl, by simp⟩
  | succ n ih =>
    obtain ⟨ys, hl, hy⟩ := ih fun i hi => h i (by omega)
    obtain ⟨y, hr⟩ := h n (by omega)
    refine ⟨ys ++ [y], by simp [hl], ?_⟩
    intro i z hz
    rw [List.getElem?_append] at hz
    by_cases hi : i < ys.length
    · rw [if_pos hi] at hz
      obtain ⟨h1, h2⟩ := hy i z hz
      exact ⟨by omega, h2⟩
    · rw [if_neg hi] at hz
      have : i - ys.length = 0 := by
        cases hk : i - ys.length with
        | zero => rfl
        | succ m => rw [hk] at hz; simp at hz
      rw [this] at hz
      simp at hz
      subst hz
      have : i = n := by omega
      subst this
      exact ⟨by omega, hr⟩

theorem rows_of {M : Mem} {w : World} {b off sz : Nat} {P : List PV → Prop} : ∀ (n s : Nat), (∀ i, i < n → ∃ ls cs, cs.length = sz ∧ Cells w b (off + (s + i) * sz) cs ∧ RVL M w ls cs ∧ P ls) →
    ∃ rows cs, rows.length = n ∧ cs.length = n * sz ∧ Cells w b (off + s * sz) cs ∧ RVR M w sz rows cs ∧ ∀ r ∈ rows, P r
  | 0, s, _ => ⟨[], [], rfl, by simp, by intro j u h; simp at h, by simp [RVR], by simp⟩
  | n + 1, s, h => by
    obtain ⟨ls, c1, e1, e2, e3, e4⟩ := h 0 (by omega)
    obtain ⟨rows, c2, f1, f2, f3, f4, f5⟩ := rows_of n (s + 1) (fun i hi => by have := h (i + 1) (by omega); rwa [show s + (i + 1) = s + 1 + i by omega] at this)
    refine ⟨ls :: rows, c1 ++ c2, by simp [f1], by simp [e1, f2, Nat.add_mul]; omega, ?_, ?_, ?_⟩
    · intro j u hj
      rw [List.getElem?_append] at hj
      by_cases hlt : j < c1.length
      · rw [if_pos hlt] at hj
        have := e2 j u hj
        simpa using this
      · rw [if_neg hlt] at hj
        have := f3 _ u hj
        rw [show off + (s + 1) * sz + (j - c1.length) = off + s * sz + j by rw [Nat.add_mul]; omega] at this
        exact this
    · simp only [RVR]
      exact ⟨c1, c2, rfl, by rw [← e3.length, e1], e3, f4⟩
    · intro r hr
      rcases List.mem_cons.1 hr with rfl | hr
      · exact e4
      · exact f5 r hr

theorem typed_of {H : Type} {enc : TypeId × Value → H} {P : Program} {w : World} {spare : Nat → Bool} {held : Bool} (hl : laidOutB P = true) : ∀ (fuel : Nat) (t : TypeId) (cs : List Value) (x : DataW H × List MemPlace), t < P.types.size → DataW.trod enc P w 0 spare held fuel t cs = some x →
    ∃ ls, RVL (closedM (· < w.heap.size)) w ls cs ∧ Typed P fuel t ls := by
  intro fuel
  induction fuel with
  | zero => intro t cs x _ h; simp [DataW.trod] at h
  | succ fuel ih =>
    intro t cs x ht h
    have one : ∀ c : Value, RVL (closedM (· < w.heap.size)) w [.sc c] [c] := fun c => by simp [RVL, RV]
    have all : ∀ l : List Value, RVL (closedM (· < w.heap.size)) w (l.map .sc) l := by
      intro l
      induction l with
      | nil => simp [RVL]
      | cons c l ih => simp only [List.map_cons, RVL]; exact ⟨c, l, rfl, by simp [RV], ih⟩
    cases hu : P.underlying t with
    | none => exact ⟨_, all cs, by simp only [Typed, hu]⟩
    | some d =>
      cases d
      case bool =>
        obtain ⟨b, rfl, _⟩ := DataW.trod_bool hu h
        exact ⟨_, one _, by simp only [Typed, hu]; exact ⟨_, rfl⟩⟩
      case int k =>
        obtain ⟨n, rfl, _, hw⟩ := DataW.trod_int hu h
        exact ⟨_, one _, by simp only [Typed, hu]; exact ⟨_, rfl, hw⟩⟩
      case float k =>
        have : ∃ b, cs = [.float k b] ∧ (Lit.float k b).wf = true := by
          unfold DataW.trod at h
          rw [hu] at h
          split at h <;> simp_all
        obtain ⟨b, rfl, hw⟩ := this
        exact ⟨_, one _, by simp only [Typed, hu]; exact ⟨_, rfl, hw⟩⟩
      case string =>
        obtain ⟨b, rfl, _, hw⟩ := DataW.trod_string hu h
        exact ⟨_, one _, by simp only [Typed, hu]; exact ⟨_, rfl, hw⟩⟩
      case slice e =>
        by_cases hz : P.cellsOf e = 0
        · exact ⟨_, all cs, by simp only [Typed, hu]; exact .inl hz⟩
        rcases DataW.trod_slice hu h with ⟨rfl, _⟩ | ⟨a, len, cap, elems, rest, n, hfn, rfl, _, _, hlc, hcm, hel, hget, _⟩
        · refine ⟨[.sl (P.cellsOf e) []], ?_, ?_⟩
          · simp only [RVL, RV]
            exact ⟨_, [], rfl, ⟨none, 0, 0, rfl, rfl, Nat.le_refl _, by simp⟩, rfl⟩
          · simp only [Typed, hu]
            exact .inr ⟨[], rfl, by simp, by simp⟩
        · obtain rfl : fuel = n := by omega
          have hlt := kid_slice hl ht hu
          have each : ∀ i, i < len → ∃ c ls, w.cells? 0 (a.add (i * P.cellsOf e)) (P.cellsOf e) = some c ∧ RVL (closedM (· < w.heap.size)) w ls c ∧ Typed P fuel e ls := by
            intro i hi
            have hg := hget i hi
            have : ∃ y, elems[i]? = some y := ⟨elems[i]'(by omega), by simp⟩
            obtain ⟨y, hy⟩ := this
            cases hx : w.cells? 0 (a.add (i * P.cellsOf e)) (P.cellsOf e) with
            | none => rw [hx, hy] at hg; cases hg
            | some c =>
              rw [hx, hy] at hg
              simp only [Option.bind_some] at hg
              obtain ⟨ls, h1, h2⟩ := ih e c y hlt hg
              exact ⟨c, ls, rfl, h1, h2⟩
          by_cases h0 : len = 0
          · subst h0
            refine ⟨[.sl (P.cellsOf e) []], ?_, ?_⟩
            · simp only [RVL, RV]
              exact ⟨_, [], rfl, ⟨_, 0, cap, rfl, rfl, Nat.zero_le _, by simp⟩, rfl⟩
            · simp only [Typed, hu]
              exact .inr ⟨[], rfl, by simp, by simp⟩
          · obtain ⟨c0, ls0, hc0, _, _⟩ := each 0 (by omega)
            have hcell0 : ∃ u, w.cell? a = some u := by
              obtain ⟨_, hlen0, hget0⟩ := World.cells?_some hc0
              have := hget0 0 (by omega)
              simp only [Nat.zero_mul, Addr.add_zero'] at this
              have hlt0 : 0 < c0.length := by omega
              rw [List.getElem?_eq_getElem hlt0] at this
              exact ⟨_, this⟩
            obtain ⟨u, hu0⟩ := hcell0
            have hblk := World.block_lt_of_cell? w a hu0
            obtain ⟨b, off, spot⟩ := a
            have hspot : spot = none := by
              cases spot with
              | none => rfl
              | some q =>
                simp only [World.cell?] at hu0
                split at hu0 <;> simp at hu0
            subst hspot
            obtain ⟨rows, cs, r1, r2, r3, r4, r5⟩ := rows_of (M := (closedM (· < w.heap.size)).cl) (w := w) (b := b) (off := off) (sz := P.cellsOf e) (P := Typed P fuel e) len 0 (by
              intro i hi
              obtain ⟨c, ls, e1, e2, e3⟩ := each i hi
              obtain ⟨_, hlen, hget1⟩ := World.cells?_some e1
              refine ⟨ls, c, hlen, ?_, e2, e3⟩
              intro j v hj
              have hjl : j < c.length := (List.getElem?_eq_some_iff.1 hj).1
              have := hget1 j (by omega)
              rw [hj, Addr.add_lit, Addr.add_lit] at this
              simpa using this)
            refine ⟨[.sl (P.cellsOf e) rows], ?_, ?_⟩
            · simp only [RVL, RV]
              refine ⟨_, [], rfl, ⟨_, len, cap, rfl, r1.symm, hlc, .inr ⟨b, off, cs, rfl, hblk, by simpa using r3, r4⟩⟩, rfl⟩
            · simp only [Typed, hu]
              exact .inr ⟨rows, rfl, by rw [r1]; omega, r5⟩
      case struct fs =>
        obtain ⟨xs, n, hfn, _, hlen, hxl, hget⟩ := DataW.trod_struct hu h
        obtain rfl : fuel = n := by omega
        obtain ⟨k1, k2, k3⟩ := kid_struct hl ht hu
        have each : ∀ i, i < fs.size → ∃ ls, ∀ f, fs.toList[i]? = some f → RVL (closedM (· < w.heap.size)) w ls ((cs.drop f.offset).take (P.cellsOf f.type)) ∧ Typed P fuel f.type ls := by
          intro i hi
          have hf : fs.toList[i]? = some fs[i] := by simp [hi]
          have hg := hget i fs[i] (by simp [hi])
          have : ∃ y, xs[i]? = some y := ⟨xs[i]'(by omega), by simp⟩
          obtain ⟨y, hy⟩ := this
          rw [hy] at hg
          obtain ⟨ls, h1, h2⟩ := ih _ _ y (k1 _ (List.mem_of_getElem? hf)) hg
          refine ⟨ls, fun f hf' => ?_⟩
          rw [hf] at hf'; cases hf'
          exact ⟨h1, h2⟩
        obtain ⟨parts, p1, p2⟩ := choose_list each
        have hns : (fs.toList.map fun f => P.cellsOf f.type).length = fs.size := by simp
        have hfl := flat_pieces cs (fs.toList.map fun f => P.cellsOf f.type) 0 (by rw [Nat.zero_add, ← k2, hlen])
        rw [hns] at hfl
        simp only [Nat.zero_add, List.drop_zero] at hfl
        refine ⟨parts.flatten, ?_, ?_⟩
        · rw [← hfl]
          refine RVL.flat (by simp [p1]) ?_
          intro i p c hp hc
          obtain ⟨hi, hR⟩ := p2 i p hp
          have hf : fs.toList[i]? = some fs[i] := by simp [hi]
          obtain ⟨h1, _⟩ := hR _ hf
          have hoff := k3 i _ hf
          rw [List.getElem?_map, List.getElem?_range hi] at hc
          simp only [Option.map_some, Option.some.injEq] at hc
          rw [← hc]
          have e1 : ((fs.toList.map fun f => P.cellsOf f.type).take i).sum = fs[i].offset := by rw [hoff, List.map_take]
          have e2 : (fs.toList.map fun f => P.cellsOf f.type).getD i 0 = P.cellsOf fs[i].type := by
            rw [List.getD_eq_getElem?_getD, List.getElem?_map, hf]; rfl
          rw [e1, e2]
          exact h1
        · simp only [Typed, hu]
          refine ⟨parts, rfl, p1, ?_⟩
          intro i f p hf hp
          obtain ⟨_, hR⟩ := p2 i p hp
          exact (hR f (by simpa using hf)).2
      case array n e =>
        obtain ⟨xs, m, hfn, _, hlen, hxl, hget⟩ := DataW.trod_array hu h
        obtain rfl : fuel = m := by omega
        obtain ⟨k1, k2⟩ := kid_array hl ht hu
        have each : ∀ i, i < n → ∃ ls, RVL (closedM (· < w.heap.size)) w ls ((cs.drop (i * P.cellsOf e)).take (P.cellsOf e)) ∧ Typed P fuel e ls := by
          intro i hi
          have hg := hget i hi
          have : ∃ y, xs[i]? = some y := ⟨xs[i]'(by omega), by simp⟩
          obtain ⟨y, hy⟩ := this
          rw [hy] at hg
          exact ih _ _ y k1 hg
        obtain ⟨parts, p1, p2⟩ := choose_list each
        have hsum : ∀ m, (List.replicate m (P.cellsOf e)).sum = m * P.cellsOf e := by
          intro m; simp
        have hfl := flat_pieces cs (List.replicate n (P.cellsOf e)) 0 (by rw [Nat.zero_add, hsum, hlen, k2])
        simp only [List.length_replicate, Nat.zero_add, List.drop_zero] at hfl
        refine ⟨parts.flatten, ?_, ?_⟩
        · rw [← hfl]
          refine RVL.flat (by simp [p1]) ?_
          intro i p c hp hc
          obtain ⟨hi, hR, _⟩ := p2 i p hp
          rw [List.getElem?_map, List.getElem?_range hi] at hc
          simp only [Option.map_some, Option.some.injEq] at hc
          rw [← hc]
          have e1 : ((List.replicate n (P.cellsOf e)).take i).sum = i * P.cellsOf e := by
            rw [List.take_replicate, hsum, Nat.min_eq_left (by omega)]
          have e2 : (List.replicate n (P.cellsOf e)).getD i 0 = P.cellsOf e := by
            rw [List.getD_eq_getElem?_getD, List.getElem?_replicate, if_pos hi]; rfl
          rw [e1, e2]
          exact hR
        · simp only [Typed, hu]
          refine ⟨parts, rfl, p1, ?_⟩
          intro p hp
          obtain ⟨i, hi⟩ := List.getElem?_of_mem hp
          exact (p2 i p hi).2.2
      all_goals exact ⟨_, all cs, by simp only [Typed, hu]⟩

/-! ### A law's call -/

theorem ctr_calls {P : Program} {f : Nat} {fn : Func} {args : List PV} {r : Value} {w : World} {vs : List Value} (hf : P.funcs[f]? = some fn) (hb : fn.body.isSome = true) (hname : (fn.name == "runtime.NumGoroutine") = false) (h : Ctr P f args (.sc r) []) (hv : RVL (closedM (· < w.heap.size)) w args vs) :
    Calls P f vs.toArray w fun e w' => e = .returned r ∧ RowKit.Below w.heap.size w w' := by
  have hcall : (callFunc f vs.toArray).run P w = .ok (.enter f vs.toArray) w := by
    obtain ⟨code, hc⟩ := Option.isSome_iff_exists.1 hb
    simp [callFunc, hf, hc]; simpa using hname
  rcases h.run w _ vs (fun _ h => h) hv with ⟨_, h2⟩ | ⟨v, w', h1, _⟩
  · refine h2.mono ?_
    rintro e w' ⟨v, M', rfl, hrv, hrel⟩
    simp only [RV] at hrv
    subst hrv
    exact ⟨rfl, hrel.os, hrel.tape, hrel.out, hrel.size, fun k hk => hrel.kept k hk (fun x => x)⟩
  · rw [hcall] at h1; cases h1

end Go.Pv
