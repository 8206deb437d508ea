/-
  Arguments that came in, with the form's own reach: each slice and text of theirs is of 2^47 - 4096 bytes at most. Generic over the program.
-/
import Derived.Test.YtjgcblmkejnijaaPvO
import Derived.SizedLaws
set_option linter.unusedSimpArgs false
set_option linter.unusedVariables false
namespace Go.Pv

/-- As 'Typed', with the reach. -/
def TypedS (P : Program) : Nat → TypeId → List PV → Prop
  | 0, _, _ => False
  | fuel + 1, t, ls =>
    match P.underlying t with
    | some .bool => ∃ b, ls = [.sc (.bool b)]
    | some (.int k) => ∃ n, ls = [.sc (.int k n)] ∧ (Lit.int k n).wf = true
    | some (.float k) => ∃ b, ls = [.sc (.float k b)] ∧ (Lit.float k b).wf = true
    | some .string => ∃ s : ByteArray, ls = [.sc (.string s)] ∧ s.size ≤ maxLen ∧ s.size ≤ reachBytes
    | some (.slice e) => P.cellsOf e = 0 ∨ ∃ rows, ls = [.sl (P.cellsOf e) rows] ∧ rows.length ≤ maxLen ∧ rows.length * P.bytesOf e ≤ reachBytes ∧ ∀ r ∈ rows, TypedS P fuel e r
    | some (.struct fs) => ∃ parts : List (List PV), ls = parts.flatten ∧ parts.length = fs.size ∧ ∀ (i : Nat) (f : Field) (p : List PV), fs[i]? = some f → parts[i]? = some p → TypedS P fuel f.type p
    | some (.array n e) => ∃ parts : List (List PV), ls = parts.flatten ∧ parts.length = n ∧ ∀ p ∈ parts, TypedS P fuel e p
    | _ => True

theorem weightsAll_mem {H : Type} {P : Program} {e : TypeId} : ∀ {ds : List (DataW H)} {d : DataW H}, d ∈ ds → ∀ {n : Nat}, n ∈ d.weights P e → n ∈ DataW.weightsAll P e ds
  | [], _, h, _, _ => by cases h
  | d0 :: ds, d, h, n, hn => by
    simp only [DataW.weightsAll, List.mem_append]
    rcases List.mem_cons.1 h with rfl | h
    · exact .inl hn
    · exact .inr (weightsAll_mem h hn)

theorem typedS_of {H : Type} {enc : TypeId × Value → H} {P : Program} {w : World} {spare : Nat → Bool} {held : Bool} (hl : laidOutB P = true) : ∀ (fuel : Nat) (t : TypeId) (cs : List Value) (x : DataW H × List MemPlace), t < P.types.size → DataW.trod enc P w 0 spare held fuel t cs = some x → (∀ n ∈ x.1.weights P t, n ≤ reachBytes) →
    ∃ ls, RVL (closedM (· < w.heap.size)) w ls cs ∧ TypedS P fuel t ls := by
  intro fuel
  induction fuel with
  | zero => intro t cs x _ h _; simp [DataW.trod] at h
  | succ fuel ih =>
    intro t cs x ht h hw
    have one : ∀ c : Value, RVL (closedM (· < w.heap.size)) w [.sc c] [c] := fun c => by simp [RVL, RV]
    have all : ∀ l : List Value, RVL (closedM (· < w.heap.size)) w (l.map .sc) l := by
      intro l
      induction l with
      | nil => simp [RVL]
      | cons c l ih => simp only [List.map_cons, RVL]; exact ⟨c, l, rfl, by simp [RV], ih⟩
    cases hu : P.underlying t with
    | none => exact ⟨_, all cs, by simp only [TypedS, hu]⟩
    | some d =>
      cases d
      case bool =>
        obtain ⟨b, rfl, _⟩ := DataW.trod_bool hu h
        exact ⟨_, one _, by simp only [TypedS, hu]; exact ⟨_, rfl⟩⟩
      case int k =>
        obtain ⟨n, rfl, _, hw⟩ := DataW.trod_int hu h
        exact ⟨_, one _, by simp only [TypedS, hu]; exact ⟨_, rfl, hw⟩⟩
      case float k =>
        have : ∃ b, cs = [.float k b] ∧ (Lit.float k b).wf = true := by
          unfold DataW.trod at h
          rw [hu] at h
          split at h <;> simp_all
        obtain ⟨b, rfl, hw⟩ := this
        exact ⟨_, one _, by simp only [TypedS, hu]; exact ⟨_, rfl, hw⟩⟩
      case string =>
        obtain ⟨b, rfl, rfl, hw2⟩ := DataW.trod_string hu h
        have hb : b.size ≤ reachBytes := by
          have := hw b.data.toList.length (by simp [DataW.weights])
          simpa using this
        exact ⟨_, one _, by simp only [TypedS, hu]; exact ⟨_, rfl, hw2, hb⟩⟩
      case slice e =>
        by_cases hz : P.cellsOf e = 0
        · exact ⟨_, all cs, by simp only [TypedS, hu]; exact .inl hz⟩
        rcases DataW.trod_slice hu h with ⟨rfl, _⟩ | ⟨a, len, cap, elems, rest, n, hfn, rfl, hx, _, hlc, hcm, hel, hget, _⟩
        · refine ⟨[.sl (P.cellsOf e) []], ?_, ?_⟩
          · simp only [RVL, RV]
            exact ⟨_, [], rfl, ⟨none, 0, 0, rfl, rfl, Nat.le_refl _, by simp⟩, rfl⟩
          · simp only [TypedS, hu]
            exact .inr ⟨[], rfl, by simp, by simp, by simp⟩
        · obtain rfl : fuel = n := by omega
          have hlt := kid_slice hl ht hu
          have hlen0 : len * P.bytesOf e ≤ reachBytes := by
            have := hw ((elems.length + rest.length) * P.bytesOf e) (by rw [hx]; simp [DataW.weights, hu])
            refine Nat.le_trans (Nat.mul_le_mul_right _ ?_) this
            omega
          have hwe : ∀ y ∈ elems, ∀ n ∈ y.1.weights P e, n ≤ reachBytes := fun y hy n hn => by
            refine hw n ?_
            rw [hx]
            simp only [DataW.weights, hu, List.mem_cons, List.mem_append]
            exact .inr (.inl (weightsAll_mem (List.mem_map.2 ⟨y, hy, rfl⟩) hn))
          have each : ∀ i, i < len → ∃ c ls, w.cells? 0 (a.add (i * P.cellsOf e)) (P.cellsOf e) = some c ∧ RVL (closedM (· < w.heap.size)) w ls c ∧ TypedS P fuel e ls := by
            intro i hi
            have hg := hget i hi
            have : ∃ y, elems[i]? = some y := ⟨elems[i]'(by omega), by simp⟩
            obtain ⟨y, hy⟩ := this
            cases hx : w.cells? 0 (a.add (i * P.cellsOf e)) (P.cellsOf e) with
            | none => rw [hx, hy] at hg; cases hg
            | some c =>
              rw [hx, hy] at hg
              simp only [Option.bind_some] at hg
              obtain ⟨ls, h1, h2⟩ := ih e c y hlt hg (hwe y (List.mem_of_getElem? hy))
              exact ⟨c, ls, rfl, h1, h2⟩
          by_cases h0 : len = 0
          · subst h0
            refine ⟨[.sl (P.cellsOf e) []], ?_, ?_⟩
            · simp only [RVL, RV]
              exact ⟨_, [], rfl, ⟨_, 0, cap, rfl, rfl, Nat.zero_le _, by simp⟩, rfl⟩
            · simp only [TypedS, hu]
              exact .inr ⟨[], rfl, by simp, by simp, by simp⟩
          · obtain ⟨c0, ls0, hc0, _, _⟩ := each 0 (by omega)
            have hcell0 : ∃ u, w.cell? a = some u := by
              obtain ⟨_, hlen0, hget0⟩ := World.cells?_some hc0
              have := hget0 0 (by omega)
              simp only [Nat.zero_mul, Addr.add_zero'] at this
              have hlt0 : 0 < c0.length := by omega
              rw [List.getElem?_eq_getElem hlt0] at this
              exact ⟨_, this⟩
            obtain ⟨u, hu0⟩ := hcell0
            have hblk := World.block_lt_of_cell? w a hu0
            obtain ⟨b, off, spot⟩ := a
            have hspot : spot = none := by
              cases spot with
              | none => rfl
              | some q =>
                simp only [World.cell?] at hu0
                split at hu0 <;> simp at hu0
            subst hspot
            obtain ⟨rows, cs, r1, r2, r3, r4, r5⟩ := rows_of (M := (closedM (· < w.heap.size)).cl) (w := w) (b := b) (off := off) (sz := P.cellsOf e) (P := TypedS P fuel e) len 0 (by
              intro i hi
              obtain ⟨c, ls, e1, e2, e3⟩ := each i hi
              obtain ⟨_, hlen, hget1⟩ := World.cells?_some e1
              refine ⟨ls, c, hlen, ?_, e2, e3⟩
              intro j v hj
              have hjl : j < c.length := (List.getElem?_eq_some_iff.1 hj).1
              have := hget1 j (by omega)
              rw [hj, Addr.add_lit, Addr.add_lit] at this
              simpa using this)
            refine ⟨[.sl (P.cellsOf e) rows], ?_, ?_⟩
            · simp only [RVL, RV]
              refine ⟨_, [], rfl, ⟨_, len, cap, rfl, r1.symm, hlc, .inr ⟨b, off, cs, rfl, hblk, by simpa using r3, r4⟩⟩, rfl⟩
            · simp only [TypedS, hu]
              exact .inr ⟨rows, rfl, by rw [r1]; omega, by rw [r1]; exact hlen0, r5⟩
      case struct fs =>
        obtain ⟨xs, n, hfn, hx, hlen, hxl, hget⟩ := DataW.trod_struct hu h
        have hwe : ∀ (i : Nat) (f : Field) (y : DataW H × List MemPlace), fs.toList[i]? = some f → xs[i]? = some y → ∀ n ∈ y.1.weights P f.type, n ≤ reachBytes := fun i f y hf hy n hn => by
          refine hw n ?_
          rw [hx]
          simp only [DataW.weights, hu]
          exact DataW.weights_mem_each (j := i) (by rw [List.getElem?_map, hf]; rfl) (by rw [List.getElem?_map, hy]; rfl) n hn
        obtain rfl : fuel = n := by omega
        obtain ⟨k1, k2, k3⟩ := kid_struct hl ht hu
        have each : ∀ i, i < fs.size → ∃ ls, ∀ f, fs.toList[i]? = some f → RVL (closedM (· < w.heap.size)) w ls ((cs.drop f.offset).take (P.cellsOf f.type)) ∧ TypedS P fuel f.type ls := by
          intro i hi
          have hf : fs.toList[i]? = some fs[i] := by simp [hi]
          have hg := hget i fs[i] (by simp [hi])
          have : ∃ y, xs[i]? = some y := ⟨xs[i]'(by omega), by simp⟩
          obtain ⟨y, hy⟩ := this
          rw [hy] at hg
          obtain ⟨ls, h1, h2⟩ := ih _ _ y (k1 _ (List.mem_of_getElem? hf)) hg (hwe i _ y hf hy)
          refine ⟨ls, fun f hf' => ?_⟩
          rw [hf] at hf'; cases hf'
          exact ⟨h1, h2⟩
        obtain ⟨parts, p1, p2⟩ := choose_list each
        have hns : (fs.toList.map fun f => P.cellsOf f.type).length = fs.size := by simp
        have hfl := flat_pieces cs (fs.toList.map fun f => P.cellsOf f.type) 0 (by rw [Nat.zero_add, ← k2, hlen])
        rw [hns] at hfl
        simp only [Nat.zero_add, List.drop_zero] at hfl
        refine ⟨parts.flatten, ?_, ?_⟩
        · rw [← hfl]
          refine RVL.flat (by simp [p1]) ?_
          intro i p c hp hc
          obtain ⟨hi, hR⟩ := p2 i p hp
          have hf : fs.toList[i]? = some fs[i] := by simp [hi]
          obtain ⟨h1, _⟩ := hR _ hf
          have hoff := k3 i _ hf
          rw [List.getElem?_map, List.getElem?_range hi] at hc
          simp only [Option.map_some, Option.some.injEq] at hc
          rw [← hc]
          have e1 : ((fs.toList.map fun f => P.cellsOf f.type).take i).sum = fs[i].offset := by rw [hoff, List.map_take]
          have e2 : (fs.toList.map fun f => P.cellsOf f.type).getD i 0 = P.cellsOf fs[i].type := by
            rw [List.getD_eq_getElem?_getD, List.getElem?_map, hf]; rfl
          rw [e1, e2]
          exact h1
        · simp only [TypedS, hu]
          refine ⟨parts, rfl, p1, ?_⟩
          intro i f p hf hp
          obtain ⟨_, hR⟩ := p2 i p hp
          exact (hR f (by simpa using hf)).2
      case array n e =>
        obtain ⟨xs, m, hfn, hx, hlen, hxl, hget⟩ := DataW.trod_array hu h
        have hwe : ∀ y ∈ xs, ∀ n ∈ y.1.weights P e, n ≤ reachBytes := fun y hy n hn => by
          refine hw n ?_
          rw [hx]
          simp only [DataW.weights, hu]
          exact weightsAll_mem (List.mem_map.2 ⟨y, hy, rfl⟩) hn
        obtain rfl : fuel = m := by omega
        obtain ⟨k1, k2⟩ := kid_array hl ht hu
        have each : ∀ i, i < n → ∃ ls, RVL (closedM (· < w.heap.size)) w ls ((cs.drop (i * P.cellsOf e)).take (P.cellsOf e)) ∧ TypedS P fuel e ls := by
          intro i hi
          have hg := hget i hi
          have : ∃ y, xs[i]? = some y := ⟨xs[i]'(by omega), by simp⟩
          obtain ⟨y, hy⟩ := this
          rw [hy] at hg
          exact ih _ _ y k1 hg (hwe y (List.mem_of_getElem? hy))
        obtain ⟨parts, p1, p2⟩ := choose_list each
        have hsum : ∀ m, (List.replicate m (P.cellsOf e)).sum = m * P.cellsOf e := by
          intro m; simp
        have hfl := flat_pieces cs (List.replicate n (P.cellsOf e)) 0 (by rw [Nat.zero_add, hsum, hlen, k2])
        simp only [List.length_replicate, Nat.zero_add, List.drop_zero] at hfl
        refine ⟨parts.flatten, ?_, ?_⟩
        · rw [← hfl]
          refine RVL.flat (by simp [p1]) ?_
          intro i p c hp hc
          obtain ⟨hi, hR, _⟩ := p2 i p hp
          rw [List.getElem?_map, List.getElem?_range hi] at hc
          simp only [Option.map_some, Option.some.injEq] at hc
          rw [← hc]
          have e1 : ((List.replicate n (P.cellsOf e)).take i).sum = i * P.cellsOf e := by
            rw [List.take_replicate, hsum, Nat.min_eq_left (by omega)]
          have e2 : (List.replicate n (P.cellsOf e)).getD i 0 = P.cellsOf e := by
            rw [List.getD_eq_getElem?_getD, List.getElem?_replicate, if_pos hi]; rfl
          rw [e1, e2]
          exact hR
        · simp only [TypedS, hu]
          refine ⟨parts, rfl, p1, ?_⟩
          intro p hp
          obtain ⟨i, hi⟩ := List.getElem?_of_mem hp
          exact (p2 i p hi).2.2
      all_goals exact ⟨_, all cs, by simp only [TypedS, hu]⟩


theorem TypedS.typed {P : Program} : ∀ {fuel : Nat} {t : TypeId} {ls : List PV}, TypedS P fuel t ls → Typed P fuel t ls
  | 0, _, _, h => h.elim
  | fuel + 1, t, ls, h => by
    unfold TypedS at h
    unfold Typed
    split at h
    · rename_i hu; rw [hu]; exact h
    · rename_i hu; rw [hu]; exact h
    · rename_i hu; rw [hu]; exact h
    · rename_i hu
      rw [hu]
      obtain ⟨s, h1, h2, _⟩ := h
      exact ⟨s, h1, h2⟩
    · rename_i hu
      rw [hu]
      rcases h with h | ⟨rows, h1, h2, _, h3⟩
      · exact .inl h
      · exact .inr ⟨rows, h1, h2, fun r hr => (h3 r hr).typed⟩
    · rename_i hu
      rw [hu]
      obtain ⟨parts, h1, h2, h3⟩ := h
      exact ⟨parts, h1, h2, fun i f p hf hp => (h3 i f p hf hp).typed⟩
    · rename_i hu
      rw [hu]
      obtain ⟨parts, h1, h2, h3⟩ := h
      exact ⟨parts, h1, h2, fun p hp => (h3 p hp).typed⟩
    · split
      all_goals first | trivial | (exfalso; simp_all)

def TyS (P : Program) (t : TypeId) (ls : List PV) : Prop := ∃ fuel, TypedS P fuel t ls
theorem TyS.ty {P : Program} {t : TypeId} {ls : List PV} (h : TyS P t ls) : Ty P t ls := ⟨h.choose, h.choose_spec.typed⟩
theorem typedS_slice {P : Program} {n : Nat} {t e : TypeId} {ls : List PV} (sz : Nat) (hu : P.underlying t = some (.slice e)) (hsz : P.cellsOf e = sz) (h0 : sz ≠ 0) (h : TypedS P (n + 1) t ls) : ∃ rows, ls = [.sl sz rows] ∧ rows.length * P.bytesOf e ≤ reachBytes ∧ ∀ r ∈ rows, TypedS P n e r := by
  simp only [TypedS, hu, hsz] at h
  rcases h with h | ⟨rows, h1, h2, h3, h4⟩
  · exact absurd h h0
  · exact ⟨rows, h1, h3, h4⟩
theorem tyS_slice {P : Program} {t e : TypeId} {ls : List PV} (sz : Nat) (hu : P.underlying t = some (.slice e)) (hsz : P.cellsOf e = sz) (h0 : sz ≠ 0) (h : TyS P t ls) : ∃ rows, ls = [.sl sz rows] ∧ rows.length * P.bytesOf e ≤ reachBytes ∧ ∀ r ∈ rows, TyS P e r := by
  obtain ⟨fuel, h⟩ := h
  cases fuel with
  | zero => exact h.elim
  | succ n =>
    obtain ⟨rows, h1, h2, h3⟩ := typedS_slice sz hu hsz h0 h
    exact ⟨rows, h1, h2, fun r hr => ⟨n, h3 r hr⟩⟩
def TyPartsS (P : Program) (n : Nat) : List TypeId → List (List PV) → Prop
  | [], [] => True
  | t :: ts, p :: ps => TypedS P n t p ∧ TyPartsS P n ts ps
  | _, _ => False
theorem tyPartsS_of {P : Program} {fuel : Nat} : ∀ (fs : List Field) (parts : List (List PV)), parts.length = fs.length → (∀ (i : Nat) (f : Field) (p : List PV), fs[i]? = some f → parts[i]? = some p → TypedS P fuel f.type p) → TyPartsS P fuel (fs.map (·.type)) parts
  | [], [], _, _ => trivial
  | f :: fs, p :: ps, hl, h => ⟨h 0 f p rfl rfl, tyPartsS_of fs ps (by simpa using hl) fun i f' p' h1 h2 => h (i + 1) f' p' (by simpa using h1) (by simpa using h2)⟩
  | [], _ :: _, hl, _ => by simp at hl
  | _ :: _, [], hl, _ => by simp at hl
theorem typedS_struct {P : Program} {n : Nat} {t : TypeId} {ls : List PV} (ts : List TypeId) (hs : P.underlying t = some (.struct (P.fieldsOf t))) (hts : (P.fieldsOf t).toList.map (·.type) = ts) (h : TypedS P (n + 1) t ls) : ∃ parts, ls = parts.flatten ∧ TyPartsS P n ts parts := by
  simp only [TypedS, hs] at h
  obtain ⟨parts, h1, h2, h3⟩ := h
  refine ⟨parts, h1, ?_⟩
  rw [← hts]
  exact tyPartsS_of _ _ (by simpa using h2) fun i f p hf hp => h3 i f p (by simpa using hf) hp
theorem tyPartsS_nil {P : Program} {n : Nat} {ps : List (List PV)} (h : TyPartsS P n [] ps) : ps = [] := by
  cases ps with
  | nil => rfl
  | cons p ps => exact h.elim
theorem tyPartsS_cons {P : Program} {n : Nat} {t : TypeId} {ts : List TypeId} {ps : List (List PV)} (h : TyPartsS P n (t :: ts) ps) : ∃ p qs, ps = p :: qs ∧ TypedS P n t p ∧ TyPartsS P n ts qs := by
  cases ps with
  | nil => exact h.elim
  | cons p ps => exact ⟨p, ps, rfl, h.1, h.2⟩

/-- One argument, by its type, with the reach. -/
def ArgOfS (P : Program) (t : TypeId) (p : PV) : Prop :=
  match P.underlying t with
  | some (.struct _) | some (.array _ _) => ∃ ls, p = .ag ls ∧ TyS P t ls
  | _ => TyS P t [p]
theorem argOfS_agg {P : Program} {t : TypeId} {p : PV} (hu : isAggT P t = true) (h : ArgOfS P t p) : ∃ ls, p = .ag ls ∧ TyS P t ls := by
  unfold isAggT at hu
  unfold ArgOfS at h
  split at hu
  · rename_i e; simpa only [e] using h
  · rename_i e; simpa only [e] using h
  · cases hu
theorem argOfS_one {P : Program} {t : TypeId} {p : PV} (hu : isAggT P t = false) (h : ArgOfS P t p) : TyS P t [p] := by
  unfold isAggT at hu
  unfold ArgOfS at h
  split at hu
  · cases hu
  · cases hu
  · rename_i h1 h2
    split at h
    · rename_i e; exact absurd e (h1 _)
    · rename_i e; exact absurd e (h2 _ _)
    · exact h
theorem ArgOfS.arg {P : Program} {t : TypeId} {p : PV} (h : ArgOfS P t p) : ArgOf P t p := by
  unfold ArgOfS at h
  unfold ArgOf
  split at h
  · rename_i hu
    obtain ⟨ls, h1, h2⟩ := h
    simp only [hu]; exact ⟨ls, h1, h2.ty⟩
  · rename_i hu
    obtain ⟨ls, h1, h2⟩ := h
    simp only [hu]; exact ⟨ls, h1, h2.ty⟩
  · split
    all_goals first | exact h.ty | (exfalso; simp_all)
def ArgsOfS (P : Program) : List TypeId → List PV → Prop
  | [], [] => True
  | t :: ts, p :: ps => ArgOfS P t p ∧ ArgsOfS P ts ps
  | _, _ => False
theorem argsOfS_nil {P : Program} {ps : List PV} (h : ArgsOfS P [] ps) : ps = [] := by
  cases ps with
  | nil => rfl
  | cons p ps => exact h.elim
theorem argsOfS_cons {P : Program} {t : TypeId} {ts : List TypeId} {ps : List PV} (h : ArgsOfS P (t :: ts) ps) : ∃ p qs, ps = p :: qs ∧ ArgOfS P t p ∧ ArgsOfS P ts qs := by
  cases ps with
  | nil => exact h.elim
  | cons p ps => exact ⟨p, ps, rfl, h.1, h.2⟩
theorem argS_of {H : Type} {enc : TypeId × Value → H} {P : Program} {w : World} {spare : Nat → Bool} {held : Bool} {base : Nat} {t : TypeId} {v : Value} {d : DataW H} {ps : List MemPlace} (hl : laidOutB P = true) (ht : argT P t = true)
    (hok : Value.okWide P w .any base t v) (hk : DataW.Trod enc P w 0 spare held t v d ps) (hw : ∀ n ∈ d.weights P t, n ≤ reachBytes) : ∃ p, RV (closedM (· < w.heap.size)) w p v ∧ ArgOfS P t p := by
  simp only [argT, Bool.and_eq_true, decide_eq_true_eq] at ht
  obtain ⟨hlt, ht⟩ := ht
  obtain ⟨fuel, hf⟩ := hk
  obtain ⟨ls, h1, h2⟩ := typedS_of hl fuel t _ _ hlt hf hw
  have one : v.cells.toList = [v] → ∃ p, RV (closedM (· < w.heap.size)) w p v ∧ TyS P t [p] := by
    intro e
    rw [e] at h1
    cases ls with
    | nil => simp [RVL] at h1
    | cons p qs =>
      simp only [RVL] at h1
      obtain ⟨c, cs, e1, e2, e3⟩ := h1
      cases e1
      cases qs with
      | nil => exact ⟨p, e2, fuel, h2⟩
      | cons _ _ => simp [RVL] at e3
  unfold ArgOfS
  split at ht
  · rename_i hu
    obtain ⟨b, rfl⟩ := WideShapes.okWide_bool hu hok
    simp only [hu]; exact one rfl
  · rename_i hu
    obtain ⟨b, rfl⟩ := WideShapes.okWide_int hu hok
    simp only [hu]; exact one rfl
  · rename_i hu
    obtain ⟨b, rfl⟩ := okWide_flt hu hok
    simp only [hu]; exact one rfl
  · rename_i hu
    obtain ⟨b, rfl⟩ := WideShapes.okWide_string hu hok
    simp only [hu]; exact one rfl
  · rename_i hu
    obtain ⟨a, l, c, rfl⟩ := WideShapes.okWide_slice hu hok
    simp only [hu]; exact one rfl
  · rename_i hu
    obtain ⟨cs, rfl, _⟩ := WideShapes.okWide_struct hu hok
    simp only [hu]
    refine ⟨.ag ls, ?_, ls, rfl, fuel, h2⟩
    simp only [RV]
    exact ⟨cs, rfl, by simpa [Value.cells] using h1⟩
  · rename_i n e hu
    have hok' : ∃ cs, v = .agg cs := by
      unfold Value.okWide at hok
      simp only [hu] at hok
      obtain ⟨cs, rfl, _⟩ := hok
      exact ⟨cs, rfl⟩
    obtain ⟨cs, rfl⟩ := hok'
    simp only [hu]
    refine ⟨.ag ls, ?_, ls, rfl, fuel, h2⟩
    simp only [RV]
    exact ⟨cs, rfl, by simpa [Value.cells] using h1⟩
  · cases ht

theorem argsS_of {H : Type} {enc : TypeId × Value → H} {P : Program} {w : World} {spare : Nat → Bool} {held : Bool} {base : Nat} (hl : laidOutB P = true) : ∀ (ts : List TypeId) (vs : List Value) (ds : List (DataW H)) (ps : List MemPlace), ts.all (argT P) = true →
    DataW.TrodAll enc P w 0 spare held ts vs ds ps → (∀ (j : Nat) t v, ts[j]? = some t → vs[j]? = some v → Value.okWide P w .any base t v) → (∀ n ∈ DataW.weightsEach P ts ds, n ≤ reachBytes) →
    ∃ qs, RVL (closedM (· < w.heap.size)) w qs vs ∧ ArgsOfS P ts qs
  | [], [], ds, ps, _, _, _, _ => ⟨[], by simp [RVL], trivial⟩
  | t :: ts, v :: vs, d :: ds, ps, ha, h, hok, hw => by
    simp only [List.all_cons, Bool.and_eq_true] at ha
    obtain ⟨p, q, h1, h2, _⟩ := h
    obtain ⟨x, e1, e2⟩ := argS_of hl ha.1 (hok 0 t v rfl rfl) h1 (fun n hn => hw n (by simp only [DataW.weightsEach, List.mem_append]; exact .inl hn))
    obtain ⟨xs, f1, f2⟩ := argsS_of hl ts vs ds q ha.2 h2 (fun j t' v' a b => hok (j + 1) t' v' (by simpa using a) (by simpa using b)) (fun n hn => hw n (by simp only [DataW.weightsEach, List.mem_append]; exact .inr hn))
    exact ⟨x :: xs, by simp only [RVL]; exact ⟨v, vs, rfl, e1, f1⟩, e2, f2⟩
  | [], _ :: _, _, _, _, h, _, _ => by simp [DataW.TrodAll] at h
  | _ :: _, [], _, _, _, h, _, _ => by simp [DataW.TrodAll] at h
  | _ :: _, _ :: _, [], _, _, h, _, _ => by simp [DataW.TrodAll] at h

end Go.Pv
