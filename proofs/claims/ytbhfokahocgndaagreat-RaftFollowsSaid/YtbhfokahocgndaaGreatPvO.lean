/-
  A law's frame: arguments that came in, by their types; the call; the arguments behind it. Generic over the program.
-/
import Derived.Test.YtbhfokahocgndaaGreatPvN
import Derived.Below
import Derived.ChangeOld
import Derived.ShutString
import Derived.WideShapes
import Derived.Carry
set_option linter.unusedSimpArgs false
set_option linter.unusedVariables false
namespace Go.Pv

/-- The cells' forms, by the type. -/
def Ty (P : Program) (t : TypeId) (ls : List PV) : Prop := ∃ fuel, Typed P fuel t ls

def TyParts (P : Program) : List TypeId → List (List PV) → Prop
  | [], [] => True
  | t :: ts, p :: ps => Ty P t p ∧ TyParts P ts ps
  | _, _ => False

theorem ty_bool {P : Program} {t : TypeId} {ls : List PV} (hu : P.underlying t = some .bool) (h : Ty P t ls) : ∃ b, ls = [.sc (.bool b)] := by
  obtain ⟨fuel, h⟩ := h
  cases fuel with
  | zero => exact h.elim
  | succ n => simpa only [Typed, hu] using h

theorem ty_int {P : Program} {t : TypeId} {k : IntKind} {ls : List PV} (hu : P.underlying t = some (.int k)) (h : Ty P t ls) : ∃ n, ls = [.sc (.int k n)] ∧ (Lit.int k n).wf = true := by
  obtain ⟨fuel, h⟩ := h
  cases fuel with
  | zero => exact h.elim
  | succ n => simpa only [Typed, hu] using h

theorem ty_float {P : Program} {t : TypeId} {k : FloatKind} {ls : List PV} (hu : P.underlying t = some (.float k)) (h : Ty P t ls) : ∃ n, ls = [.sc (.float k n)] ∧ (Lit.float k n).wf = true := by
  obtain ⟨fuel, h⟩ := h
  cases fuel with
  | zero => exact h.elim
  | succ n => simpa only [Typed, hu] using h

theorem ty_string {P : Program} {t : TypeId} {ls : List PV} (hu : P.underlying t = some .string) (h : Ty P t ls) : ∃ s : ByteArray, ls = [.sc (.string s)] ∧ s.size ≤ maxLen := by
  obtain ⟨fuel, h⟩ := h
  cases fuel with
  | zero => exact h.elim
  | succ n => simpa only [Typed, hu] using h

theorem ty_slice {P : Program} {t e : TypeId} {ls : List PV} (sz : Nat) (hu : P.underlying t = some (.slice e)) (hsz : P.cellsOf e = sz) (h0 : sz ≠ 0) (h : Ty P t ls) : ∃ rows, ls = [.sl sz rows] ∧ rows.length ≤ maxLen ∧ ∀ r ∈ rows, Ty P e r := by
  obtain ⟨fuel, h⟩ := h
  cases fuel with
  | zero => exact h.elim
  | succ n =>
    simp only [Typed, hu, hsz] at h
    rcases h with h | ⟨rows, h1, h2, h3⟩
    · exact absurd h h0
    · exact ⟨rows, h1, h2, fun r hr => ⟨n, h3 r hr⟩⟩

theorem tyParts_of {P : Program} {fuel : Nat} : ∀ (fs : List Field) (parts : List (List PV)), parts.length = fs.length → (∀ (i : Nat) (f : Field) (p : List PV), fs[i]? = some f → parts[i]? = some p → Typed P fuel f.type p) → TyParts P (fs.map (·.type)) parts
  | [], [], _, _ => trivial
  | f :: fs, p :: ps, hl, h => ⟨⟨fuel, h 0 f p rfl rfl⟩, tyParts_of fs ps (by simpa using hl) fun i f' p' h1 h2 => h (i + 1) f' p' (by simpa using h1) (by simpa using h2)⟩
  | [], _ :: _, hl, _ => by simp at hl
  | _ :: _, [], hl, _ => by simp at hl

theorem ty_struct {P : Program} {t : TypeId} {ls : List PV} (ts : List TypeId) (hs : P.underlying t = some (.struct (P.fieldsOf t))) (hts : (P.fieldsOf t).toList.map (·.type) = ts) (h : Ty P t ls) : ∃ parts, ls = parts.flatten ∧ TyParts P ts parts := by
  obtain ⟨fuel, h⟩ := h
  cases fuel with
  | zero => exact h.elim
  | succ n =>
    simp only [Typed, hs] at h
    obtain ⟨parts, h1, h2, h3⟩ := h
    refine ⟨parts, h1, ?_⟩
    rw [← hts]
    exact tyParts_of _ _ (by simpa using h2) fun i f p hf hp => h3 i f p (by simpa using hf) hp

theorem ty_array {P : Program} {t : TypeId} {ls : List PV} (n : Nat) (e : TypeId) (hu : P.underlying t = some (.array n e)) (h : Ty P t ls) : ∃ parts, ls = parts.flatten ∧ TyParts P (List.replicate n e) parts := by
  obtain ⟨fuel, h⟩ := h
  cases fuel with
  | zero => exact h.elim
  | succ m =>
    simp only [Typed, hu] at h
    obtain ⟨parts, h1, h2, h3⟩ := h
    refine ⟨parts, h1, ?_⟩
    clear h1 hu
    induction parts generalizing n with
    | nil => simp at h2; subst h2; trivial
    | cons p ps ih =>
      cases n with
      | zero => simp at h2
      | succ n => exact ⟨⟨m, h3 p (by simp)⟩, ih n (by simpa using h2) fun q hq => h3 q (by simp [hq])⟩

theorem tyParts_nil {P : Program} {ps : List (List PV)} (h : TyParts P [] ps) : ps = [] := by
  cases ps with
  | nil => rfl
  | cons p ps => exact h.elim

theorem tyParts_cons {P : Program} {t : TypeId} {ts : List TypeId} {ps : List (List PV)} (h : TyParts P (t :: ts) ps) : ∃ p qs, ps = p :: qs ∧ Ty P t p ∧ TyParts P ts qs := by
  cases ps with
  | nil => exact h.elim
  | cons p ps => exact ⟨p, ps, rfl, h.1, h.2⟩

/-- One argument, by its type. -/
def ArgOf (P : Program) (t : TypeId) (p : PV) : Prop :=
  match P.underlying t with
  | some (.struct _) | some (.array _ _) => ∃ ls, p = .ag ls ∧ Ty P t ls
  | _ => Ty P t [p]

def isAggT (P : Program) (t : TypeId) : Bool := match P.underlying t with | some (.struct _) | some (.array _ _) => true | _ => false

theorem argOf_agg {P : Program} {t : TypeId} {p : PV} (hu : isAggT P t = true) (h : ArgOf P t p) : ∃ ls, p = .ag ls ∧ Ty P t ls := by
  unfold isAggT at hu
  unfold ArgOf at h
  split at hu
  · rename_i e; simpa only [e] using h
  · rename_i e; simpa only [e] using h
  · cases hu

theorem argOf_one {P : Program} {t : TypeId} {p : PV} (hu : isAggT P t = false) (h : ArgOf P t p) : Ty P t [p] := by
  unfold isAggT at hu
  unfold ArgOf at h
  split at hu
  · cases hu
  · cases hu
  · rename_i h1 h2
    split at h
    · rename_i e; exact absurd e (h1 _)
    · rename_i e; exact absurd e (h2 _ _)
    · exact h

def ArgsOf (P : Program) : List TypeId → List PV → Prop
  | [], [] => True
  | t :: ts, p :: ps => ArgOf P t p ∧ ArgsOf P ts ps
  | _, _ => False

theorem argsOf_nil {P : Program} {ps : List PV} (h : ArgsOf P [] ps) : ps = [] := by
  cases ps with
  | nil => rfl
  | cons p ps => exact h.elim

theorem argsOf_cons {P : Program} {t : TypeId} {ts : List TypeId} {ps : List PV} (h : ArgsOf P (t :: ts) ps) : ∃ p qs, ps = p :: qs ∧ ArgOf P t p ∧ ArgsOf P ts qs := by
  cases ps with
  | nil => exact h.elim
  | cons p ps => exact ⟨p, ps, rfl, h.1, h.2⟩

def argT (P : Program) (t : TypeId) : Bool :=
  decide (t < P.types.size) && match P.underlying t with
  | some .bool | some (.int _) | some (.float _) | some .string | some (.slice _) | some (.struct _) | some (.array _ _) => true
  | _ => false

theorem okWide_flt {P : Program} {w : World} {r : Reach} {b0 : Nat} {t : TypeId} {k : FloatKind} {v : Value} (ht : P.underlying t = some (.float k)) (h : Value.okWide P w r b0 t v) : ∃ b, v = .float k b := by
  simp only [Value.okWide, ht, Cell.okWide] at h
  cases v <;> simp_all [Cell.ok]

theorem arg_of {H : Type} {enc : TypeId × Value → H} {P : Program} {w : World} {spare : Nat → Bool} {held : Bool} {base : Nat} {t : TypeId} {v : Value} {d : DataW H} {ps : List MemPlace} (hl : laidOutB P = true) (ht : argT P t = true)
    (hok : Value.okWide P w .any base t v) (hk : DataW.Trod enc P w 0 spare held t v d ps) : ∃ p, RV (closedM (· < w.heap.size)) w p v ∧ ArgOf P t p := by
  simp only [argT, Bool.and_eq_true, decide_eq_true_eq] at ht
  obtain ⟨hlt, ht⟩ := ht
  obtain ⟨fuel, hf⟩ := hk
  obtain ⟨ls, h1, h2⟩ := typed_of hl fuel t _ _ hlt hf
  have one : v.cells.toList = [v] → ∃ p, RV (closedM (· < w.heap.size)) w p v ∧ Ty P t [p] := by
    intro e
    rw [e] at h1
    cases ls with
    | nil => simp [RVL] at h1
    | cons p qs =>
      simp only [RVL] at h1
      obtain ⟨c, cs, e1, e2, e3⟩ := h1
      cases e1
      cases qs with
      | nil => exact ⟨p, e2, fuel, h2⟩
      | cons _ _ => simp [RVL] at e3
  unfold ArgOf
  split at ht
  · rename_i hu
    obtain ⟨b, rfl⟩ := WideShapes.okWide_bool hu hok
    simp only [hu]; exact one rfl
  · rename_i hu
    obtain ⟨b, rfl⟩ := WideShapes.okWide_int hu hok
    simp only [hu]; exact one rfl
  · rename_i hu
    obtain ⟨b, rfl⟩ := okWide_flt hu hok
    simp only [hu]; exact one rfl
  · rename_i hu
    obtain ⟨b, rfl⟩ := WideShapes.okWide_string hu hok
    simp only [hu]; exact one rfl
  · rename_i hu
    obtain ⟨a, l, c, rfl⟩ := WideShapes.okWide_slice hu hok
    simp only [hu]; exact one rfl
  · rename_i hu
    obtain ⟨cs, rfl, _⟩ := WideShapes.okWide_struct hu hok
    simp only [hu]
    refine ⟨.ag ls, ?_, ls, rfl, fuel, h2⟩
    simp only [RV]
    exact ⟨cs, rfl, by simpa [Value.cells] using h1⟩
  · rename_i n e hu
    have hok' : ∃ cs, v = .agg cs := by
      unfold Value.okWide at hok
      simp only [hu] at hok
      obtain ⟨cs, rfl, _⟩ := hok
      exact ⟨cs, rfl⟩
    obtain ⟨cs, rfl⟩ := hok'
    simp only [hu]
    refine ⟨.ag ls, ?_, ls, rfl, fuel, h2⟩
    simp only [RV]
    exact ⟨cs, rfl, by simpa [Value.cells] using h1⟩
  · cases ht

theorem args_of {H : Type} {enc : TypeId × Value → H} {P : Program} {w : World} {spare : Nat → Bool} {held : Bool} {base : Nat} (hl : laidOutB P = true) : ∀ (ts : List TypeId) (vs : List Value) (ds : List (DataW H)) (ps : List MemPlace), ts.all (argT P) = true →
    DataW.TrodAll enc P w 0 spare held ts vs ds ps → (∀ (j : Nat) t v, ts[j]? = some t → vs[j]? = some v → Value.okWide P w .any base t v) →
    ∃ qs, RVL (closedM (· < w.heap.size)) w qs vs ∧ ArgsOf P ts qs
  | [], [], ds, ps, _, _, _ => ⟨[], by simp [RVL], trivial⟩
  | t :: ts, v :: vs, d :: ds, ps, ha, h, hok => by
    simp only [List.all_cons, Bool.and_eq_true] at ha
    obtain ⟨p, q, h1, h2, _⟩ := h
    obtain ⟨x, e1, e2⟩ := arg_of hl ha.1 (hok 0 t v rfl rfl) h1
    obtain ⟨xs, f1, f2⟩ := args_of hl ts vs ds q ha.2 h2 fun j t' v' a b => hok (j + 1) t' v' (by simpa using a) (by simpa using b)
    exact ⟨x :: xs, by simp only [RVL]; exact ⟨v, vs, rfl, e1, f1⟩, e2, f2⟩
  | [], _ :: _, _, _, _, h, _ => by simp [DataW.TrodAll] at h
  | _ :: _, [], _, _, _, h, _ => by simp [DataW.TrodAll] at h
  | _ :: _, _ :: _, [], _, _, h, _ => by simp [DataW.TrodAll] at h

def readT (P : Program) (t : TypeId) : Bool := decide (t < P.types.size) && P.readableRec t

/-- The arguments read behind the call as they did. -/
theorem trodAll_below {H : Type} {enc : TypeId × Value → H} {P : Program} {W W' : World} (hl : laidOutB P = true) (hb : RowKit.Below W.heap.size W W') : ∀ (ts : List TypeId) (vs : List Value) (ds : List (DataW H)) (ps : List MemPlace), ts.all (readT P) = true →
    DataW.TrodAll enc P W 0 (fun _ => true) true ts vs ds ps → DataW.TrodAll enc P W' 0 (fun b => decide (b < W.heap.size)) true ts vs ds ps
  | [], [], [], ps, _, h => h
  | t :: ts, v :: vs, d :: ds, ps, ha, h => by
    simp only [List.all_cons, Bool.and_eq_true, readT, decide_eq_true_eq] at ha
    obtain ⟨p, q, h1, h2, e⟩ := h
    refine ⟨p, q, ?_, trodAll_below hl hb ts vs ds q (by simpa [readT] using ha.2) h2, e⟩
    refine RowKit.Below.trod hl ha.1.2 ha.1.1 h1 hb ?_
    obtain ⟨m, hm⟩ := h1
    exact DataW.trod_lt m _ _ _ hm
  | [], _ :: _, _, _, _, h => by simp [DataW.TrodAll] at h
  | [], [], _ :: _, _, _, h => by simp [DataW.TrodAll] at h
  | _ :: _, [], _, _, _, h => by simp [DataW.TrodAll] at h
  | _ :: _, _ :: _, [], _, _, h => by simp [DataW.TrodAll] at h

end Go.Pv
