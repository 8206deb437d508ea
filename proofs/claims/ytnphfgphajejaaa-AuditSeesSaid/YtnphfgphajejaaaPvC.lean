/-
  What each operation does to the abstract state. Generic over the program.
-/
import Derived.Test.YtnphfgphajejaaaPvB
import Derived.Laws.Sem
namespace Go.Pv

def vE (p : PV) : Eff := ⟨p, [], [], [], [], [], []⟩

theorem os_read {P : Program} {o : Oper} {E : Eff} {ts : List PV} (hwb : E.wb = []) (hwo : E.wo = [])
    (h : ∀ (w0 : World) (X : Nat → Prop) (S0 : Base) (M : Mem) (s : St) (a : Act) (w : World), Rel w0 X S0 M s a w → (∀ x ∈ o.op.operands.toList, aev s.tmps x = aev ts x) → Sat s E → ∃ v, (execOp a.eval o).run P w = .ok (.value v) w ∧ RV M w E.val v) : OpSem P o E ts := by
  intro w0 X S0 M s a w Q K hr hl hs hk
  obtain ⟨v, h1, h2⟩ := h w0 X S0 M s a w hr hl hs
  unfold Oper.wp
  rw [h1, Oper.upon_value]
  refine hk M _ _ ?_
  have := rel_put hr o.dst h2
  simpa [St.apply, hwb, hwo, upd_nil] using this

theorem os_move {P : Program} {o : Oper} {ts : List PV} {x : Operand} (ho : o.op = .move x) : OpSem P o (vE (aev ts x)) ts :=
  os_read rfl rfl fun w0 X S0 M s a w hr hl _ => ⟨a.eval x, by simp [execOp, ho], by have := hr.eval x; rwa [hl x (by simp [ho, Op.operands])] at this⟩

theorem os_assign {P : Program} {o : Oper} {ts : List PV} {x : Operand} (ho : o.op = .assign x) : OpSem P o (vE (aev ts x)) ts :=
  os_read rfl rfl fun w0 X S0 M s a w hr hl _ => ⟨a.eval x, by simp [execOp, ho], by have := hr.eval x; rwa [hl x (by simp [ho, Op.operands])] at this⟩

theorem ev_of {w0 : World} {X : Nat → Prop} {S0 : Base} {M : Mem} {s : St} {a : Act} {w : World} {ts : List PV} {x : Operand} {p : PV} {xs : List Operand} (hr : Rel w0 X S0 M s a w) (hl : ∀ x ∈ xs, aev s.tmps x = aev ts x) (hx : x ∈ xs) (hp : aev ts x = p) : RV M w p (a.eval x) := by
  have := hr.eval x
  rwa [hl x hx, hp] at this

theorem os_pick {P : Program} {o : Oper} {ts : List PV} {c x y : Operand} {b : Bool} (ho : o.op = .pick c x y) (hc : aev ts c = .sc (.bool b)) : OpSem P o (vE (if b then aev ts x else aev ts y)) ts :=
  os_read rfl rfl fun w0 X S0 M s a w hr hl _ => by
    rw [ho] at hl
    have h1 := ev_of hr hl (x := c) (by simp [Op.operands]) hc
    simp only [RV] at h1
    have h2 := ev_of hr hl (x := x) (by simp [Op.operands]) rfl
    have h3 := ev_of hr hl (x := y) (by simp [Op.operands]) rfl
    refine ⟨if b then a.eval x else a.eval y, ?_, ?_⟩
    · cases b <;> simp [execOp, ho, h1, asBool]
    · cases b
      · simpa [vE] using h3
      · simpa [vE] using h2

/-! ### Numbers: bit operations are sealed (by choice), so that neither the elaborator nor the kernel ever unfolds them at unknown numbers. -/

noncomputable def iandC : {f : IntKind → Int → Int → Int // ∀ k a b, f k a b = k.wrap (BitVec.ofInt k.bits a &&& BitVec.ofInt k.bits b).toNat} := Classical.choice ⟨⟨fun k a b => k.wrap (BitVec.ofInt k.bits a &&& BitVec.ofInt k.bits b).toNat, fun _ _ _ => rfl⟩⟩
noncomputable def iand (k : IntKind) (a b : Int) : Int := iandC.1 k a b
theorem iand_eq (k : IntKind) (a b : Int) : iand k a b = k.wrap (BitVec.ofInt k.bits a &&& BitVec.ofInt k.bits b).toNat := iandC.2 k a b
noncomputable def iorC : {f : IntKind → Int → Int → Int // ∀ k a b, f k a b = k.wrap (BitVec.ofInt k.bits a ||| BitVec.ofInt k.bits b).toNat} := Classical.choice ⟨⟨fun k a b => k.wrap (BitVec.ofInt k.bits a ||| BitVec.ofInt k.bits b).toNat, fun _ _ _ => rfl⟩⟩
noncomputable def ior (k : IntKind) (a b : Int) : Int := iorC.1 k a b
theorem ior_eq (k : IntKind) (a b : Int) : ior k a b = k.wrap (BitVec.ofInt k.bits a ||| BitVec.ofInt k.bits b).toNat := iorC.2 k a b
noncomputable def ixorC : {f : IntKind → Int → Int → Int // ∀ k a b, f k a b = k.wrap (BitVec.ofInt k.bits a ^^^ BitVec.ofInt k.bits b).toNat} := Classical.choice ⟨⟨fun k a b => k.wrap (BitVec.ofInt k.bits a ^^^ BitVec.ofInt k.bits b).toNat, fun _ _ _ => rfl⟩⟩
noncomputable def ixor (k : IntKind) (a b : Int) : Int := ixorC.1 k a b
theorem ixor_eq (k : IntKind) (a b : Int) : ixor k a b = k.wrap (BitVec.ofInt k.bits a ^^^ BitVec.ofInt k.bits b).toNat := ixorC.2 k a b
noncomputable def iandnC : {f : IntKind → Int → Int → Int // ∀ k a b, f k a b = k.wrap (BitVec.ofInt k.bits a &&& ~~~ BitVec.ofInt k.bits b).toNat} := Classical.choice ⟨⟨fun k a b => k.wrap (BitVec.ofInt k.bits a &&& ~~~ BitVec.ofInt k.bits b).toNat, fun _ _ _ => rfl⟩⟩
noncomputable def iandn (k : IntKind) (a b : Int) : Int := iandnC.1 k a b
theorem iandn_eq (k : IntKind) (a b : Int) : iandn k a b = k.wrap (BitVec.ofInt k.bits a &&& ~~~ BitVec.ofInt k.bits b).toNat := iandnC.2 k a b
def ishl (k : IntKind) (a b : Int) : Int := k.wrap (a * 2 ^ (min b.toNat k.bits))
def ishr (k : IntKind) (a b : Int) : Int := a.fdiv (2 ^ (min b.toNat k.bits))

noncomputable def pbin : BinOp → Value → Value → Option Value
  | .add, .int k a, .int k' b => if k = k' then some (.int k (k.wrap (a + b))) else none
  | .sub, .int k a, .int k' b => if k = k' then some (.int k (k.wrap (a - b))) else none
  | .mul, .int k a, .int k' b => if k = k' then some (.int k (k.wrap (a * b))) else none
  | .and, .int k a, .int k' b => if k = k' then some (.int k (iand k a b)) else none
  | .or, .int k a, .int k' b => if k = k' then some (.int k (ior k a b)) else none
  | .xor, .int k a, .int k' b => if k = k' then some (.int k (ixor k a b)) else none
  | .andNot, .int k a, .int k' b => if k = k' then some (.int k (iandn k a b)) else none
  | .eql, .int k a, .int k' b => if k = k' then some (.bool (a == b)) else none
  | .neq, .int k a, .int k' b => if k = k' then some (.bool (a != b)) else none
  | .lss, .int k a, .int k' b => if k = k' then some (.bool (decide (a < b))) else none
  | .leq, .int k a, .int k' b => if k = k' then some (.bool (decide (a ≤ b))) else none
  | .gtr, .int k a, .int k' b => if k = k' then some (.bool (decide (b < a))) else none
  | .geq, .int k a, .int k' b => if k = k' then some (.bool (decide (b ≤ a))) else none
  | .eql, .string a, .string b => some (.bool (a.toList == b.toList))
  | .neq, .string a, .string b => some (.bool (!(a.toList == b.toList)))
  | .lss, .string a, .string b => some (.bool (Op.bytesLess a.toList b.toList))
  | .gtr, .string a, .string b => some (.bool (!(Op.bytesLess a.toList b.toList || a.toList == b.toList)))
  | .leq, .string a, .string b => some (.bool (Op.bytesLess a.toList b.toList || a.toList == b.toList))
  | .geq, .string a, .string b => some (.bool (!Op.bytesLess a.toList b.toList))
  | .eql, .float k a, .float k' b => if k = k' then some (.bool (k.format.order a b == some .eq)) else none
  | .neq, .float k a, .float k' b => if k = k' then some (.bool (k.format.order a b != some .eq)) else none
  | .lss, .float k a, .float k' b => if k = k' then some (.bool (k.format.order a b == some .lt)) else none
  | .leq, .float k a, .float k' b => if k = k' then some (.bool (k.format.order a b == some .lt || k.format.order a b == some .eq)) else none
  | .gtr, .float k a, .float k' b => if k = k' then some (.bool (k.format.order a b == some .gt)) else none
  | .geq, .float k a, .float k' b => if k = k' then some (.bool (k.format.order a b == some .gt || k.format.order a b == some .eq)) else none
  | _, _, _ => none

theorem run_pbin {P : Program} {w : World} {op : BinOp} {t : TypeId} {x y : Operand} {a b v : Value} (h : pbin op a b = some v) :
    (do eqGuard op t x y a b; binOp op t a b : Sem Value).run P w = .ok v w := by
  unfold pbin at h
  split at h <;> first
    | (split at h
       · rename_i hk; subst hk; cases h; simp [eqGuard, binOp, Op.intArith, Op.intBits, Op.intCmp, Op.floatCmp, iand_eq, ior_eq, ixor_eq, iandn_eq]
       · cases h)
    | (cases h; simp [eqGuard, binOp, Op.stringOp])
    | cases h

theorem os_bin {P : Program} {o : Oper} {ts : List PV} {op : BinOp} {t t' : TypeId} {x y : Operand} {u v r : Value} (ho : o.op = .binOp op t x y t') (hx : aev ts x = .sc u) (hy : aev ts y = .sc v) (hr : pbin op u v = some r) : OpSem P o (vE (.sc r)) ts :=
  os_read rfl rfl fun w0 X S0 M s a w hrel hl _ => by
    rw [ho] at hl
    have h1 := ev_of hrel hl (x := x) (by simp [Op.operands]) hx
    have h2 := ev_of hrel hl (x := y) (by simp [Op.operands]) hy
    simp only [RV] at h1 h2
    refine ⟨r, ?_, by simp [vE, RV]⟩
    have := run_pbin (P := P) (w := w) (t := t) (x := x) (y := y) hr
    simp only [execOp, ho, h1, h2, Sem.run_bind] at this ⊢
    rw [this]
    simp

/-- '/', '%', '<<', '>>': where they do not panic. -/
def pdiv : BinOp → Value → Value → Option (Value × (Int × Int))
  | .quo, .int k a, .int k' b => if k = k' then some (.int k (k.wrap (a.tdiv b)), (b, 0)) else none
  | .rem, .int k a, .int k' b => if k = k' then some (.int k (a.tmod b), (b, 0)) else none
  | .shl, .int k a, .int _ b => some (.int k (ishl k a b), (1, b))
  | .shr, .int k a, .int _ b => some (.int k (ishr k a b), (1, b))
  | _, _, _ => none

theorem run_pdiv {P : Program} {w : World} {op : BinOp} {t : TypeId} {x y : Operand} {a b v : Value} {m n : Int} (h : pdiv op a b = some (v, (m, n))) (hm : m ≠ 0) (hn : 0 ≤ n) :
    (do eqGuard op t x y a b; binOp op t a b : Sem Value).run P w = .ok v w := by
  unfold pdiv at h
  split at h
  · split at h
    · rename_i hk; subst hk; cases h; simp [eqGuard, binOp, Op.intDiv, hm]
    · cases h
  · split at h
    · rename_i hk; subst hk; cases h; simp [eqGuard, binOp, Op.intDiv, hm]
    · cases h
  · cases h; simp [eqGuard, binOp, Op.shift, ishl, ishr, show ¬ n < 0 by omega]
  · cases h; simp [eqGuard, binOp, Op.shift, ishl, ishr, show ¬ n < 0 by omega]
  · cases h

theorem os_div {P : Program} {o : Oper} {ts : List PV} {op : BinOp} {t t' : TypeId} {x y : Operand} {u v r : Value} {m n : Int} (ho : o.op = .binOp op t x y t') (hx : aev ts x = .sc u) (hy : aev ts y = .sc v) (hr : pdiv op u v = some (r, (m, n))) (hm : m ≠ 0) (hn : 0 ≤ n) : OpSem P o (vE (.sc r)) ts :=
  os_read rfl rfl fun w0 X S0 M s a w hrel hl _ => by
    rw [ho] at hl
    have h1 := ev_of hrel hl (x := x) (by simp [Op.operands]) hx
    have h2 := ev_of hrel hl (x := y) (by simp [Op.operands]) hy
    simp only [RV] at h1 h2
    refine ⟨r, ?_, by simp [vE, RV]⟩
    have := run_pdiv (P := P) (w := w) (t := t) (x := x) (y := y) hr hm hn
    simp only [execOp, ho, h1, h2, Sem.run_bind] at this ⊢
    rw [this]
    simp

noncomputable def pun : UnOp → Value → Option Value
  | .not, .bool b => some (.bool !b)
  | .neg, .int k n => some (.int k (k.wrap (0 - n)))
  | .xor, .int k n => some (.int k (ixor k (if k.signed then -1 else k.max) n))
  | .neg, .float k b => some (.float k (Op.negFloat k b))
  | _, _ => none

theorem os_un {P : Program} {o : Oper} {ts : List PV} {op : UnOp} {t : TypeId} {x : Operand} {u r : Value} (ho : o.op = .unOp op t x) (hx : aev ts x = .sc u) (hr : pun op u = some r) : OpSem P o (vE (.sc r)) ts :=
  os_read rfl rfl fun w0 X S0 M s a w hrel hl _ => by
    rw [ho] at hl
    have h1 := ev_of hrel hl (x := x) (by simp [Op.operands]) hx
    simp only [RV] at h1
    refine ⟨r, ?_, by simp [vE, RV]⟩
    simp only [execOp, ho, h1]
    unfold pun at hr
    split at hr <;> first | (cases hr; simp [Op.unary, Op.intArith, Op.intBits, ixor_eq]) | cases hr

theorem os_convInt {P : Program} {o : Oper} {ts : List PV} {src dst : TypeId} {x : Operand} {k k' : IntKind} {n : Int} {d : TypeDesc} (ho : o.op = .convert src dst x) (hs : P.underlying src = some d) (hd : P.underlying dst = some (.int k)) (hx : aev ts x = .sc (.int k' n)) :
    OpSem P o (vE (.sc (.int k (k.wrap n)))) ts :=
  os_read rfl rfl fun w0 X S0 M s a w hrel hl _ => by
    rw [ho] at hl
    have h1 := ev_of hrel hl (x := x) (by simp [Op.operands]) hx
    simp only [RV] at h1
    refine ⟨.int k (k.wrap n), ?_, by simp [vE, RV]⟩
    simp [execOp, ho, h1, convert, run_underlying hs, run_underlying hd, Conv.intToInt]

end Go.Pv
