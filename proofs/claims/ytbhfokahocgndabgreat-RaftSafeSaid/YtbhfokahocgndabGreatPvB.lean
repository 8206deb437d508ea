import Derived.Test.YtbhfokahocgndabGreatPvA
import Derived.Laws.Sem
/-
  The abstract state of a call, its tie to the model's world, the effect of one operation, and a region's operations in whatever order the model draws. Generic over the program.
-/
set_option linter.unusedSimpArgs false
set_option linter.unusedVariables false
namespace Go.Pv
structure St where
 tmps:List PV
 B:Nat→Option (List PV)
 O:Nat→Option (Option (Bool×Nat×List (List PV)))
def cleaf (v:Value):PV:=match v with
 | .slice none 0 0=>.nl
 | v=>.sc v
def cst (v:Value):PV:=match v with
 | .slice none 0 0=>.nl
 | .agg cs=>.ag (cs.toList.map cleaf)
 | v=>.sc v
theorem zq8 {M:Mem}{w:World} (v:Value):RV M w (cleaf v) v:=by
 unfold cleaf
 split
 ·simp only [RV];exact ⟨none,rfl⟩
 ·simp [RV]
theorem zjo {M:Mem}{w:World}:∀ vs:List Value,RVL M w (vs.map cleaf) vs
 | []=>by simp [RVL]
 | v :: vs=>by
  simp only [List.map_cons,RVL]
  exact ⟨v,vs,rfl,zq8 v,zjo vs⟩
def aev (ts:List PV):Operand→PV
 | .tmp t=>ts.getD t .bad
 | .const v=>cst v
 | .global g=>.sc (.pointer (some ⟨g,0,none⟩))
 | .func f=>.cl f []
structure Base where
 st:Nat→Prop
 pb:Nat→Option Nat
 po:Nat→Option Loc
 hb:∀ k b,pb k=some b→9990≤k
 ho:∀ k L,po k=some L→9990≤k
def Base.of (st:Nat→Prop):Base:=⟨st,fun _=>none,fun _=>none,(fun _ _ h=>by cases h),(fun _ _ h=>by cases h)⟩
def Own (w0:World) (X:Nat→Prop) (M:Mem) (b:Nat):Prop:=(w0.heap.size≤b∨X b)∧¬ (M.st b∨M.nw b)
def C00 (w:World) (b:Nat):Prop:=∃ cs T,w.heap[b]?=some (.cells cs T (0,0))
theorem C00.of {w w':World}{b:Nat} (e:w'.heap[b]?=w.heap[b]?) (h:C00 w b):C00 w' b:=by
 obtain ⟨cs,T,h⟩:=h
 exact ⟨cs,T,e.trans h⟩
structure HRel (w0:World) (X:Nat→Prop) (S0:Base) (M:Mem) (B:Nat→Option (List PV)) (O:Nat→Option (Option (Bool×Nat×List (List PV)))) (w:World):Prop where
 os:w.os=w0.os
 tape:w.tape=w0.tape
 out:w.output=w0.output
 size:w0.heap.size≤w.heap.size
 kept:∀ b,b < w0.heap.size→¬ X b→w.heap[b]?=w0.heap[b]?
 stlt:∀ b,M.st b→b < w.heap.size
 stok:∀ b,M.st b→S0.st b∨w0.heap.size≤b∨X b
 box:∀ k ls,B k=some ls→∃ b T cs,M.bx k=some b∧Own w0 X M b∧w.heap[b]?=some (.cells cs T (0,0))∧RVL M w ls cs.toList
 boxKey:∀ k b,M.bx k=some b→∃ ls,B k=some ls
 obj:∀ k fz sz rows,O k=some (some (fz,sz,rows))→∃ L,M.ob k=some L∧L.sz=sz ∧
  ((L.nil=true∧rows=[])∨(L.nil=false∧(fz=true→M.st L.b)∧(fz=false→Own w0 X M L.b)∧∃ cs E,w.heap[L.b]?=some (.cells cs E (0,0))∧cs.size=L.cap * sz∧rows.length≤L.cap∧L.cap≤maxLen∧RVR M.cl w sz rows cs.toList))
 objKey:∀ k L,M.ob k=some L→∃ o,O k=some o
 boxNe:∀ k k' b,M.bx k=some b→M.bx k'=some b→k=k'
 objNe:∀ k k' o o' L L',O k=some (some (false,o))→O k'=some (some (false,o'))→M.ob k=some L→M.ob k'=some L'→L.nil=false→L'.nil=false→L.b=L'.b→k=k'
 boxObj:∀ k k' b o L,M.bx k=some b→O k'=some (some (false,o))→M.ob k'=some L→L.nil=false→b ≠ L.b
 pinB:∀ k b,S0.pb k=some b→M.bx k=some b
 pinO:∀ k L,S0.po k=some L→M.ob k=some L
 nwok:∀ b,M.nw b→b < w.heap.size∧(w0.heap.size≤b∨X b)∧¬ M.st b
 c00:(∀ b,M.st b→S0.st b∨C00 w b)∧∀ b,M.nw b→C00 w b
theorem zkl {S0:Base}{M M':Mem}{w w':World} (h:(∀ b,M.st b→S0.st b∨C00 w b)∧∀ b,M.nw b→C00 w b) (hle:M.Le M' w w') (h1:∀ b,M'.st b→M.st b) (h2:∀ b,M'.nw b→M.nw b):(∀ b,M'.st b→S0.st b∨C00 w' b)∧∀ b,M'.nw b→C00 w' b :=
 ⟨fun b hb=>(h.1 b (h1 b hb)).imp id (C00.of (hle.same b (h1 b hb))),fun b hb=>C00.of (hle.nsame b (h2 b hb)) (h.2 b (h2 b hb))⟩
theorem HRel.snlt {w0:World}{X:Nat→Prop}{S0:Base}{M:Mem}{B:Nat→Option (List PV)}{O:Nat→Option (Option (Bool×Nat×List (List PV)))}{w:World} (h:HRel w0 X S0 M B O w) (b:Nat) (hb:M.st b∨M.nw b):b < w.heap.size:=hb.elim (h.stlt b) fun x=>(h.nwok b x).1
structure Rel (w0:World) (X:Nat→Prop) (S0:Base) (M:Mem) (s:St) (a:Act) (w:World):Prop extends HRel w0 X S0 M s.B s.O w where
 dfr:a.defers=[]
 len:s.tmps.length=a.tmps.size
 tmp:∀ t,RV M w (s.tmps.getD t .bad) (a.tmps.getD t undef)
theorem Rel.eval {w0:World}{X:Nat→Prop}{S0:Base}{M:Mem}{s:St}{a:Act}{w:World} (h:Rel w0 X S0 M s a w) (x:Operand):RV M w (aev s.tmps x) (a.eval x):=by
 cases x with
 | tmp t=>exact h.tmp t
 | const v =>
  simp only [aev,Act.eval,cst]
  split
  ·simp only [RV];exact ⟨none,rfl⟩
  ·simp only [RV];exact ⟨_,rfl,zjo _⟩
  ·simp [RV]
 | global g=>simp [aev,Act.eval,RV]
 | func f=>simp [aev,Act.eval,RV,RVL]
theorem HRel.world {w0 : World} {X : Nat → Prop} {S0 : Base} {M : Mem} {B : Nat → Option (List PV)} {O : Nat → Option (Option (Bool × Nat × List (List PV)))} {w w' : World} (h : HRel w0 X S0 M B O w) (hle : M.Le M w w')
    (ho:w'.os=w.os) (ht:w'.tape=w.tape) (hu:w'.output=w.output) (hz:w.heap.size≤w'.heap.size) (hh:∀ b,b < w.heap.size→w'.heap[b]?=w.heap[b]?):HRel w0 X S0 M B O w' where
 os:=ho.trans h.os
 tape:=ht.trans h.tape
 out:=hu.trans h.out
 size:=Nat.le_trans h.size hz
 kept:=fun b hb hx=>(hh b (Nat.lt_of_lt_of_le hb h.size)).trans (h.kept b hb hx)
 stlt:=fun b hb=>Nat.lt_of_lt_of_le (h.stlt b hb) hz
 stok:=h.stok
 box:=fun k ls hk=>by
  obtain ⟨b,T,cs,h1,h2,h3,h4⟩:=h.box k ls hk
  exact ⟨b,T,cs,h1,h2,(hh b (Array.getElem?_eq_some_iff.1 h3).1).trans h3,RVL.mono hle _ _ h4⟩
 boxKey:=h.boxKey
 obj:=fun k fz sz rows hk=>by
  obtain ⟨L,h1,h2,h3⟩:=h.obj k fz sz rows hk
  refine ⟨L,h1,h2,?_⟩
  rcases h3 with h3 | ⟨h3,h3',h4,cs,E,h5,h6,h7,h8,h9⟩
  ·exact .inl h3
  ·exact .inr ⟨h3,h3',h4,cs,E,(hh L.b (Array.getElem?_eq_some_iff.1 h5).1).trans h5,h6,h7,h8,RVR.mono hle.cl _ _ _ h9⟩
 objKey:=h.objKey
 boxNe:=h.boxNe
 objNe:=h.objNe
 boxObj:=h.boxObj
 pinB:=fun k b hk=>hle.bx k b (h.pinB k b hk)
 pinO:=fun k L hk=>hle.ob k L (h.pinO k L hk)
 nwok:=fun b hb=>⟨Nat.lt_of_lt_of_le (h.nwok b hb).1 hz,(h.nwok b hb).2⟩
 c00:=zkl h.c00 hle (fun _ x=>x) (fun _ x=>x)
theorem Rel.world {w0 : World} {X : Nat → Prop} {S0 : Base} {M : Mem} {s : St} {a : Act} {w w' : World} (h : Rel w0 X S0 M s a w) (hle : M.Le M w w')
    (ho:w'.os=w.os) (ht:w'.tape=w.tape) (hu:w'.output=w.output) (hz:w.heap.size≤w'.heap.size) (hh:∀ b,b < w.heap.size→w'.heap[b]?=w.heap[b]?):Rel w0 X S0 M s a w' :=
 ⟨h.toHRel.world hle ho ht hu hz hh,h.dfr,h.len,fun t=>RV.mono hle _ _ (h.tmp t)⟩
structure Eff where
 val:PV
 rb:List (Nat×List PV)
 ro:List (Nat×Bool×Nat×List (List PV))
 fb:List Nat
 fo:List Nat
 wb:List (Nat×List PV)
 wo:List (Nat×Option (Bool×Nat×List (List PV)))
def Sat (s:St) (E:Eff):Prop :=
 (∀ p ∈ E.rb,s.B p.1=some p.2)∧(∀ p ∈ E.ro,s.O p.1=some (some p.2))∧(∀ k ∈ E.fb,s.B k=none)∧(∀ k ∈ E.fo,s.O k=none)
def setT (ts:List PV):Option Nat→PV→List PV
 | some d,v=>ts.set d v
 | none,_=>ts
def upd {α:Type} (f:Nat→Option α) (l:List (Nat×α)) (k:Nat):Option α :=
 match l.find? (fun p=>p.1 == k) with
 | some p=>some p.2
 | none=>f k
def St.apply (s:St) (dst:Option Nat) (E:Eff):St:=⟨setT s.tmps dst E.val,upd s.B E.wb,upd s.O E.wo⟩
def OpSem (P:Program) (o:Oper) (E:Eff) (ts:List PV):Prop :=
 ∀ (w0:World) (X:Nat→Prop) (S0:Base) (M:Mem) (s:St) (a:Act) (w:World) (Q:Exit→Act→World→Prop) (K:Act→World→Prop),
  Rel w0 X S0 M s a w→(∀ x ∈ o.op.operands.toList,aev s.tmps x=aev ts x)→Sat s E →
  (∀ M' a' w',Rel w0 X S0 M' (s.apply o.dst E) a' w'→K a' w')→o.wp P a w K Q
def zjj (P:Program) (ops:Array Oper) (i:Nat) (o:Oper) (E:Eff) (ts:List PV):Prop :=
 ∀ (w0:World) (X:Nat→Prop) (S0:Base) (M:Mem) (s:St) (a:Act) (w:World) (Q:Exit→Act→World→Prop) (K:Act→World→Prop),
  Rel w0 X S0 M s a w→(∀ t ∈ o.looksAt ops,s.tmps.getD t .bad=ts.getD t .bad)→Sat s E →
  (∀ M' a' w',Rel w0 X S0 M' (s.apply o.dst E) a' w'→K a' w')→wpOp P ops Q i K a w
def skipE:Eff:=⟨.sc undef,[],[],[],[],[],[]⟩
theorem zbq {w0 : World} {X : Nat → Prop} {S0 : Base} {M : Mem} {s : St} {a : Act} {w : World} (h : Rel w0 X S0 M s a w) (dst : Option Nat) {p : PV} {v : Value} (hv : RV M w p v) :
    Rel w0 X S0 M ⟨setT s.tmps dst p,s.B,s.O⟩ (a.put dst v) w:=by
 cases dst with
 | none=>exact ⟨h.toHRel,h.dfr,h.len,h.tmp⟩
 | some d =>
  refine ⟨h.toHRel,h.dfr,by simp [setT,Act.put,h.len],?_⟩
  intro t
  have hl:=h.len
  by_cases e:d=t
  ·subst e
   by_cases hd:d < s.tmps.length
   ·simp [setT,Act.put,List.getD,Array.getD,hd,hl ▸ hd]
    exact hv
   ·have hd':¬ d < a.tmps.size:=hl ▸ hd
    simp [setT,Act.put,List.getD,Array.getD,hd,hd',RV]
  ·have:=h.tmp t
   simpa [setT,Act.put,List.getD,List.getElem?_set_ne e,Array.getD_eq_getD_getElem?,Array.getElem?_setIfInBounds_ne e] using this
theorem zbv {α:Type} (f:Nat→Option α):upd f []=f:=rfl
theorem zil {ops:Array Oper}{o:Oper}{ts ts':List PV} (h:∀ t ∈ o.looksAt ops,ts.getD t .bad=ts'.getD t .bad):∀ x ∈ o.op.operands.toList,aev ts x=aev ts' x:=by
 intro x hx
 cases x with
 | tmp t =>
  refine h t ?_
  unfold Oper.looksAt
  refine List.mem_append_left _ (List.mem_filterMap.2 ⟨.tmp t,hx,rfl⟩)
 | _=>rfl
theorem zqr {P:Program}{ops:Array Oper}{i:Nat}{o:Oper}{E:Eff}{ts:List PV} (ho:ops[i]?=some o) (hg:o.guard=none) (h:OpSem P o E ts):zjj P ops i o E ts:=by
 intro w0 X S0 M s a w Q K hr hl hs hk
 unfold wpOp
 simp only [ho,Region.wanted,hg,if_true]
 exact .inl (h w0 X S0 M s a w Q K hr (zil hl) hs hk)
theorem zt2 {ops : Array Oper} {j t : Nat} {w0 : World} {X : Nat → Prop} {S0 : Base} {M : Mem} {s : St} {a : Act} {w : World} {b : Bool} (h : Rel w0 X S0 M s a w) (hj : (ops[j]?).bind (·.dst) = some t)
    (hv:s.tmps.getD t .bad=.sc (.bool b)):yielded ops a.tmps j=some b:=by
 have hr:=h.tmp t
 rw [hv] at hr
 simp only [RV] at hr
 unfold yielded
 simp only [hj,Option.bind_some]
 rw [Array.getD_eq_getD_getElem?] at hr
 cases hx:a.tmps[t]? with
 | none=>rw [hx] at hr;simp [undef] at hr
 | some v=>rw [hx] at hr;simp only [Option.getD_some] at hr;rw [hr]
theorem zhn {ops:Array Oper}{o:Oper}{j t:Nat}{want:Bool} (hg:o.guard=some (j,want)) (hj:(ops[j]?).bind (·.dst)=some t):t ∈ o.looksAt ops:=by
 unfold Oper.looksAt
 simp [hg,hj]
theorem zjm {P : Program} {ops : Array Oper} {i j t : Nat} {o : Oper} {E : Eff} {ts : List PV} {want : Bool} (ho : ops[i]? = some o) (hg : o.guard = some (j, want)) (hj : (ops[j]?).bind (·.dst) = some t)
    (hv:ts.getD t .bad=.sc (.bool want)) (h:OpSem P o E ts):zjj P ops i o E ts:=by
 intro w0 X S0 M s a w Q K hr hl hs hk
 have hy:=zt2 (j:=j) hr hj ((hl t (zhn hg hj)).trans hv)
 unfold wpOp
 simp only [ho,Region.wanted,hg,hy,beq_self_eq_true,if_true]
 exact .inl (h w0 X S0 M s a w Q K hr (zil hl) hs hk)
theorem zrf {P : Program} {ops : Array Oper} {i j t : Nat} {o : Oper} {ts : List PV} {want : Bool} (ho : ops[i]? = some o) (hg : o.guard = some (j, want)) (hj : (ops[j]?).bind (·.dst) = some t)
    (hv:ts.getD t .bad=.sc (.bool (!want))):zjj P ops i o skipE ts:=by
 intro w0 X S0 M s a w Q K hr hl hs hk
 have hy:=zt2 (j:=j) hr hj ((hl t (zhn hg hj)).trans hv)
 have hne:(some (!want) == some want)=false:=by cases want<;>rfl
 unfold wpOp
 simp only [ho,Region.wanted,hg,hy,hne,Bool.false_eq_true,if_false]
 exact hk M _ _ (zbq hr o.dst (p:=.sc undef) (v:=undef) (by simp [RV]))
theorem zpu {P : Program} {ops : Array Oper} {i j t : Nat} {o : Oper} {ts : List PV} {want : Bool} {a : Array Value} (ho : ops[i]? = some o) (hg : o.guard = some (j, want)) (hj : (ops[j]?).bind (·.dst) = some t)
    (hv:ts.getD t .bad=.sc (.tuple a)):zjj P ops i o skipE ts:=by
 intro w0 X S0 M s a w Q K hr hl hs hk
 have hy:yielded ops a.tmps j=none:=by
  have h:=hr.tmp t
  rw [(hl t (zhn hg hj)).trans hv] at h
  simp only [RV] at h
  unfold yielded
  simp only [hj,Option.bind_some]
  rw [Array.getD_eq_getD_getElem?] at h
  cases hx:a.tmps[t]? with
  | none=>rfl
  | some v=>rw [hx] at h;simp only [Option.getD_some] at h;rw [h]
 have hne:(none == some want)=false:=by cases want<;>rfl
 unfold wpOp
 simp only [ho,Region.wanted,hg,hy,hne,Bool.false_eq_true,if_false]
 exact hk M _ _ (zbq hr o.dst (p:=.sc undef) (v:=undef) (by simp [RV]))
def dstOf (ops:Array Oper) (i:Nat):Option Nat:=(ops[i]?).bind (·.dst)
def sOf (ops:Array Oper) (Es:Nat→Eff) (s0:St) (L:Nat→Bool):Nat→St
 | 0=>s0
 | m+1=>if L m then (sOf ops Es s0 L m).apply (dstOf ops m) (Es m) else sOf ops Es s0 L m
section draw
variable (ops:Array Oper) (Es:Nat→Eff) (s0:St)
theorem zk5 (ts:List PV) (d:Option Nat) (v:PV):(setT ts d v).length=ts.length:=by cases d<;>simp [setT]
theorem zgs (L:Nat→Bool):∀ m,(sOf ops Es s0 L m).tmps.length=s0.tmps.length
 | 0=>rfl
 | m+1=>by
  unfold sOf
  split
  ·simp [St.apply,zk5,zgs L m]
  ·exact zgs L m
theorem zju {ts:List PV}{d:Option Nat}{v:PV}{t:Nat} (h:d ≠ some t):(setT ts d v).getD t .bad=ts.getD t .bad:=by
 cases d with
 | none=>rfl
 | some d =>
  have:d ≠ t:=fun e=>h (by rw [e])
  simp [setT,List.getD,List.getElem?_set_ne this]
theorem zpn {ts ts':List PV}{v:PV}{t:Nat} (h:ts.length=ts'.length):(setT ts (some t) v).getD t .bad=(setT ts' (some t) v).getD t .bad:=by
 simp [setT,List.getD,List.getElem?_set_self']
 by_cases ht:t < ts'.length
 ·simp [ht,h ▸ ht]
 ·simp [ht,h ▸ ht]
theorem z1p (L L':Nat→Bool) (t:Nat):∀ m,(∀ i,i < m→dstOf ops i=some t→L i=L' i)→(sOf ops Es s0 L m).tmps.getD t .bad=(sOf ops Es s0 L' m).tmps.getD t .bad
 | 0,_=>rfl
 | m+1,h=>by
  have ih:=z1p L L' t m (fun i hi=>h i (by omega))
  by_cases hd:dstOf ops m=some t
  ·have hL:=h m (by omega) hd
   unfold sOf
   rw [hL]
   split
   ·simp only [St.apply,hd]
    exact zpn (by rw [zgs,zgs])
   ·exact ih
  ·have e : ∀ L : Nat → Bool, (sOf ops Es s0 L (m + 1)).tmps.getD t .bad = (sOf ops Es s0 L m).tmps.getD t .bad := by
     intro L
     show (if L m then (sOf ops Es s0 L m).apply (dstOf ops m) (Es m) else sOf ops Es s0 L m).tmps.getD t .bad=_
     split
     ·simp only [St.apply];exact zju hd
     ·rfl
   rw [e,e,ih]
theorem zc2 {α:Type}{f:Nat→Option α}{l:List (Nat×α)}{k:Nat} (h:k ∉ l.map (·.1)):upd f l k=f k:=by
 unfold upd
 have:l.find? (fun p=>p.1 == k)=none:=by
  rw [List.find?_eq_none]
  intro p hp
  simp
  exact fun e=>h (List.mem_map.2 ⟨p,hp,e⟩)
 rw [this]
theorem ziq {α:Type}{f g:Nat→Option α}{l:List (Nat×α)}{k:Nat} (h:f k=g k):upd f l k=upd g l k:=by
 unfold upd
 split
 ·rfl
 ·exact h
theorem zuh {α:Type}{f:Nat→Option α}{l l':List (Nat×α)} (h:∀ k,k ∈ l.map (·.1)→k ∉ l'.map (·.1)):upd (upd f l) l'=upd (upd f l') l:=by
 funext k
 by_cases hk:k ∈ l.map (·.1)
 ·rw [zc2 (h k hk)]
  exact ziq (zc2 (h k hk)).symm
 ·rw [zc2 (f:=upd f l') hk]
  exact ziq (zc2 hk)
def Wb (E:Eff):List Nat:=E.wb.map (·.1)
def Wo (E:Eff):List Nat:=E.wo.map (·.1)
def Fb (E:Eff):List Nat:=E.rb.map (·.1)++E.fb++E.wb.map (·.1)
def Fo (E:Eff):List Nat:=E.ro.map (·.1)++E.fo++E.wo.map (·.1)
theorem sOf_B (L L':Nat→Bool) (k:Nat):∀ m,(∀ i,i < m→k ∈ Wb (Es i)→L i=L' i)→(sOf ops Es s0 L m).B k=(sOf ops Es s0 L' m).B k
 | 0,_=>rfl
 | m+1,h=>by
  have ih:=sOf_B L L' k m (fun i hi=>h i (by omega))
  by_cases hd:k ∈ Wb (Es m)
  ·have hL:=h m (by omega) hd
   unfold sOf
   rw [hL]
   split
   ·simp only [St.apply];exact ziq ih
   ·exact ih
  ·have e : ∀ L : Nat → Bool, (sOf ops Es s0 L (m + 1)).B k = (sOf ops Es s0 L m).B k := by
     intro L
     show (if L m then (sOf ops Es s0 L m).apply (dstOf ops m) (Es m) else sOf ops Es s0 L m).B k=_
     split
     ·simp only [St.apply];exact zc2 hd
     ·rfl
   rw [e,e,ih]
theorem sOf_O (L L':Nat→Bool) (k:Nat):∀ m,(∀ i,i < m→k ∈ Wo (Es i)→L i=L' i)→(sOf ops Es s0 L m).O k=(sOf ops Es s0 L' m).O k
 | 0,_=>rfl
 | m+1,h=>by
  have ih:=sOf_O L L' k m (fun i hi=>h i (by omega))
  by_cases hd:k ∈ Wo (Es m)
  ·have hL:=h m (by omega) hd
   unfold sOf
   rw [hL]
   split
   ·simp only [St.apply];exact ziq ih
   ·exact ih
  ·have e : ∀ L : Nat → Bool, (sOf ops Es s0 L (m + 1)).O k = (sOf ops Es s0 L m).O k := by
     intro L
     show (if L m then (sOf ops Es s0 L m).apply (dstOf ops m) (Es m) else sOf ops Es s0 L m).O k=_
     split
     ·simp only [St.apply];exact zc2 hd
     ·rfl
   rw [e,e,ih]
theorem zgl {L L':Nat→Bool}:∀ m,(∀ i,i < m→L i=L' i)→sOf ops Es s0 L m=sOf ops Es s0 L' m
 | 0,_=>rfl
 | m+1,h=>by
  unfold sOf
  rw [h m (by omega),zgl m (fun i hi=>h i (by omega))]
theorem zot (j:Nat):∀ m,j≤m→sOf ops Es s0 (fun i=>decide (i < j)) m=sOf ops Es s0 (fun _=>true) j:=by
 intro m
 induction m with
 | zero => intro h; obtain rfl : j = 0 := by omega
           rfl
 | succ m ih =>
  intro h
  by_cases e:j=m+1
  ·subst e
   exact zgl ops Es s0 _ (fun i hi=>by simp [hi])
  ·have:=ih (by omega)
   conv=>lhs;unfold sOf
   rw [if_neg (by simp;omega)]
   exact this
theorem zv2 {s : St} {di dj : Option Nat} {Ei Ej : Eff} (hd : ∀ t, di = some t → dj ≠ some t) (hb : ∀ k, k ∈ Wb Ei → k ∉ Wb Ej) (ho : ∀ k, k ∈ Wo Ei → k ∉ Wo Ej) :
    (s.apply di Ei).apply dj Ej=(s.apply dj Ej).apply di Ei:=by
 simp only [St.apply,St.mk.injEq]
 refine ⟨?_,zuh hb,zuh ho⟩
 cases di with
 | none=>rfl
 | some x =>
  cases dj with
  | none=>rfl
  | some y =>
   have:x ≠ y:=fun e=>hd x rfl (by rw [e])
   simp only [setT]
   exact List.set_comm _ _ this
def TConf (i j:Nat):Prop:=∃ t,(dstOf ops i=some t∧(dstOf ops j=some t∨∃ o,ops[j]?=some o∧t ∈ o.looksAt ops))∨(dstOf ops j=some t∧∃ o,ops[i]?=some o∧t ∈ o.looksAt ops)
def BConf (i j:Nat):Prop:=∃ k,(k ∈ Wb (Es i)∧k ∈ Fb (Es j))∨(k ∈ Wb (Es j)∧k ∈ Fb (Es i))
def OConf (i j:Nat):Prop:=∃ k,(k ∈ Wo (Es i)∧k ∈ Fo (Es j))∨(k ∈ Wo (Es j)∧k ∈ Fo (Es i))
def zf3 (i j:Nat):Prop:=∃ o,ops[j]?=some o∧∃ e ∈ o.after.toList,Region.binds .any e=true∧e.on=i
inductive Pre:Nat→Nat→Prop where
 | one {i j:Nat}:zf3 ops i j→Pre i j
 | more {i j k:Nat}:Pre i j→zf3 ops j k→Pre i k
variable {ops}
theorem Pre.closed {L:Nat→Bool} (hD:∀ i j,zf3 ops i j→L j=true→L i=true) {i j:Nat} (h:Pre ops i j) (hj:L j=true):L i=true:=by
 induction h with
 | one h=>exact hD _ _ h hj
 | more h e ih=>exact ih (hD _ _ e hj)
theorem Pre.ready {L:Nat→Bool} (hD:∀ i j,zf3 ops i j→L j=true→L i=true) {i j:Nat} (h:Pre ops i j) (hj:∀ i,zf3 ops i j→L i=true):L i=true:=by
 cases h with
 | one h=>exact hj _ h
 | more h e=>exact Pre.closed hD h (hj _ e)
variable (ops)
theorem sOf_add {L : Nat → Bool} {j : Nat} (hj : L j = false) (hc : ∀ i, j < i → L i = true → i < ops.size → ¬ TConf ops j i ∧ ¬ BConf Es j i ∧ ¬ OConf Es j i) :
    ∀ m,j < m→m≤ops.size→sOf ops Es s0 (fun i=>if i=j then true else L i) m=(sOf ops Es s0 L m).apply (dstOf ops j) (Es j):=by
 intro m
 induction m with
 | zero=>intro h;omega
 | succ m ih =>
  intro h hm
  by_cases e:j=m
  ·subst e
   unfold sOf
   simp only [if_true,hj,Bool.false_eq_true,if_false]
   rw [zgl ops Es s0 (L:=fun i=>if i=j then true else L i) (L':=L) j (fun i hi=>by rw [if_neg (by omega)])]
  ·have hne:¬ m=j:=fun x=>e x.symm
   have ih':=ih (by omega) (by omega)
   conv=>lhs;unfold sOf
   simp only [hne,if_false]
   conv=>rhs;unfold sOf
   by_cases hL:L m=true
   ·rw [if_pos hL,if_pos hL,ih']
    obtain ⟨h1,h2,h3⟩:=hc m (by omega) hL (by omega)
    refine zv2 ?_ ?_ ?_
    ·intro t ht ht'
     exact h1 ⟨t,.inl ⟨ht,.inl ht'⟩⟩
    ·intro k hk hk'
     exact h2 ⟨k,.inl ⟨hk,by unfold Fb;unfold Wb at hk';simp [hk']⟩⟩
    ·intro k hk hk'
     exact h3 ⟨k,.inl ⟨hk,by unfold Fo;unfold Wo at hk';simp [hk']⟩⟩
   ·rw [if_neg hL,if_neg hL,ih']
theorem zpw {listed:Array Bool}{j:Nat} (h:j ∈ Region.ready .any ops listed):j < ops.size∧listed.getD j true=false∧∀ i,zf3 ops i j→listed.getD i false=true:=by
 unfold Region.ready at h
 rw [List.mem_filter,List.mem_range] at h
 obtain ⟨h1,h2⟩:=h
 simp only [Bool.and_eq_true,Bool.not_eq_true'] at h2
 refine ⟨h1,h2.1,?_⟩
 rintro i ⟨o,ho,e,he,hb,rfl⟩
 have h3:=h2.2
 rw [ho] at h3
 simp only [Option.map_some,Option.getD_some] at h3
 have h4:=(Array.all_eq_true_iff_forall_mem.1 h3) e (by simpa using he)
 simpa [hb] using h4
theorem z4o {listed:Array Bool}{j:Nat} (h1:j < ops.size) (h2:listed.getD j true=false) (h3:∀ i,zf3 ops i j→listed.getD i false=true):j ∈ Region.ready .any ops listed:=by
 unfold Region.ready
 rw [List.mem_filter,List.mem_range]
 refine ⟨h1,?_⟩
 simp only [h2,Bool.not_false,Bool.true_and,Array.getElem?_eq_getElem h1,Option.map_some,Option.getD_some]
 rw [Array.all_eq_true_iff_forall_mem]
 intro e he
 cases hb:Region.binds .any e with
 | false=>simp
 | true=>simpa using h3 e.on ⟨ops[j],by simp [h1],e,by simpa using he,hb,rfl⟩
def openN (listed:Array Bool):Nat:=((List.range ops.size).filter fun i=>!listed.getD i false).length
theorem z1a {p q:Nat→Bool} (l:List Nat) (j:Nat) (hj:j ∈ l) (hp:p j=true) (hq:q j=false) (hpq:∀ i,q i=true→p i=true):(l.filter q).length < (l.filter p).length:=by
 induction l with
 | nil=>simp at hj
 | cons x l ih =>
  have hle:(l.filter q).length≤(l.filter p).length:=by
   clear ih hj
   induction l with
   | nil=>simp
   | cons y l ih2 =>
    simp only [List.filter_cons]
    cases hy:q y with
    | false=>cases hy':p y<;>simp<;>omega
    | true=>simp [hpq y hy];omega
  simp only [List.filter_cons]
  by_cases e:j=x
  ·subst e
   simp [hp,hq];omega
  ·have:=ih (by simpa [e] using hj)
   cases hx:q x with
   | false=>cases hx':p x<;>simp<;>omega
   | true=>simp [hpq x hx];omega
theorem z32 {P : Program} {Q : Exit → Act → World → Prop} {w0 : World} {X : Nat → Prop} {S0 : Base} {id : Nat} (hm : P.follows .mixedOrders = true)
    (hback:∀ i j,zf3 ops i j→i < j)
    (hstep:∀ j o,ops[j]?=some o→zjj P ops j o (Es j) (sOf ops Es s0 (fun _=>true) j).tmps∧Sat (sOf ops Es s0 (fun _=>true) j) (Es j))
    (hcf:∀ i j,i < j→j < ops.size→(TConf ops i j∨BConf Es i j∨OConf Es i j)→Pre ops i j)
    (hq:∀ M a w,Rel w0 X S0 M (sOf ops Es s0 (fun _=>true) ops.size) a w→Q .normal a w)
    {M:Mem}{a:Act}{w:World} (hr:Rel w0 X S0 M s0 a w):(Code.region id ops true).wp P Q a w:=by
 refine wp_region_any hm ?_
 have key : ∀ (fuel : Nat) (listed : Array Bool) (a : Act) (w : World), listed.size = ops.size → openN ops listed ≤ fuel →
     (∀ i j,zf3 ops i j→listed.getD j false=true→listed.getD i false=true) →
     (∃ M,Rel w0 X S0 M (sOf ops Es s0 (fun i=>listed.getD i false) ops.size) a w)→wpAny P .any ops Q fuel listed a w:=by
  intro fuel
  induction fuel with
  | zero =>
   intro listed a w hsz hopen hD ⟨M,hr⟩
   have hall:∀ i,i < ops.size→listed.getD i false=true:=by
    intro i hi
    cases hx:listed.getD i false with
    | true=>rfl
    | false =>
     have:i ∈ (List.range ops.size).filter fun i=>!listed.getD i false:=by
      rw [List.mem_filter,List.mem_range];exact ⟨hi,by simp [hx]⟩
     have:=List.length_pos_of_mem this
     unfold openN at hopen;omega
   refine ⟨?_,hq M a w ?_⟩
   ·rw [List.eq_nil_iff_forall_not_mem]
    intro j hj
    obtain ⟨h1,h2,_⟩:=zpw ops hj
    have h3:=hall j h1
    simp only [Array.getD_eq_getD_getElem?] at h2 h3
    rw [Array.getElem?_eq_getElem (by omega)] at h2 h3
    simp at h2 h3
    rw [h2] at h3;cases h3
   ·rw [zgl ops Es s0 (L:=fun i=>listed.getD i false) (L':=fun _=>true) _ (fun i hi=>hall i hi)] at hr
    exact hr
  | succ fuel ih =>
   intro listed a w hsz hopen hD ⟨M,hr⟩
   refine ⟨?_,?_⟩
   ·intro hnil
    have hall:∀ i,i < ops.size→listed.getD i false=true:=by
     intro i
     induction i using Nat.strongRecOn with
     | _ i ihi =>
      intro hi
      cases hx:listed.getD i false with
      | true=>rfl
      | false =>
       have hx':listed.getD i true=false:=by
        simp only [Array.getD_eq_getD_getElem?] at hx ⊢
        rw [Array.getElem?_eq_getElem (by omega)] at hx ⊢
        simpa using hx
       have:=z4o ops hi hx' (fun k hk=>ihi k (hback k i hk) (by have:=hback k i hk;omega))
       rw [hnil] at this
       simp at this
    refine hq M a w ?_
    rw [zgl ops Es s0 (L:=fun i=>listed.getD i false) (L':=fun _=>true) _ (fun i hi=>hall i hi)] at hr
    exact hr
   ·intro j hj
    obtain ⟨hjn,hj2,hj3⟩:=zpw ops hj
    have hjf:listed.getD j false=false:=by
     simp only [Array.getD_eq_getD_getElem?] at hj2 ⊢
     rw [Array.getElem?_eq_getElem (by omega)] at hj2 ⊢
     simpa using hj2
    -- who stands ahead of j and touches what j touches is listed;who stands behind is not
    have hsame:∀ i,i < ops.size→i ≠ j→(TConf ops i j∨TConf ops j i∨BConf Es i j∨BConf Es j i∨OConf Es i j∨OConf Es j i)→listed.getD i false=decide (i < j):=by
     intro i hi hne hconf
     rcases Nat.lt_or_ge i j with hlt | hge
     ·have hpre : Pre ops i j := by
        refine hcf i j hlt hjn ?_
        rcases hconf with h | h | h | h | h | h
        ·exact .inl h
        ·exact .inl (by obtain ⟨t,h⟩:=h;exact ⟨t,by rcases h with ⟨x,y | y⟩ | ⟨x,y⟩;exact .inl ⟨y,.inl x⟩;exact .inr ⟨x,y⟩;exact .inl ⟨x,.inr y⟩⟩)
        ·exact .inr (.inl h)
        ·exact .inr (.inl (by obtain ⟨k,h⟩:=h;exact ⟨k,h.symm⟩))
        ·exact .inr (.inr h)
        ·exact .inr (.inr (by obtain ⟨k,h⟩:=h;exact ⟨k,h.symm⟩))
      rw [Pre.ready (L:=fun i=>listed.getD i false) hD hpre hj3]
      simp [hlt]
     ·have hlt:j < i:=by omega
      have hpre:Pre ops j i:=by
       refine hcf j i hlt hi ?_
       rcases hconf with h | h | h | h | h | h
       ·exact .inl (by obtain ⟨t,h⟩:=h;exact ⟨t,by rcases h with ⟨x,y | y⟩ | ⟨x,y⟩;exact .inl ⟨y,.inl x⟩;exact .inr ⟨x,y⟩;exact .inl ⟨x,.inr y⟩⟩)
       ·exact .inl h
       ·exact .inr (.inl (by obtain ⟨k,h⟩:=h;exact ⟨k,h.symm⟩))
       ·exact .inr (.inl h)
       ·exact .inr (.inr (by obtain ⟨k,h⟩:=h;exact ⟨k,h.symm⟩))
       ·exact .inr (.inr h)
      cases hx:listed.getD i false with
      | false=>simp;omega
      | true =>
       have:=Pre.closed (L:=fun i=>listed.getD i false) hD hpre hx
       rw [hjf] at this;cases this
    obtain ⟨h1,h2⟩:=hstep j ops[j] (by simp [hjn])
    refine h1 w0 X S0 M _ a w Q _ hr ?_ ?_ ?_
    ·intro t ht
     rw [← zot ops Es s0 j ops.size (Nat.le_of_lt hjn)]
     refine z1p ops Es s0 _ _ t _ ?_
     intro i hi hd
     by_cases e:i=j
     ·subst e;simp [hjf]
     ·exact hsame i hi e (.inl ⟨t,.inl ⟨hd,.inr ⟨ops[j],by simp [hjn],ht⟩⟩⟩)
    ·have hB : ∀ k, k ∈ Fb (Es j) → (sOf ops Es s0 (fun i => listed.getD i false) ops.size).B k = (sOf ops Es s0 (fun _ => true) j).B k := by
       intro k hk
       rw [← zot ops Es s0 j ops.size (Nat.le_of_lt hjn)]
       refine sOf_B ops Es s0 _ _ k _ ?_
       intro i hi hw
       by_cases e:i=j
       ·subst e;simp [hjf]
       ·exact hsame i hi e (.inr (.inr (.inl ⟨k,.inl ⟨hw,hk⟩⟩)))
     have hO:∀ k,k ∈ Fo (Es j)→(sOf ops Es s0 (fun i=>listed.getD i false) ops.size).O k=(sOf ops Es s0 (fun _=>true) j).O k:=by
      intro k hk
      rw [← zot ops Es s0 j ops.size (Nat.le_of_lt hjn)]
      refine sOf_O ops Es s0 _ _ k _ ?_
      intro i hi hw
      by_cases e:i=j
      ·subst e;simp [hjf]
      ·exact hsame i hi e (.inr (.inr (.inr (.inr (.inl ⟨k,.inl ⟨hw,hk⟩⟩)))))
     obtain ⟨s1,s2,s3,s4⟩:=h2
     refine ⟨fun p hp=>?_,fun p hp=>?_,fun k hk=>?_,fun k hk=>?_⟩
     ·rw [hB p.1 (by unfold Fb;simp;exact .inl ⟨_,hp⟩)];exact s1 p hp
     ·rw [hO p.1 (by unfold Fo;exact List.mem_append_left _ (List.mem_append_left _ (List.mem_map.2 ⟨p,hp,rfl⟩)))];exact s2 p hp
     ·rw [hB k (by unfold Fb;simp [hk])];exact s3 k hk
     ·rw [hO k (by unfold Fo;simp [hk])];exact s4 k hk
    ·intro M' a' w' hr'
     have hset:∀ i,(listed.setIfInBounds j true).getD i false=if i=j then true else listed.getD i false:=by
      intro i
      by_cases e:i=j
      ·subst e
       simp [Array.getD_eq_getD_getElem?,hsz,hjn]
      ·rw [if_neg e]
       simp [Array.getD_eq_getD_getElem?,Array.getElem?_setIfInBounds_ne (fun x=>e x.symm)]
     refine ih _ a' w' (by simp [hsz]) ?_ ?_ ⟨M',?_⟩
     ·have : openN ops (listed.setIfInBounds j true) < openN ops listed := by
        unfold openN
        refine z1a _ j (List.mem_range.2 hjn) (by simp [hjf]) (by simp [hset]) ?_
        intro i hi
        rw [hset] at hi
        by_cases e:i=j
        ·simp [e] at hi
        ·simpa [e] using hi
      omega
     ·intro i k he hk
      rw [hset] at hk ⊢
      by_cases e:i=j
      ·simp [e]
      ·rw [if_neg e]
       by_cases e':k=j
       ·subst e';exact hj3 i he
       ·rw [if_neg e'] at hk;exact hD i k he hk
     ·have hadd := sOf_add ops Es s0 (L := fun i => listed.getD i false) (j := j) hjf (by
        intro i hlt hL hi
        have hno:∀ (hc:TConf ops j i∨BConf Es j i∨OConf Es j i),False:=by
         intro hc
         have:=hsame i hi (by omega) (by rcases hc with h | h | h;exact .inr (.inl h);exact .inr (.inr (.inr (.inl h)));exact .inr (.inr (.inr (.inr (.inr h)))))
         rw [hL] at this
         simp at this
         omega
        exact ⟨fun h=>hno (.inl h),fun h=>hno (.inr (.inl h)),fun h=>hno (.inr (.inr h))⟩) ops.size hjn (Nat.le_refl _)
      have hfun:(fun i=>(listed.setIfInBounds j true).getD i false)=(fun i=>if i=j then true else listed.getD i false):=funext hset
      rw [hfun,hadd]
      have hdst:ops[j].dst=dstOf ops j:=by simp [dstOf,hjn]
      rw [hdst] at hr'
      exact hr'
 refine key ops.size _ a _ (by simp) ?_ ?_ ⟨M,?_⟩
 ·unfold openN
  exact Nat.le_trans (List.length_filter_le _ _) (by simp)
 ·intro i j _ hj
  simp only [Array.getD_eq_getD_getElem?,Array.getElem?_replicate] at hj
  split at hj<;>simp at hj
 ·have h0 : sOf ops Es s0 (fun i => (Array.replicate ops.size false).getD i false) ops.size = s0 := by
    have:∀ m,sOf ops Es s0 (fun i=>(Array.replicate ops.size false).getD i false) m=s0:=by
     intro m
     induction m with
     | zero=>rfl
     | succ m ih =>
      unfold sOf
      rw [if_neg (by simp only [Array.getD_eq_getD_getElem?,Array.getElem?_replicate];split<;>simp),ih]
    exact this _
  rw [h0]
  have hle:M.Le M w { w with drawn:=w.drawn+1 }:=⟨fun _ h=>h,fun _ _ h=>h,fun _ _ h=>h,fun _ _=>rfl,fun _ h=>h,fun _ _=>rfl⟩
  exact hr.world hle rfl rfl rfl (Nat.le_refl _) (fun _ _=>rfl)
end draw
def vE (p:PV):Eff:=⟨p,[],[],[],[],[],[]⟩
theorem zap {P : Program} {o : Oper} {E : Eff} {ts : List PV} (hwb : E.wb = []) (hwo : E.wo = [])
    (h:∀ (w0:World) (X:Nat→Prop) (S0:Base) (M:Mem) (s:St) (a:Act) (w:World),Rel w0 X S0 M s a w→(∀ x ∈ o.op.operands.toList,aev s.tmps x=aev ts x)→Sat s E→∃ v,(execOp a.eval o).run P w=.ok (.value v) w∧RV M w E.val v):OpSem P o E ts:=by
 intro w0 X S0 M s a w Q K hr hl hs hk
 obtain ⟨v,h1,h2⟩:=h w0 X S0 M s a w hr hl hs
 unfold Oper.wp
 rw [h1,Oper.upon_value]
 refine hk M _ _ ?_
 have:=zbq hr o.dst h2
 simpa [St.apply,hwb,hwo,zbv] using this
theorem os_move {P:Program}{o:Oper}{ts:List PV}{x:Operand} (ho:o.op=.move x):OpSem P o (vE (aev ts x)) ts :=
 zap rfl rfl fun w0 X S0 M s a w hr hl _=>⟨a.eval x,by simp [execOp,ho],by have:=hr.eval x;rwa [hl x (by simp [ho,Op.operands])] at this⟩
theorem z0z {P:Program}{o:Oper}{ts:List PV}{x:Operand} (ho:o.op=.assign x):OpSem P o (vE (aev ts x)) ts :=
 zap rfl rfl fun w0 X S0 M s a w hr hl _=>⟨a.eval x,by simp [execOp,ho],by have:=hr.eval x;rwa [hl x (by simp [ho,Op.operands])] at this⟩
theorem ev_of {w0:World}{X:Nat→Prop}{S0:Base}{M:Mem}{s:St}{a:Act}{w:World}{ts:List PV}{x:Operand}{p:PV}{xs:List Operand} (hr:Rel w0 X S0 M s a w) (hl:∀ x ∈ xs,aev s.tmps x=aev ts x) (hx:x ∈ xs) (hp:aev ts x=p):RV M w p (a.eval x):=by
 have:=hr.eval x
 rwa [hl x hx,hp] at this
theorem os_pick {P:Program}{o:Oper}{ts:List PV}{c x y:Operand}{b:Bool} (ho:o.op=.pick c x y) (hc:aev ts c=.sc (.bool b)):OpSem P o (vE (if b then aev ts x else aev ts y)) ts :=
 zap rfl rfl fun w0 X S0 M s a w hr hl _=>by
  rw [ho] at hl
  have h1:=ev_of hr hl (x:=c) (by simp [Op.operands]) hc
  simp only [RV] at h1
  have h2:=ev_of hr hl (x:=x) (by simp [Op.operands]) rfl
  have h3:=ev_of hr hl (x:=y) (by simp [Op.operands]) rfl
  refine ⟨if b then a.eval x else a.eval y,?_,?_⟩
  ·cases b<;>simp [execOp,ho,h1,asBool]
  ·cases b
   ·simpa [vE] using h3
   ·simpa [vE] using h2
noncomputable def iandC:{f:IntKind→Int→Int→Int // ∀ k a b,f k a b=k.wrap (BitVec.ofInt k.bits a &&& BitVec.ofInt k.bits b).toNat}:=Classical.choice ⟨⟨fun k a b=>k.wrap (BitVec.ofInt k.bits a &&& BitVec.ofInt k.bits b).toNat,fun _ _ _=>rfl⟩⟩
noncomputable def iand (k:IntKind) (a b:Int):Int:=iandC.1 k a b
theorem zfs (k:IntKind) (a b:Int):iand k a b=k.wrap (BitVec.ofInt k.bits a &&& BitVec.ofInt k.bits b).toNat:=iandC.2 k a b
noncomputable def iorC:{f:IntKind→Int→Int→Int // ∀ k a b,f k a b=k.wrap (BitVec.ofInt k.bits a ||| BitVec.ofInt k.bits b).toNat}:=Classical.choice ⟨⟨fun k a b=>k.wrap (BitVec.ofInt k.bits a ||| BitVec.ofInt k.bits b).toNat,fun _ _ _=>rfl⟩⟩
noncomputable def ior (k:IntKind) (a b:Int):Int:=iorC.1 k a b
theorem zhx (k:IntKind) (a b:Int):ior k a b=k.wrap (BitVec.ofInt k.bits a ||| BitVec.ofInt k.bits b).toNat:=iorC.2 k a b
noncomputable def ixorC:{f:IntKind→Int→Int→Int // ∀ k a b,f k a b=k.wrap (BitVec.ofInt k.bits a ^^^ BitVec.ofInt k.bits b).toNat}:=Classical.choice ⟨⟨fun k a b=>k.wrap (BitVec.ofInt k.bits a ^^^ BitVec.ofInt k.bits b).toNat,fun _ _ _=>rfl⟩⟩
noncomputable def ixor (k:IntKind) (a b:Int):Int:=ixorC.1 k a b
theorem z1u (k:IntKind) (a b:Int):ixor k a b=k.wrap (BitVec.ofInt k.bits a ^^^ BitVec.ofInt k.bits b).toNat:=ixorC.2 k a b
noncomputable def iandnC:{f:IntKind→Int→Int→Int // ∀ k a b,f k a b=k.wrap (BitVec.ofInt k.bits a &&& ~~~ BitVec.ofInt k.bits b).toNat}:=Classical.choice ⟨⟨fun k a b=>k.wrap (BitVec.ofInt k.bits a &&& ~~~ BitVec.ofInt k.bits b).toNat,fun _ _ _=>rfl⟩⟩
noncomputable def iandn (k:IntKind) (a b:Int):Int:=iandnC.1 k a b
theorem zok (k:IntKind) (a b:Int):iandn k a b=k.wrap (BitVec.ofInt k.bits a &&& ~~~ BitVec.ofInt k.bits b).toNat:=iandnC.2 k a b
def ishl (k:IntKind) (a b:Int):Int:=k.wrap (a * 2 ^ (min b.toNat k.bits))
def ishr (k:IntKind) (a b:Int):Int:=a.fdiv (2 ^ (min b.toNat k.bits))
noncomputable def pbin:BinOp→Value→Value→Option Value
 | .add,.int k a,.int k' b=>if k=k' then some (.int k (k.wrap (a+b))) else none
 | .sub,.int k a,.int k' b=>if k=k' then some (.int k (k.wrap (a - b))) else none
 | .mul,.int k a,.int k' b=>if k=k' then some (.int k (k.wrap (a * b))) else none
 | .and,.int k a,.int k' b=>if k=k' then some (.int k (iand k a b)) else none
 | .or,.int k a,.int k' b=>if k=k' then some (.int k (ior k a b)) else none
 | .xor,.int k a,.int k' b=>if k=k' then some (.int k (ixor k a b)) else none
 | .andNot,.int k a,.int k' b=>if k=k' then some (.int k (iandn k a b)) else none
 | .eql,.int k a,.int k' b=>if k=k' then some (.bool (a == b)) else none
 | .neq,.int k a,.int k' b=>if k=k' then some (.bool (a != b)) else none
 | .lss,.int k a,.int k' b=>if k=k' then some (.bool (decide (a < b))) else none
 | .leq,.int k a,.int k' b=>if k=k' then some (.bool (decide (a≤b))) else none
 | .gtr,.int k a,.int k' b=>if k=k' then some (.bool (decide (b < a))) else none
 | .geq,.int k a,.int k' b=>if k=k' then some (.bool (decide (b≤a))) else none
 | .eql,.string a,.string b=>some (.bool (a.toList == b.toList))
 | .neq,.string a,.string b=>some (.bool (!(a.toList == b.toList)))
 | .lss,.string a,.string b=>some (.bool (Op.bytesLess a.toList b.toList))
 | .gtr,.string a,.string b=>some (.bool (!(Op.bytesLess a.toList b.toList || a.toList == b.toList)))
 | .leq,.string a,.string b=>some (.bool (Op.bytesLess a.toList b.toList || a.toList == b.toList))
 | .geq,.string a,.string b=>some (.bool (!Op.bytesLess a.toList b.toList))
 | .eql,.float k a,.float k' b=>if k=k' then some (.bool (k.format.order a b == some .eq)) else none
 | .neq,.float k a,.float k' b=>if k=k' then some (.bool (k.format.order a b != some .eq)) else none
 | .lss,.float k a,.float k' b=>if k=k' then some (.bool (k.format.order a b == some .lt)) else none
 | .leq,.float k a,.float k' b=>if k=k' then some (.bool (k.format.order a b == some .lt || k.format.order a b == some .eq)) else none
 | .gtr,.float k a,.float k' b=>if k=k' then some (.bool (k.format.order a b == some .gt)) else none
 | .geq,.float k a,.float k' b=>if k=k' then some (.bool (k.format.order a b == some .gt || k.format.order a b == some .eq)) else none
 | _,_,_=>none
theorem ztm {P : Program} {w : World} {op : BinOp} {t : TypeId} {x y : Operand} {a b v : Value} (h : pbin op a b = some v) :
    (do eqGuard op t x y a b;binOp op t a b:Sem Value).run P w=.ok v w:=by
 unfold pbin at h
 split at h<;>first
  | (split at h
     ·rename_i hk;subst hk;cases h;simp [eqGuard,binOp,Op.intArith,Op.intBits,Op.intCmp,Op.floatCmp,zfs,zhx,z1u,zok]
     ·cases h)
  | (cases h;simp [eqGuard,binOp,Op.stringOp])
  | cases h
theorem os_bin {P:Program}{o:Oper}{ts:List PV}{op:BinOp}{t t':TypeId}{x y:Operand}{u v r:Value} (ho:o.op=.binOp op t x y t') (hx:aev ts x=.sc u) (hy:aev ts y=.sc v) (hr:pbin op u v=some r):OpSem P o (vE (.sc r)) ts :=
 zap rfl rfl fun w0 X S0 M s a w hrel hl _=>by
  rw [ho] at hl
  have h1:=ev_of hrel hl (x:=x) (by simp [Op.operands]) hx
  have h2:=ev_of hrel hl (x:=y) (by simp [Op.operands]) hy
  simp only [RV] at h1 h2
  refine ⟨r,?_,by simp [vE,RV]⟩
  have:=ztm (P:=P) (w:=w) (t:=t) (x:=x) (y:=y) hr
  simp only [execOp,ho,h1,h2,Sem.run_bind] at this ⊢
  rw [this]
  simp
def pdiv:BinOp→Value→Value→Option (Value×(Int×Int))
 | .quo,.int k a,.int k' b=>if k=k' then some (.int k (k.wrap (a.tdiv b)),(b,0)) else none
 | .rem,.int k a,.int k' b=>if k=k' then some (.int k (a.tmod b),(b,0)) else none
 | .shl,.int k a,.int _ b=>some (.int k (ishl k a b),(1,b))
 | .shr,.int k a,.int _ b=>some (.int k (ishr k a b),(1,b))
 | _,_,_=>none
theorem z21 {P : Program} {w : World} {op : BinOp} {t : TypeId} {x y : Operand} {a b v : Value} {m n : Int} (h : pdiv op a b = some (v, (m, n))) (hm : m ≠ 0) (hn : 0 ≤ n) :
    (do eqGuard op t x y a b;binOp op t a b:Sem Value).run P w=.ok v w:=by
 unfold pdiv at h
 split at h
 ·split at h
  ·rename_i hk;subst hk;cases h;simp [eqGuard,binOp,Op.intDiv,hm]
  ·cases h
 ·split at h
  ·rename_i hk;subst hk;cases h;simp [eqGuard,binOp,Op.intDiv,hm]
  ·cases h
 ·cases h;simp [eqGuard,binOp,Op.shift,ishl,ishr,show ¬ n < 0 by omega]
 ·cases h;simp [eqGuard,binOp,Op.shift,ishl,ishr,show ¬ n < 0 by omega]
 ·cases h
theorem os_div {P:Program}{o:Oper}{ts:List PV}{op:BinOp}{t t':TypeId}{x y:Operand}{u v r:Value}{m n:Int} (ho:o.op=.binOp op t x y t') (hx:aev ts x=.sc u) (hy:aev ts y=.sc v) (hr:pdiv op u v=some (r,(m,n))) (hm:m ≠ 0) (hn:0≤n):OpSem P o (vE (.sc r)) ts :=
 zap rfl rfl fun w0 X S0 M s a w hrel hl _=>by
  rw [ho] at hl
  have h1:=ev_of hrel hl (x:=x) (by simp [Op.operands]) hx
  have h2:=ev_of hrel hl (x:=y) (by simp [Op.operands]) hy
  simp only [RV] at h1 h2
  refine ⟨r,?_,by simp [vE,RV]⟩
  have:=z21 (P:=P) (w:=w) (t:=t) (x:=x) (y:=y) hr hm hn
  simp only [execOp,ho,h1,h2,Sem.run_bind] at this ⊢
  rw [this]
  simp
noncomputable def pun:UnOp→Value→Option Value
 | .not,.bool b=>some (.bool !b)
 | .neg,.int k n=>some (.int k (k.wrap (0 - n)))
 | .xor,.int k n=>some (.int k (ixor k (if k.signed then -1 else k.max) n))
 | .neg,.float k b=>some (.float k (Op.negFloat k b))
 | _,_=>none
theorem os_un {P:Program}{o:Oper}{ts:List PV}{op:UnOp}{t:TypeId}{x:Operand}{u r:Value} (ho:o.op=.unOp op t x) (hx:aev ts x=.sc u) (hr:pun op u=some r):OpSem P o (vE (.sc r)) ts :=
 zap rfl rfl fun w0 X S0 M s a w hrel hl _=>by
  rw [ho] at hl
  have h1:=ev_of hrel hl (x:=x) (by simp [Op.operands]) hx
  simp only [RV] at h1
  refine ⟨r,?_,by simp [vE,RV]⟩
  simp only [execOp,ho,h1]
  unfold pun at hr
  split at hr<;>first | (cases hr;simp [Op.unary,Op.intArith,Op.intBits,z1u]) | cases hr
theorem zxa {P : Program} {o : Oper} {ts : List PV} {src dst : TypeId} {x : Operand} {k k' : IntKind} {n : Int} {d : TypeDesc} (ho : o.op = .convert src dst x) (hs : P.underlying src = some d) (hd : P.underlying dst = some (.int k)) (hx : aev ts x = .sc (.int k' n)) :
    OpSem P o (vE (.sc (.int k (k.wrap n)))) ts :=
 zap rfl rfl fun w0 X S0 M s a w hrel hl _=>by
  rw [ho] at hl
  have h1:=ev_of hrel hl (x:=x) (by simp [Op.operands]) hx
  simp only [RV] at h1
  refine ⟨.int k (k.wrap n),?_,by simp [vE,RV]⟩
  simp [execOp,ho,h1,convert,run_underlying hs,run_underlying hd,Conv.intToInt]
theorem zx0 {P : Program} {o : Oper} {ts : List PV} {src dst : TypeId} {x : Operand} {k : FloatKind} {k' : IntKind} {n : Int} {d : TypeDesc} (ho : o.op = .convert src dst x) (hs : P.underlying src = some d) (hd : P.underlying dst = some (.float k)) (hx : aev ts x = .sc (.int k' n)) :
    OpSem P o (vE (.sc (.float k (k.nearest n)))) ts :=
 zap rfl rfl fun w0 X S0 M s a w hrel hl _=>by
  rw [ho] at hl
  have h1:=ev_of hrel hl (x:=x) (by simp [Op.operands]) hx
  simp only [RV] at h1
  refine ⟨.float k (k.nearest n),?_,by simp [vE,RV]⟩
  simp [execOp,ho,h1,convert,run_underlying hs,run_underlying hd,Conv.intToFloat]
abbrev BMap:=Nat→Option (List PV)
abbrev OMap:=Nat→Option (Option (Bool×Nat×List (List PV)))
section
variable {w0:World}{X:Nat→Prop}{S0:Base}{M:Mem}{B:BMap}{O:OMap}{w:World}
theorem zaz {α:Type} (f:Nat→Option α) (k:Nat) (v:α) (j:Nat):upd f [(k,v)] j=if j=k then some v else f j:=by
 unfold upd
 by_cases h:j=k
 ·simp [h]
 ·have:¬ k=j:=fun e=>h e.symm
  simp [this,h]
theorem HRel.box' (h:HRel w0 X S0 M B O w) {k b:Nat}{ls:List PV} (hk:B k=some ls) (hb:M.bx k=some b):Own w0 X M b∧∃ T cs,w.heap[b]?=some (.cells cs T (0,0))∧RVL M w ls cs.toList:=by
 obtain ⟨b',T,cs,h1,h2,h3,h4⟩:=h.box k ls hk
 rw [hb] at h1;cases h1
 exact ⟨h2,T,cs,h3,h4⟩
theorem HRel.setBox (h : HRel w0 X S0 M B O w) {k b : Nat} {T : TypeId} {cs cs' : Array Value} {ls ls' : List PV} (hk : B k = some ls) (hb : M.bx k = some b) (hh : w.heap[b]? = some (.cells cs T (0, 0))) (hr : RVL M w ls' cs'.toList) :
    HRel w0 X S0 M (upd B [(k,ls')]) O (w.setRow b cs')∧M.Le M w (w.setRow b cs'):=by
 obtain ⟨hown,_⟩:=h.box' hk hb
 have hne:∀ x,M.st x→x ≠ b:=fun x hx e=>hown.2 (.inl (e ▸ hx))
 have hnf:∀ x,M.nw x→x ≠ b:=fun x hx e=>hown.2 (.inr (e ▸ hx))
 have hle:M.Le M w (w.setRow b cs'):=⟨fun _ h=>h,fun _ _ h=>h,fun _ _ h=>h,fun x hx=>setRow_other w b x cs' (hne x hx),fun _ h=>h,fun x hx=>setRow_other w b x cs' (hnf x hx)⟩
 refine ⟨{ os:=h.os,tape:=h.tape,out:=h.out,size:=by simpa using h.size,kept:=?_,stlt:=by simpa using h.stlt,stok:=h.stok,box:=?_,boxKey:=?_,obj:=?_,objKey:=h.objKey,boxNe:=h.boxNe,objNe:=h.objNe,boxObj:=h.boxObj,pinB:=fun k b hk=>hle.bx k b (h.pinB k b hk),pinO:=fun k L hk=>hle.ob k L (h.pinO k L hk),nwok:=by simpa using h.nwok,c00:=zkl h.c00 hle (fun _ x=>x) (fun _ x=>x) },hle⟩
 ·intro x hx hX
  have:x ≠ b:=by
   intro e;subst e
   rcases hown.1 with h1 | h1
   ·omega
   ·exact hX h1
  rw [setRow_other w b x cs' this]
  exact h.kept x hx hX
 ·intro j lj hj
  rw [zaz] at hj
  by_cases e:j=k
  ·subst e
   rw [if_pos rfl] at hj;cases hj
   exact ⟨b,T,cs',hb,hown,setRow_heap w b cs cs' T (0,0) hh,RVL.mono hle _ _ hr⟩
  ·rw [if_neg e] at hj
   obtain ⟨b',T',cs'',h1,h2,h3,h4⟩:=h.box j lj hj
   have:b' ≠ b:=fun eb=>e (h.boxNe j k b' h1 (eb ▸ hb))
   exact ⟨b',T',cs'',h1,h2,by rw [setRow_other w b b' cs' this];exact h3,RVL.mono hle _ _ h4⟩
 ·intro j b' hj
  rw [zaz]
  by_cases e:j=k
  ·exact ⟨ls',by simp [e]⟩
  ·rw [if_neg e];exact h.boxKey j b' hj
 ·intro j fz sz rows hj
  obtain ⟨L,h1,h2,h3⟩:=h.obj j fz sz rows hj
  refine ⟨L,h1,h2,?_⟩
  rcases h3 with h3 | ⟨h3,hf,ho,c,E,h5,h6,h7,h8,h9⟩
  ·exact .inl h3
  ·have : L.b ≠ b := by
     cases fz with
     | true=>exact hne _ (hf rfl)
     | false=>exact fun e=>h.boxObj k j b _ L hb hj h1 h3 e.symm
   exact .inr ⟨h3,hf,ho,c,E,by rw [setRow_other w b L.b cs' this];exact h5,h6,h7,h8,RVR.mono hle.cl _ _ _ h9⟩
theorem zam (w:World) (o:Obj) {b:Nat} (h:b < w.heap.size):(w.alloc o).heap[b]?=w.heap[b]?:=RowKit.Below.heap_alloc w o b h
theorem zcd (w:World) (o:Obj):(w.alloc o).heap[w.heap.size]?=some o:=heap_alloc_new w o
theorem zag {w:World}{b:Nat}{o:Obj} (h:w.heap[b]?=some o):b < w.heap.size:=(Array.getElem?_eq_some_iff.1 h).1
theorem HRel.allocBox (h : HRel w0 X S0 M B O w) {d : Nat} (hd : B d = none) (cs : Array Value) (T : TypeId) {ls : List PV} (hr : RVL M w ls cs.toList) :
    ∃ M',HRel w0 X S0 M' (upd B [(d,ls)]) O (w.alloc (.cells cs T))∧M.Le M' w (w.alloc (.cells cs T))∧M'.bx d=some w.heap.size:=by
 have hMd:M.bx d=none:=by
  cases hx:M.bx d with
  | none=>rfl
  | some b=>obtain ⟨ls,hl⟩:=h.boxKey d b hx;rw [hd] at hl;cases hl
 let M':Mem:=⟨M.st,fun k=>if k=d then some w.heap.size else M.bx k,M.ob,M.nw⟩
 have hbx:∀ k b,M.bx k=some b→M'.bx k=some b:=by
  intro k b hk
  show (if k=d then some w.heap.size else M.bx k)=some b
  rw [if_neg (fun e=>by rw [e,hMd] at hk;cases hk)];exact hk
 have hle:M.Le M' w (w.alloc (.cells cs T)):=⟨fun _ h=>h,hbx,fun _ _ h=>h,fun x hx=>zam w _ (h.stlt x hx),fun _ h=>h,fun x hx=>zam w _ (h.nwok x hx).1⟩
 have hinv:∀ k b,M'.bx k=some b→(k=d∧b=w.heap.size)∨(k ≠ d∧M.bx k=some b∧b < w.heap.size):=by
  intro k b hk
  by_cases e:k=d
  ·left
   have:(if k=d then some w.heap.size else M.bx k)=some b:=hk
   rw [if_pos e] at this;cases this;exact ⟨e,rfl⟩
  ·right
   have:(if k=d then some w.heap.size else M.bx k)=some b:=hk
   rw [if_neg e] at this
   obtain ⟨ls,hl⟩:=h.boxKey k b this
   obtain ⟨_,T,cs,hh,_⟩:=h.box' hl this
   exact ⟨e,this,zag hh⟩
 refine ⟨M',{ os:=h.os,tape:=h.tape,out:=h.out,size:=by simp;have:=h.size;omega,kept:=?_,stlt:=?_,stok:=h.stok,box:=?_,boxKey:=?_,obj:=?_,objKey:=h.objKey,boxNe:=?_,objNe:=h.objNe,boxObj:=?_,pinB:=fun k b hk=>hle.bx k b (h.pinB k b hk),pinO:=fun k L hk=>hle.ob k L (h.pinO k L hk),nwok:=fun b hb=>⟨by simp;have:=(h.nwok b hb).1;omega,(h.nwok b hb).2⟩,c00:=zkl h.c00 hle (fun _ x=>x) (fun _ x=>x) },hle,by show (if d=d then some w.heap.size else M.bx d)=_;simp⟩
 ·intro x hx hX
  rw [zam w _ (Nat.lt_of_lt_of_le hx h.size)]
  exact h.kept x hx hX
 ·intro x hx
  have:=h.stlt x hx
  simp;omega
 ·intro j lj hj
  rw [zaz] at hj
  by_cases e:j=d
  ·subst e
   rw [if_pos rfl] at hj;cases hj
   refine ⟨w.heap.size,T,cs,by show (if j=j then some w.heap.size else M.bx j)=_;simp,⟨.inl h.size,fun hs=>by have:=h.snlt _ hs;omega⟩,zcd w _,RVL.mono hle _ _ hr⟩
  ·rw [if_neg e] at hj
   obtain ⟨b',T',cs'',h1,h2,h3,h4⟩:=h.box j lj hj
   exact ⟨b',T',cs'',hbx _ _ h1,h2,by rw [zam w _ (zag h3)];exact h3,RVL.mono hle _ _ h4⟩
 ·intro j b' hj
  rw [zaz]
  rcases hinv j b' hj with ⟨e,_⟩ | ⟨e,hm,_⟩
  ·exact ⟨ls,by simp [e]⟩
  ·rw [if_neg e];exact h.boxKey j b' hm
 ·intro j fz sz rows hj
  obtain ⟨L,h1,h2,h3⟩:=h.obj j fz sz rows hj
  refine ⟨L,h1,h2,?_⟩
  rcases h3 with h3 | ⟨h3,hf,ho,c,E,h5,h6,h7,h8,h9⟩
  ·exact .inl h3
  ·exact .inr ⟨h3,hf,ho,c,E,by rw [zam w _ (zag h5)];exact h5,h6,h7,h8,RVR.mono hle.cl _ _ _ h9⟩
 ·intro k k' b hk hk'
  rcases hinv k b hk with ⟨e,eb⟩ | ⟨e,hm,hlt⟩
  ·rcases hinv k' b hk' with ⟨e',_⟩ | ⟨_,_,hlt'⟩
   ·rw [e,e']
   ·omega
  ·rcases hinv k' b hk' with ⟨_,eb'⟩ | ⟨_,hm',_⟩
   ·omega
   ·exact h.boxNe k k' b hm hm'
 ·intro k k' b o L hk ho hL hn
  rcases hinv k b hk with ⟨e,eb⟩ | ⟨e,hm,hlt⟩
  ·obtain ⟨L',h1,h2,h3⟩:=h.obj k' false o.1 o.2 ho
   have hL':M.ob k'=some L:=hL
   rw [hL'] at h1;cases h1
   rcases h3 with ⟨h3,_⟩ | ⟨_,_,_,c,E,h5,_⟩
   ·rw [hn] at h3;cases h3
   ·have:=zag h5;omega
  ·exact h.boxObj k k' b o L hm ho hL hn
theorem HRel.allocSt (h : HRel w0 X S0 M B O w) (o : Obj) (hcs : ∃ cs T, o = .cells cs T (0, 0)) :
    ∃ M',HRel w0 X S0 M' B O (w.alloc o)∧M.Le M' w (w.alloc o)∧M'.st w.heap.size:=by
 let M':Mem:=⟨fun b=>M.st b∨b=w.heap.size,M.bx,M.ob,M.nw⟩
 have hle:M.Le M' w (w.alloc o):=⟨fun _ h=>.inl h,fun _ _ h=>h,fun _ _ h=>h,fun x hx=>zam w _ (h.stlt x hx),fun _ h=>h,fun x hx=>zam w _ (h.nwok x hx).1⟩
 have hown:∀ b,b < w.heap.size→Own w0 X M b→Own w0 X M' b:=fun b hb ⟨h1,h2⟩=>⟨h1,fun hs=>by rcases hs with (hs | hs) | hs;exact h2 (.inl hs);omega;exact h2 (.inr hs)⟩
 refine ⟨M',{ os:=h.os,tape:=h.tape,out:=h.out,size:=by simp;have:=h.size;omega,kept:=?_,stlt:=?_,stok:=(fun b hb=>by rcases hb with hb | hb;exact h.stok b hb;exact .inr (.inl (by rw [hb];exact h.size))),box:=?_,boxKey:=h.boxKey,obj:=?_,objKey:=h.objKey,boxNe:=h.boxNe,objNe:=h.objNe,boxObj:=h.boxObj,pinB:=fun k b hk=>hle.bx k b (h.pinB k b hk),pinO:=fun k L hk=>hle.ob k L (h.pinO k L hk),nwok:=fun b hb=>⟨by simp;have:=(h.nwok b hb).1;omega,(h.nwok b hb).2.1,fun hs=>by rcases hs with hs | hs;exact (h.nwok b hb).2.2 hs;have:=(h.nwok b hb).1;omega⟩,c00:=⟨fun b hb=>by
  rcases hb with hb | rfl
  ·exact (h.c00.1 b hb).imp id (C00.of (zam w _ (h.stlt b hb)))
  ·obtain ⟨cs,T,rfl⟩:=hcs
   exact .inr ⟨cs,T,zcd w _⟩,fun b hb=>C00.of (zam w _ (h.nwok b hb).1) (h.c00.2 b hb)⟩ },hle,.inr rfl⟩
 ·intro x hx hX
  rw [zam w _ (Nat.lt_of_lt_of_le hx h.size)]
  exact h.kept x hx hX
 ·intro x hx
  simp
  rcases hx with hx | hx
  ·have:=h.stlt x hx;omega
  ·omega
 ·intro j lj hj
  obtain ⟨b',T',cs'',h1,h2,h3,h4⟩:=h.box j lj hj
  exact ⟨b',T',cs'',h1,hown _ (zag h3) h2,by rw [zam w _ (zag h3)];exact h3,RVL.mono hle _ _ h4⟩
 ·intro j fz sz rows hj
  obtain ⟨L,h1,h2,h3⟩:=h.obj j fz sz rows hj
  refine ⟨L,h1,h2,?_⟩
  rcases h3 with h3 | ⟨h3,hf,ho,c,E,h5,h6,h7,h8,h9⟩
  ·exact .inl h3
  ·exact .inr ⟨h3,fun e=>.inl (hf e),fun e=>hown _ (zag h5) (ho e),c,E,by rw [zam w _ (zag h5)];exact h5,h6,h7,h8,RVR.mono hle.cl _ _ _ h9⟩
theorem HRel.ob_none (h:HRel w0 X S0 M B O w) {k:Nat} (hk:O k=none):M.ob k=none:=by
 cases hx:M.ob k with
 | none=>rfl
 | some L=>obtain ⟨o,ho⟩:=h.objKey k L hx;rw [hk] at ho;cases ho
theorem HRel.obj' (h : HRel w0 X S0 M B O w) {k : Nat} {fz : Bool} {sz : Nat} {rows : List (List PV)} {L : Loc} (hk : O k = some (some (fz, sz, rows))) (hL : M.ob k = some L) :
    L.sz=sz∧((L.nil=true∧rows=[])∨(L.nil=false∧(fz=true→M.st L.b)∧(fz=false→Own w0 X M L.b)∧∃ cs E,w.heap[L.b]?=some (.cells cs E (0,0))∧cs.size=L.cap * sz∧rows.length≤L.cap∧L.cap≤maxLen∧RVR M.cl w sz rows cs.toList)):=by
 obtain ⟨L',h1,h2,h3⟩:=h.obj k fz sz rows hk
 rw [hL] at h1;cases h1
 exact ⟨h2,h3⟩
theorem HRel.addObj (h : HRel w0 X S0 M B O w) {k : Nat} (hk : O k = none) (L : Loc) {rows : List (List PV)}
    (hc:(L.nil=true∧rows=[])∨(L.nil=false∧Own w0 X M L.b∧∃ cs E,w.heap[L.b]?=some (.cells cs E (0,0))∧cs.size=L.cap * L.sz∧rows.length≤L.cap∧L.cap≤maxLen∧RVR M.cl w L.sz rows cs.toList))
    (hbox:∀ j b,M.bx j=some b→L.nil=false→b ≠ L.b) (hobj:∀ j o L',O j=some (some (false,o))→M.ob j=some L'→L'.nil=false→L.nil=false→L'.b ≠ L.b) :
    ∃ M',HRel w0 X S0 M' B (upd O [(k,some (false,L.sz,rows))]) w∧M.Le M' w w∧M'.ob k=some L:=by
 have hMk:=h.ob_none hk
 let M':Mem:=⟨M.st,M.bx,fun j=>if j=k then some L else M.ob j,M.nw⟩
 have hob:∀ j L',M.ob j=some L'→M'.ob j=some L':=by
  intro j L' hj
  show (if j=k then some L else M.ob j)=some L'
  rw [if_neg (fun e=>by rw [e,hMk] at hj;cases hj)];exact hj
 have hle:M.Le M' w w:=⟨fun _ h=>h,fun _ _ h=>h,hob,fun _ _=>rfl,fun _ h=>h,fun _ _=>rfl⟩
 have hinv:∀ j L',M'.ob j=some L'→(j=k∧L'=L)∨(j ≠ k∧M.ob j=some L'):=by
  intro j L' hj
  have hj':(if j=k then some L else M.ob j)=some L':=hj
  by_cases e:j=k
  ·rw [if_pos e] at hj';cases hj';exact .inl ⟨e,rfl⟩
  ·rw [if_neg e] at hj';exact .inr ⟨e,hj'⟩
 have holo:∀ j o,j ≠ k→upd O [(k,some (false,L.sz,rows))] j=o→O j=o:=fun j o e ho=>by rw [zaz,if_neg e] at ho;exact ho
 refine ⟨M',{ os:=h.os,tape:=h.tape,out:=h.out,size:=h.size,kept:=h.kept,stlt:=h.stlt,stok:=h.stok,box:=?_,boxKey:=h.boxKey,obj:=?_,objKey:=?_,boxNe:=h.boxNe,objNe:=?_,boxObj:=?_,pinB:=fun k b hk=>hle.bx k b (h.pinB k b hk),pinO:=fun k L hk=>hle.ob k L (h.pinO k L hk),nwok:=h.nwok,c00:=zkl h.c00 hle (fun _ x=>x) (fun _ x=>x) },hle,by show (if k=k then some L else M.ob k)=_;simp⟩
 ·intro j lj hj
  obtain ⟨b',T',cs'',h1,h2,h3,h4⟩:=h.box j lj hj
  exact ⟨b',T',cs'',h1,h2,h3,RVL.mono hle _ _ h4⟩
 ·intro j fz sz rs hj
  by_cases e:j=k
  ·subst e
   rw [zaz,if_pos rfl] at hj
   simp only [Option.some.injEq,Prod.mk.injEq] at hj
   obtain ⟨rfl,rfl,rfl⟩:=hj
   refine ⟨L,by show (if j=j then some L else M.ob j)=_;simp,rfl,?_⟩
   rcases hc with hc | ⟨hn,ho,cs,E,h5,h6,h7,h8,h9⟩
   ·exact .inl hc
   ·exact .inr ⟨hn,(fun e=>by cases e),fun _=>ho,cs,E,h5,h6,h7,h8,RVR.mono hle.cl _ _ _ h9⟩
  ·have hj:=holo j _ e hj
   obtain ⟨L',h1,h2,h3⟩:=h.obj j fz sz rs hj
   refine ⟨L',hob _ _ h1,h2,?_⟩
   rcases h3 with h3 | ⟨h3,hf,ho,c,E,h5,h6,h7,h8,h9⟩
   ·exact .inl h3
   ·exact .inr ⟨h3,hf,ho,c,E,h5,h6,h7,h8,RVR.mono hle.cl _ _ _ h9⟩
 ·intro j L' hj
  rw [zaz]
  rcases hinv j L' hj with ⟨e,_⟩ | ⟨e,hm⟩
  ·exact ⟨_,if_pos e⟩
  ·rw [if_neg e];exact h.objKey j L' hm
 ·intro i j o o' Li Lj hi hj hLi hLj hni hnj heq
  rcases hinv i Li hLi with ⟨e,eL⟩ | ⟨e,hm⟩
  ·rcases hinv j Lj hLj with ⟨e',_⟩ | ⟨e',hm'⟩
   ·rw [e,e']
   ·subst eL
    exact absurd heq.symm (hobj j o' Lj (holo j _ e' hj) hm' hnj hni)
  ·rcases hinv j Lj hLj with ⟨e',eL⟩ | ⟨e',hm'⟩
   ·subst eL
    exact absurd heq (hobj i o Li (holo i _ e hi) hm hni hnj)
   ·exact h.objNe i j o o' Li Lj (holo i _ e hi) (holo j _ e' hj) hm hm' hni hnj heq
 ·intro i j b o Lj hi hj hLj hnj
  rcases hinv j Lj hLj with ⟨e',eL⟩ | ⟨e',hm'⟩
  ·subst eL;exact hbox i b hi hnj
  ·exact h.boxObj i j b o Lj hi (holo j _ e' hj) hm' hnj
theorem HRel.killObj (h:HRel w0 X S0 M B O w) (k:Nat):HRel w0 X S0 M B (upd O [(k,none)]) w:=by
 have holo:∀ j q,upd O [(k,none)] j=some (some q)→O j=some (some q)∧j ≠ k:=by
  intro j q hj
  rw [zaz] at hj
  by_cases e:j=k
  ·rw [if_pos e] at hj;simp at hj
  ·rw [if_neg e] at hj;exact ⟨hj,e⟩
 refine { os:=h.os,tape:=h.tape,out:=h.out,size:=h.size,kept:=h.kept,stlt:=h.stlt,stok:=h.stok,box:=h.box,boxKey:=h.boxKey,obj:=?_,objKey:=?_,boxNe:=h.boxNe,objNe:=?_,boxObj:=?_,pinB:=h.pinB,pinO:=h.pinO,nwok:=h.nwok,c00:=h.c00 }
 ·intro j fz sz rs hj;exact h.obj j fz sz rs (holo j _ hj).1
 ·intro j L hj
  rw [zaz]
  by_cases e:j=k
  ·exact ⟨_,if_pos e⟩
  ·rw [if_neg e];exact h.objKey j L hj
 ·intro i j o o' Li Lj hi hj;exact h.objNe i j o o' Li Lj (holo i _ hi).1 (holo j _ hj).1
 ·intro i j b o L hi hj;exact h.boxObj i j b o L hi (holo j _ hj).1
theorem HRel.setFree (h : HRel w0 X S0 M B O w) {b : Nat} (hown : Own w0 X M b) (hbox : ∀ k, M.bx k ≠ some b) (hobj : ∀ k o L, O k = some (some (false, o)) → M.ob k = some L → L.nil = false → L.b ≠ b) (cs' : Array Value) :
    HRel w0 X S0 M B O (w.setRow b cs')∧M.Le M w (w.setRow b cs'):=by
 have hne:∀ x,M.st x→x ≠ b:=fun x hx e=>hown.2 (.inl (e ▸ hx))
 have hnf:∀ x,M.nw x→x ≠ b:=fun x hx e=>hown.2 (.inr (e ▸ hx))
 have hle:M.Le M w (w.setRow b cs'):=⟨fun _ h=>h,fun _ _ h=>h,fun _ _ h=>h,fun x hx=>setRow_other w b x cs' (hne x hx),fun _ h=>h,fun x hx=>setRow_other w b x cs' (hnf x hx)⟩
 refine ⟨{ os:=h.os,tape:=h.tape,out:=h.out,size:=by simpa using h.size,kept:=?_,stlt:=by simpa using h.stlt,stok:=h.stok,box:=?_,boxKey:=h.boxKey,obj:=?_,objKey:=h.objKey,boxNe:=h.boxNe,objNe:=h.objNe,boxObj:=h.boxObj,pinB:=fun k b hk=>hle.bx k b (h.pinB k b hk),pinO:=fun k L hk=>hle.ob k L (h.pinO k L hk),nwok:=by simpa using h.nwok,c00:=zkl h.c00 hle (fun _ x=>x) (fun _ x=>x) },hle⟩
 ·intro x hx hX
  have:x ≠ b:=by
   intro e;subst e
   rcases hown.1 with h1 | h1
   ·omega
   ·exact hX h1
  rw [setRow_other w b x cs' this]
  exact h.kept x hx hX
 ·intro j lj hj
  obtain ⟨b',T',cs'',h1,h2,h3,h4⟩:=h.box j lj hj
  have:b' ≠ b:=fun e=>hbox j (e ▸ h1)
  exact ⟨b',T',cs'',h1,h2,by rw [setRow_other w b b' cs' this];exact h3,RVL.mono hle _ _ h4⟩
 ·intro j fz sz rs hj
  obtain ⟨L,h1,h2,h3⟩:=h.obj j fz sz rs hj
  refine ⟨L,h1,h2,?_⟩
  rcases h3 with h3 | ⟨h3,hf,ho,c,E,h5,h6,h7,h8,h9⟩
  ·exact .inl h3
  ·have : L.b ≠ b := by
     cases fz with
     | true=>exact hne _ (hf rfl)
     | false=>exact hobj j _ L hj h1 h3
   exact .inr ⟨h3,hf,ho,c,E,by rw [setRow_other w b L.b cs' this];exact h5,h6,h7,h8,RVR.mono hle.cl _ _ _ h9⟩
theorem HRel.drew (h:HRel w0 X S0 M B O w):HRel w0 X S0 M B O w.drew∧M.Le M w w.drew :=
 have hle:M.Le M w w.drew:=⟨fun _ h=>h,fun _ _ h=>h,fun _ _ h=>h,fun _ _=>rfl,fun _ h=>h,fun _ _=>rfl⟩
 ⟨h.world hle rfl rfl rfl (Nat.le_refl _) (fun _ _=>rfl),hle⟩
theorem HRel.freeze (h : HRel w0 X S0 M B O w) {k : Nat} {fz : Bool} {sz : Nat} {rows : List (List PV)} (hk : O k = some (some (fz, sz, rows))) :
    ∃ M',HRel w0 X S0 M' B (upd O [(k,some (true,sz,rows))]) w∧M.Le M' w w∧M'.ob=M.ob∧M'.bx=M.bx:=by
 obtain ⟨L,hL,hsz,hcase⟩:=h.obj k fz sz rows hk
 have hlt:L.nil=false→L.b < w.heap.size:=by
  intro hn
  rcases hcase with ⟨h1,_⟩ | ⟨_,_,_,cs,E,h5,_⟩
  ·rw [hn] at h1;cases h1
  ·exact zag h5
 let M':Mem:=⟨fun b=>M.st b∨(L.nil=false∧b=L.b),M.bx,M.ob,M.nw⟩
 have hle:M.Le M' w w:=⟨fun _ h=>.inl h,fun _ _ h=>h,fun _ _ h=>h,fun _ _=>rfl,fun _ h=>h,fun _ _=>rfl⟩
 have hnw:∀ b,M.nw b→b < w.heap.size∧(w0.heap.size≤b∨X b)∧¬ (M.st b∨(L.nil=false∧b=L.b)):=fun b hb=>⟨(h.nwok b hb).1,(h.nwok b hb).2.1,fun hs=>by
  rcases hs with hs | ⟨hn,rfl⟩
  ·exact (h.nwok b hb).2.2 hs
  ·rcases hcase with ⟨h1,_⟩ | ⟨_,hf,ho,_⟩
   ·rw [hn] at h1;cases h1
   ·cases fz with
    | true=>exact (h.nwok _ hb).2.2 (hf rfl)
    | false=>exact (ho rfl).2 (.inr hb)⟩
 have holo:∀ j q,upd O [(k,some (true,sz,rows))] j=some (some (false,q))→O j=some (some (false,q))∧j ≠ k:=by
  intro j q hj
  rw [zaz] at hj
  by_cases e:j=k
  ·rw [if_pos e] at hj;simp at hj
  ·rw [if_neg e] at hj;exact ⟨hj,e⟩
 refine ⟨M',{ os:=h.os,tape:=h.tape,out:=h.out,size:=h.size,kept:=h.kept,stlt:=?_,stok:=?_,box:=?_,boxKey:=h.boxKey,obj:=?_,objKey:=?_,boxNe:=h.boxNe,objNe:=?_,boxObj:=?_,pinB:=fun k b hk=>hle.bx k b (h.pinB k b hk),pinO:=fun k L hk=>hle.ob k L (h.pinO k L hk),nwok:=hnw,c00:=⟨fun b hb=>by
  rcases hb with hb | ⟨hn,rfl⟩
  ·exact h.c00.1 b hb
  ·rcases hcase with ⟨h1,_⟩ | ⟨_,_,_,cs,E,h5,_⟩
   ·rw [hn] at h1;cases h1
   ·exact .inr ⟨cs,E,h5⟩,h.c00.2⟩ },hle,rfl,rfl⟩
 ·intro b hb
  rcases hb with hb | ⟨hn,rfl⟩
  ·exact h.stlt b hb
  ·exact hlt hn
 ·intro b hb
  rcases hb with hb | ⟨hn,rfl⟩
  ·exact h.stok b hb
  ·rcases hcase with ⟨h1,_⟩ | ⟨_,hf,ho,_⟩
   ·rw [hn] at h1;cases h1
   ·cases fz with
    | true=>exact h.stok _ (hf rfl)
    | false=>exact .inr (ho rfl).1
 ·intro j lj hj
  obtain ⟨b',T',cs'',h1,h2,h3,h4⟩:=h.box j lj hj
  refine ⟨b',T',cs'',h1,⟨h2.1,?_⟩,h3,RVL.mono hle _ _ h4⟩
  rintro ((hs | ⟨hn,rfl⟩) | hs)
  ·exact h2.2 (.inl hs)
  rotate_left
  ·exact h2.2 (.inr hs)
  ·cases fz with
   | true =>
    rcases hcase with ⟨h1,_⟩ | ⟨_,hf,_⟩
    ·rw [hn] at h1;cases h1
    ·exact h2.2 (.inl (hf rfl))
   | false=>exact h.boxObj j k L.b _ L h1 hk hL hn rfl
 ·intro j fz' sz' rs hj
  by_cases e:j=k
  ·subst e
   rw [zaz,if_pos rfl] at hj
   simp only [Option.some.injEq,Prod.mk.injEq] at hj
   obtain ⟨rfl,rfl,rfl⟩:=hj
   refine ⟨L,hL,hsz,?_⟩
   rcases hcase with hc | ⟨hn,_,_,cs,E,h5,h6,h7,h8,h9⟩
   ·exact .inl hc
   ·exact .inr ⟨hn,fun _=>.inr ⟨hn,rfl⟩,(fun e=>by cases e),cs,E,h5,h6,h7,h8,RVR.mono hle.cl _ _ _ h9⟩
  ·rw [zaz,if_neg e] at hj
   obtain ⟨L',h1,h2,h3⟩:=h.obj j fz' sz' rs hj
   refine ⟨L',h1,h2,?_⟩
   rcases h3 with h3 | ⟨h3,hf,ho,c,E,h5,h6,h7,h8,h9⟩
   ·exact .inl h3
   ·refine .inr ⟨h3,fun e=>.inl (hf e),fun ef=>⟨(ho ef).1,?_⟩,c,E,h5,h6,h7,h8,RVR.mono hle.cl _ _ _ h9⟩
    rintro ((hs | ⟨hn,hb⟩) | hs)
    ·exact (ho ef).2 (.inl hs)
    rotate_left
    ·exact (ho ef).2 (.inr hs)
    ·subst ef
     cases fz with
     | true =>
      rcases hcase with ⟨h1,_⟩ | ⟨_,hf',_⟩
      ·rw [hn] at h1;cases h1
      ·exact (ho rfl).2 (.inl (hb ▸ hf' rfl))
     | false=>exact e (h.objNe j k _ _ L' L hj hk h1 hL h3 hn hb)
 ·intro j L' hj
  rw [zaz]
  by_cases e:j=k
  ·exact ⟨_,if_pos e⟩
  ·rw [if_neg e];exact h.objKey j L' hj
 ·intro i j o o' Li Lj hi hj;exact h.objNe i j o o' Li Lj (holo i _ hi).1 (holo j _ hj).1
 ·intro i j b o L' hi hj;exact h.boxObj i j b o L' hi (holo j _ hj).1
end
end Go.Pv
