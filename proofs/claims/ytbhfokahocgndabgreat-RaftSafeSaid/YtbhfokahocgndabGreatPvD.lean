import Derived.Test.YtbhfokahocgndabGreatPvB
import Derived.Laws.CopyRow
import Derived.Laws.Tables
import Derived.Laws.StructEq
/-
  Operations on memory and on compound values. Generic over the program.
-/
set_option linter.unusedSimpArgs false
set_option linter.unusedVariables false
namespace Go.Pv
def padd:PV→Nat→Option PV
 | .pt k off,n=>some (.pt k (off+n))
 | .ep sfx,n=>some (.ep (sfx.drop n))
 | .eo k i off,n=>some (.eo k i (off+n))
 | _,_=>none
theorem zi8 {M:Mem}{w:World}{p q:PV}{n:Nat}{v:Value} (h:padd p n=some q) (hv:RV M w p v):∃ b off,v=.pointer (some ⟨b,off,none⟩)∧RV M w q (.pointer (some ⟨b,off+n,none⟩)):=by
 unfold padd at h
 split at h
 ·cases h
  simp only [RV] at hv
  obtain ⟨b,hb,rfl⟩:=hv
  exact ⟨b,_,rfl,by simp only [RV];exact ⟨b,hb,rfl⟩⟩
 ·cases h
  simp only [RV] at hv
  obtain ⟨b,off,cs,rfl,hs,hc,hl⟩:=hv
  refine ⟨b,off,rfl,?_⟩
  simp only [RV]
  exact ⟨b,off+n,cs.drop n,rfl,hs,hc.drop n,hl.drop n⟩
 ·cases h
  simp only [RV] at hv
  obtain ⟨L,hL,hn,rfl⟩:=hv
  refine ⟨L.b,_,rfl,?_⟩
  simp only [RV]
  exact ⟨L,hL,hn,by rw [Nat.add_assoc]⟩
 ·cases h
theorem zqm {P : Program} {o : Oper} {ts : List PV} {t : TypeId} {x : Operand} {i : Nat} {fs : Array Field} {f : Field} {inf : TypeInfo} {p q : PV} (ho : o.op = .fieldAddr t x i) (ht : P.underlying t = some (.struct fs)) (hf : fs[i]? = some f)
    (hi:P.info? f.type=some inf) (hz:inf.size ≠ 0) (hx:aev ts x=p) (hq:padd p f.offset=some q):OpSem P o (vE q) ts :=
 zap rfl rfl fun w0 X S0 M s a w hr hl _=>by
  rw [ho] at hl
  have h1:=ev_of hr hl (x:=x) (by simp [Op.operands]) hx
  obtain ⟨b,off,hv,hq'⟩:=zi8 hq h1
  refine ⟨.pointer (some ⟨b,off+f.offset,none⟩),?_,hq'⟩
  simp [execOp,ho,hv,Instr.fieldAt,run_underlying ht,hf,Instr.sureAddr,fieldPlace,sizeOf,typeInfo,hi,hz,Addr.add_lit]
theorem zrj {P : Program} {o : Oper} {ts : List PV} {t elem : TypeId} {x y : Operand} {len : Nat} {inf : TypeInfo} {p q : PV} {k : IntKind} {n : Int} (ho : o.op = .indexAddr t x y) (ht : P.underlying t = some (.array len elem))
    (hi:P.info? elem=some inf) (hx:aev ts x=p) (hy:aev ts y=.sc (.int k n)) (h0:0≤n) (h1:n < len) (hq:padd p (n.toNat * inf.size)=some q):OpSem P o (vE q) ts :=
 zap rfl rfl fun w0 X S0 M s a w hr hl _=>by
  rw [ho] at hl
  have h2:=ev_of hr hl (x:=x) (by simp [Op.operands]) hx
  have h3:=ev_of hr hl (x:=y) (by simp [Op.operands]) hy
  simp only [RV] at h3
  obtain ⟨b,off,hv,hq'⟩:=zi8 hq h2
  refine ⟨.pointer (some ⟨b,off+n.toNat * inf.size,none⟩),?_,hq'⟩
  simp [execOp,ho,hv,h3,Instr.indexAt,run_underlying ht,asIntOf,Instr.sureAddr,sizeOf,typeInfo,hi,h0,h1,Addr.add_lit]
theorem zws {P : Program} {o : Oper} {ts : List PV} {t elem : TypeId} {x y : Operand} {inf : TypeInfo} {sz : Nat} {rows : List (List PV)} {k : IntKind} {n : Int} {row : List PV} (ho : o.op = .indexAddr t x y) (ht : P.underlying t = some (.slice elem))
    (hi:P.info? elem=some inf) (hsz:inf.size=sz) (hx:aev ts x=.sl sz rows) (hy:aev ts y=.sc (.int k n)) (h0:0≤n) (hrow:rows[n.toNat]?=some row):OpSem P o (vE (.ep row)) ts :=
 zap rfl rfl fun w0 X S0 M s a w hr hl _=>by
  rw [ho] at hl
  have h2:=ev_of hr hl (x:=x) (by simp [Op.operands]) hx
  have h3:=ev_of hr hl (x:=y) (by simp [Op.operands]) hy
  simp only [RV] at h3 h2
  obtain ⟨ad,m,c,hv,hm,hc,hcase⟩:=h2
  have hlt:n.toNat < rows.length:=(List.getElem?_eq_some_iff.1 hrow).1
  rcases hcase with rfl | ⟨b,off,cs,rfl,hst,hcl,hR⟩
  ·simp at hlt
  ·obtain ⟨r1,r2,r3⟩:=hR.row _ hrow
   refine ⟨.pointer (some ⟨b,off+n.toNat * sz,none⟩),?_,?_⟩
   ·have:n < (rows.length:Int):=by omega
    simp [execOp,ho,hv,h3,Instr.indexAt,run_underlying ht,asIntOf,sizeOf,typeInfo,hi,h0,hm,this,Addr.add_lit,hsz]
   ·simp only [vE,RV]
    exact ⟨b,_,_,rfl,hst,(hcl.drop _).take _,r2⟩
theorem zvp {P : Program} {o : Oper} {ts : List PV} {t elem : TypeId} {x y : Operand} {inf : TypeInfo} {ky lo len : Nat} {k : IntKind} {n : Int} {fz : Bool} {sz : Nat} {rows : List (List PV)} (ho : o.op = .indexAddr t x y) (ht : P.underlying t = some (.slice elem))
    (hi:P.info? elem=some inf) (hsz:inf.size=sz) (hx:aev ts x=.ow ky lo len) (hy:aev ts y=.sc (.int k n)) (h0:0≤n) (h1:n < len):OpSem P o ⟨.eo ky (lo+n.toNat) 0,[],[(ky,fz,sz,rows)],[],[],[],[]⟩ ts :=
 zap rfl rfl fun w0 X S0 M s a w hr hl hs=>by
  rw [ho] at hl
  have h2:=ev_of hr hl (x:=x) (by simp [Op.operands]) hx
  have h3:=ev_of hr hl (x:=y) (by simp [Op.operands]) hy
  simp only [RV] at h3 h2
  obtain ⟨L,hL,hcase⟩:=h2
  have hob:=hs.2.1 (ky,fz,sz,rows) (by simp)
  obtain ⟨hLs,_⟩:=hr.toHRel.obj' hob hL
  rcases hcase with ⟨_,rfl,_⟩ | ⟨hn,hle,ad,hv,had⟩
  ·simp at h1;omega
  ·have hlt:lo < L.cap:=by omega
   refine ⟨.pointer (some ⟨L.b,lo * L.sz+n.toNat * sz,none⟩),?_,?_⟩
   ·simp [execOp,ho,hv,h3,Instr.indexAt,run_underlying ht,asIntOf,sizeOf,typeInfo,hi,h0,h1,had hlt,Addr.add_lit,hsz]
   ·simp only [RV]
    exact ⟨L,hL,hn,by rw [hLs,Nat.add_mul];rfl⟩
def zeb:TypeDesc→Bool
 | .struct _=>true
 | .array ..=>true
 | _=>false
def zdx (agg:Bool) (n:Nat) (sfx:List PV):Option PV :=
 if agg then (if n≤sfx.length then some (.ag (sfx.take n)) else none) else sfx.head?
theorem zex {P:Program}{w:World}{t:TypeId}{d:TypeDesc} (h:P.underlying t=some d):(isAgg t).run P w=.ok (zeb d) w:=by
 simp only [isAgg,Sem.run_bind,run_underlying h,Result.andThen_ok]
 cases d<;>simp [zeb]
theorem zfe {P : Program} {M : Mem} {w : World} {t : TypeId} {d : TypeDesc} {inf : TypeInfo} {b off : Nat} {cs : List Value} {sfx : List PV} {p : PV} (ht : P.underlying t = some d) (hi : P.info? t = some inf) (hc : Cells w b off cs) (hl : RVL M w sfx cs)
    (hp:zdx (zeb d) inf.size sfx=some p):∃ v,(loadVar t ⟨b,off,none⟩).run P w=.ok v w∧RV M w p v:=by
 unfold zdx at hp
 cases hd:zeb d with
 | true =>
  rw [hd] at hp
  simp only [if_true] at hp
  split at hp
  ·rename_i hle
   cases hp
   refine ⟨.agg (cs.take inf.size).toArray,?_,?_⟩
   ·have hlen:(cs.take inf.size).length=inf.size:=by rw [List.length_take,hl.length];omega
    have hrun:=run_loadCells_list (P:=P) w ⟨b,off,none⟩ (cs.take inf.size) (fun j v hj=>by rw [Addr.add_lit];exact hc.take _ j v hj)
    rw [hlen] at hrun
    simp [loadVar,zex ht,hd,sizeOf,typeInfo,hi,hrun]
   ·simp only [RV]
    exact ⟨_,rfl,by simpa using hl.take inf.size⟩
  ·cases hp
 | false =>
  rw [hd] at hp
  simp only [Bool.false_eq_true,if_false] at hp
  cases sfx with
  | nil=>simp at hp
  | cons q rest =>
   simp at hp;subst hp
   simp only [RVL] at hl
   obtain ⟨c,r,rfl,h1,_⟩:=hl
   refine ⟨c,?_,h1⟩
   have:=hc 0 c (by simp)
   simp only [Nat.add_zero] at this
   simp only [loadVar,Sem.run_bind,zex ht,hd,Result.andThen_ok,Bool.false_eq_true,if_false]
   simp [load,Sem.run,this]
theorem zyd {P : Program} {o : Oper} {ts : List PV} {t : TypeId} {d : TypeDesc} {inf : TypeInfo} {x : Operand} {k off : Nat} {ls : List PV} {p : PV} (ho : o.op = .load t x) (ht : P.underlying t = some d) (hi : P.info? t = some inf)
    (hx:aev ts x=.pt k off) (hp:zdx (zeb d) inf.size (ls.drop off)=some p):OpSem P o ⟨p,[(k,ls)],[],[],[],[],[]⟩ ts :=
 zap rfl rfl fun w0 X S0 M s a w hr hl hs=>by
  rw [ho] at hl
  have h2:=ev_of hr hl (x:=x) (by simp [Op.operands]) hx
  simp only [RV] at h2
  obtain ⟨b,hb,hv⟩:=h2
  obtain ⟨_,T,cs,hh,hcs⟩:=hr.toHRel.box' (hs.1 (k,ls) (by simp)) hb
  have hc:Cells w b (0+off) (cs.toList.drop off):=(Cells.of_block hh).drop off
  rw [Nat.zero_add] at hc
  obtain ⟨v,h3,h4⟩:=zfe (P:=P) ht hi hc (hcs.drop off) hp
  exact ⟨v,by simp [execOp,ho,hv,Instr.loadAt,Instr.sureAddr,h3],h4⟩
theorem zyk {P : Program} {o : Oper} {ts : List PV} {t : TypeId} {d : TypeDesc} {inf : TypeInfo} {x : Operand} {sfx : List PV} {p : PV} (ho : o.op = .load t x) (ht : P.underlying t = some d) (hi : P.info? t = some inf)
    (hx:aev ts x=.ep sfx) (hp:zdx (zeb d) inf.size sfx=some p):OpSem P o (vE p) ts :=
 zap rfl rfl fun w0 X S0 M s a w hr hl hs=>by
  rw [ho] at hl
  have h2:=ev_of hr hl (x:=x) (by simp [Op.operands]) hx
  simp only [RV] at h2
  obtain ⟨b,off,cs,hv,hst,hc,hcs⟩:=h2
  obtain ⟨v,h3,h4⟩:=zfe (P:=P) ht hi hc hcs hp
  exact ⟨v,by simp [execOp,ho,hv,Instr.loadAt,Instr.sureAddr,h3],h4.ofCl⟩
theorem zyo {P : Program} {o : Oper} {ts : List PV} {t : TypeId} {d : TypeDesc} {inf : TypeInfo} {x : Operand} {k i off : Nat} {fz : Bool} {sz : Nat} {rows : List (List PV)} {row : List PV} {p : PV} (ho : o.op = .load t x) (ht : P.underlying t = some d) (hi : P.info? t = some inf)
    (hx:aev ts x=.eo k i off) (hrow:rows[i]?=some row) (hp:zdx (zeb d) inf.size (row.drop off)=some p):OpSem P o ⟨p,[],[(k,fz,sz,rows)],[],[],[],[]⟩ ts :=
 zap rfl rfl fun w0 X S0 M s a w hr hl hs=>by
  rw [ho] at hl
  have h2:=ev_of hr hl (x:=x) (by simp [Op.operands]) hx
  simp only [RV] at h2
  obtain ⟨L,hL,hn,hv⟩:=h2
  obtain ⟨hLs,hcase⟩:=hr.toHRel.obj' (hs.2.1 (k,fz,sz,rows) (by simp)) hL
  rcases hcase with ⟨h,_⟩ | ⟨_,_,_,cs,E,hh,_,_,_,hR⟩
  ·rw [hn] at h;cases h
  ·obtain ⟨r1,r2,r3⟩:=hR.row i hrow
   have hc:Cells w L.b (0+i * sz) ((cs.toList.drop (i * sz)).take sz):=((Cells.of_block hh).drop (i * sz)).take sz
   rw [Nat.zero_add] at hc
   obtain ⟨v,h3,h4⟩:=zfe (P:=P) ht hi (hc.drop off) (r2.drop off) hp
   exact ⟨v,by simp [execOp,ho,hv,Instr.loadAt,Instr.sureAddr,hLs,h3],h4.ofCl⟩
def leaf1:PV→Bool
 | .sc v=>v.oneCell'
 | .ag _ | .tu _ | .ls .. | .lp .. | .bad=>false
 | _=>true
def zbm:PV→List PV
 | .ag ps=>ps
 | p=>[p]
theorem zld {M:Mem}{w:World}{p:PV}{v:Value} (h:leaf1 p=true) (hv:RV M w p v):v.oneCell'=true:=by
 cases p with
 | sc x=>simp only [RV] at hv;subst hv;exact h
 | ag ps=>cases h
 | tu ps=>cases h
 | bad=>cases h
 | sl sz rows=>simp only [RV] at hv;obtain ⟨a,n,c,rfl,_⟩:=hv;rfl
 | nl=>simp only [RV] at hv;obtain ⟨a,rfl⟩:=hv;rfl
 | ow k lo len=>simp only [RV] at hv;obtain ⟨L,_,⟨_,_,a,rfl⟩ | ⟨_,_,a,rfl,_⟩⟩:=hv<;>rfl
 | pt k off=>simp only [RV] at hv;obtain ⟨b,_,rfl⟩:=hv;rfl
 | bs k off len=>simp only [RV] at hv;obtain ⟨b,_,rfl⟩:=hv;rfl
 | ep sfx=>simp only [RV] at hv;obtain ⟨b,off,cs,rfl,_⟩:=hv;rfl
 | eo k i off=>simp only [RV] at hv;obtain ⟨L,_,_,rfl⟩:=hv;rfl
 | cl f caps=>simp only [RV] at hv;obtain ⟨cs,rfl,_⟩:=hv;rfl
 | cm f caps=>simp only [RV] at hv;obtain ⟨cs,rfl,_⟩:=hv;rfl
 | ub φ=>simp only [RV] at hv;obtain ⟨b,rfl,_⟩:=hv;rfl
 | nn kd=>simp only [RV] at hv;obtain ⟨b,rfl,_⟩:=hv;rfl
 | ls sz rows=>cases h
 | lp sfx=>cases h
 | fs sz rows=>simp only [RV] at hv;obtain ⟨a,n,c,rfl,_⟩:=hv;rfl
theorem zcu {M:Mem}{w:World}:∀ {ps:List PV}{cs:List Value},ps.all leaf1=true→RVL M w ps cs→∀ v ∈ cs,v.oneCell'=true
 | [],cs,_,h=>by simp only [RVL] at h;subst h;simp
 | p :: ps,cs,ha,h=>by
  simp only [RVL] at h
  obtain ⟨c,r,rfl,h1,h2⟩:=h
  simp only [List.all_cons,Bool.and_eq_true] at ha
  intro v hv
  rcases List.mem_cons.1 hv with rfl | hv
  ·exact zld ha.1 h1
  ·exact zcu ha.2 h2 v hv
theorem zcc {M:Mem}{w:World}{p:PV}{v:Value} (hp:(zbm p).all leaf1=true) (hv:RV M w p v):RVL M w (zbm p) v.cells.toList:=by
 have key:leaf1 p=true→v.cells=#[v]:=fun h=>by
  have:=zld h hv
  cases v<;>first | rfl | (simp [Value.oneCell'] at this)
 cases p with
 | ag ps =>
  simp only [RV] at hv
  obtain ⟨cs,rfl,h⟩:=hv
  simpa [zbm,Value.cells] using h
 | _ =>
  simp only [zbm,List.all_cons,List.all_nil,Bool.and_true] at hp
  rw [key hp]
  simp only [zbm,RVL]
  exact ⟨v,[],rfl,hv,rfl⟩
def splice (ls:List PV) (off:Nat) (ns:List PV):List PV:=ls.take off++ns++ls.drop (off+ns.length)
theorem RVL.splice {M:Mem}{w:World}{ls ns:List PV}{cs ds:List Value} (off:Nat) (h:RVL M w ls cs) (h':RVL M w ns ds):RVL M w (splice ls off ns) (cs.take off++ds++cs.drop (off+ds.length)):=by
 unfold Pv.splice
 rw [h'.length]
 exact ((h.take off).append h').append (h.drop _)
theorem zwa {P : Program} {o : Oper} {ts : List PV} {t : TypeId} {inf : TypeInfo} {x y : Operand} {k off : Nat} {ls : List PV} {p : PV} (ho : o.op = .store t x y) (hi : P.info? t = some inf)
    (hx:aev ts x=.pt k off) (hy:aev ts y=p) (hp:(zbm p).all leaf1=true) (hn:(zbm p).length=inf.size) (hfit:off+(zbm p).length≤ls.length) :
    OpSem P o ⟨.bad,[(k,ls)],[],[],[],[(k,splice ls off (zbm p))],[]⟩ ts:=by
 intro w0 X S0 M s a w Q K hr hl hs hk
 rw [ho] at hl
 have h2:=ev_of hr hl (x:=x) (by simp [Op.operands]) hx
 have h3:=ev_of hr hl (x:=y) (by simp [Op.operands]) hy
 simp only [RV] at h2
 obtain ⟨b,hb,hv⟩:=h2
 have hB:=hs.1 (k,ls) (by simp)
 obtain ⟨hown,T,cs,hh,hcs⟩:=hr.toHRel.box' hB hb
 have hlv:=zcc hp h3
 have hlen:=hlv.length
 have hrun:=run_storeCells_at P b off T (a.eval y).cells.toList 0 cs w hh (by rw [Nat.add_zero,hlen];have:=hcs.length;simp at this;omega) (zcu hp hlv)
 simp only [Nat.add_zero] at hrun
 have hsz:(a.eval y).cells.size=inf.size:=by rw [← hn,← hlen];simp
 unfold Oper.wp
 have hex:(execOp a.eval o).run P w=.ok .skip (w.setRow b (cs.toList.take off++(a.eval y).cells.toList++cs.toList.drop (off+(a.eval y).cells.toList.length)).toArray):=by
  simp [execOp,ho,hv,Instr.storeAt,Instr.sureAddr,storeVar,sizeOf,typeInfo,hi,hsz]
  simp at hrun
  rw [hsz] at hrun
  simp [hrun]
 rw [hex,Oper.upon_skip]
 have hR:=RVL.splice off hcs hlv
 obtain ⟨hnew,hle⟩:=hr.toHRel.setBox (k:=k) (b:=b) (ls:=ls) (ls':=splice ls off (zbm p)) (cs':=(cs.toList.take off++(a.eval y).cells.toList++cs.toList.drop (off+(a.eval y).cells.toList.length)).toArray) hB hb hh (by simpa using hR)
 refine hk M _ _ ?_
 have hr':Rel w0 X S0 M ⟨s.tmps,upd s.B [(k,splice ls off (zbm p))],s.O⟩ a _:=⟨hnew,hr.dfr,hr.len,fun t=>RV.mono hle _ _ (hr.tmp t)⟩
 have:=zbq hr' o.dst (p:=.bad) (v:=undef) (by simp [RV])
 simpa [St.apply,zbv] using this
theorem zy4 {P : Program} {o : Oper} {ts : List PV} {t : TypeId} {inf : TypeInfo} {x : Operand} {k off : Nat} {ls : List PV} {v0 : Value} (ho : o.op = .store t x (.const v0)) (hi : P.info? t = some inf)
    (hx:aev ts x=.pt k off) (hp:(zbm (.sc v0)).all leaf1=true) (hn:(zbm (.sc v0)).length=inf.size) (hfit:off+(zbm (.sc v0)).length≤ls.length) :
    OpSem P o ⟨.bad,[(k,ls)],[],[],[],[(k,splice ls off (zbm (.sc v0)))],[]⟩ ts:=by
 intro w0 X S0 M s a w Q K hr hl hs hk
 rw [ho] at hl
 have h2:=ev_of hr hl (x:=x) (by simp [Op.operands]) hx
 have h3:RV M w (.sc v0) (a.eval (.const v0)):=by simp [RV,Act.eval]
 simp only [RV] at h2
 obtain ⟨b,hb,hv⟩:=h2
 have hB:=hs.1 (k,ls) (by simp)
 obtain ⟨hown,T,cs,hh,hcs⟩:=hr.toHRel.box' hB hb
 have hlv:=zcc hp h3
 have hlen:=hlv.length
 have hrun:=run_storeCells_at P b off T (a.eval (.const v0)).cells.toList 0 cs w hh (by rw [Nat.add_zero,hlen];have:=hcs.length;simp at this;omega) (zcu hp hlv)
 simp only [Nat.add_zero] at hrun
 have hsz:(a.eval (.const v0)).cells.size=inf.size:=by rw [← hn,← hlen];simp
 unfold Oper.wp
 have hex:(execOp a.eval o).run P w=.ok .skip (w.setRow b (cs.toList.take off++(a.eval (.const v0)).cells.toList++cs.toList.drop (off+(a.eval (.const v0)).cells.toList.length)).toArray):=by
  simp [execOp,ho,hv,Instr.storeAt,Instr.sureAddr,storeVar,sizeOf,typeInfo,hi,hsz]
  simp at hrun
  rw [hsz] at hrun
  simp [hrun]
 rw [hex,Oper.upon_skip]
 have hR:=RVL.splice off hcs hlv
 obtain ⟨hnew,hle⟩:=hr.toHRel.setBox (k:=k) (b:=b) (ls:=ls) (ls':=splice ls off (zbm (.sc v0))) (cs':=(cs.toList.take off++(a.eval (.const v0)).cells.toList++cs.toList.drop (off+(a.eval (.const v0)).cells.toList.length)).toArray) hB hb hh (by simpa using hR)
 refine hk M _ _ ?_
 have hr':Rel w0 X S0 M ⟨s.tmps,upd s.B [(k,splice ls off (zbm (.sc v0)))],s.O⟩ a _:=⟨hnew,hr.dfr,hr.len,fun t=>RV.mono hle _ _ (hr.tmp t)⟩
 have:=zbq hr' o.dst (p:=.bad) (v:=undef) (by simp [RV])
 simpa [St.apply,zbv] using this
theorem os_box {P : Program} {o : Oper} {ts : List PV} {t : TypeId} {x : Operand} {d : Nat} {p : PV} (ho : o.op = .box t x) (hx : aev ts x = p) (hp : (zbm p).all leaf1 = true) :
    OpSem P o ⟨.pt d 0,[],[],[d],[],[(d,zbm p)],[]⟩ ts:=by
 intro w0 X S0 M s a w Q K hr hl hs hk
 rw [ho] at hl
 have h3:=ev_of hr hl (x:=x) (by simp [Op.operands]) hx
 have hlv:=zcc hp h3
 obtain ⟨M',hnew,hle,hbx⟩:=hr.toHRel.allocBox (d:=d) (hs.2.2.1 d (by simp)) (a.eval x).cells t hlv
 unfold Oper.wp
 have hex:(execOp a.eval o).run P w=.ok (.value (.pointer (some ⟨w.heap.size,0,none⟩))) (w.alloc (.cells (a.eval x).cells t)):=by
  simp [execOp,ho,Instr.box,newVar,newRow,newObj,Sem.run]
 rw [hex,Oper.upon_value]
 refine hk M' _ _ ?_
 have hr':Rel w0 X S0 M' ⟨s.tmps,upd s.B [(d,zbm p)],s.O⟩ a _:=⟨hnew,hr.dfr,hr.len,fun t=>RV.mono hle _ _ (hr.tmp t)⟩
 have:=zbq hr' o.dst (p:=.pt d 0) (v:=.pointer (some ⟨w.heap.size,0,none⟩)) (by simp only [RV];exact ⟨_,hbx,rfl⟩)
 simpa [St.apply,zbv] using this
def zleaf:Value→PV
 | .slice none 0 0=>.nl
 | v=>.sc v
theorem zrl {M:Mem}{w:World} (v:Value):RV M w (zleaf v) v:=by
 unfold zleaf
 split
 ·simp only [RV];exact ⟨none,rfl⟩
 ·simp [RV]
theorem zcy {M:Mem}{w:World}:∀ vs:List Value,RVL M w (vs.map zleaf) vs
 | []=>by simp [RVL]
 | v :: vs=>by simp only [List.map_cons,RVL];exact ⟨v,vs,rfl,zrl v,zcy vs⟩
theorem z2v {P : Program} {o : Oper} {ts : List PV} {t : TypeId} {d : Nat} {inf : TypeInfo} {z : Value} (ho : o.op = .alloc t) (hi : P.info? t = some inf) (hz : inf.zero = some z) :
    OpSem P o ⟨.pt d 0,[],[],[d],[],[(d,z.cells.toList.map zleaf)],[]⟩ ts:=by
 intro w0 X S0 M s a w Q K hr hl hs hk
 obtain ⟨M',hnew,hle,hbx⟩:=hr.toHRel.allocBox (d:=d) (hs.2.2.1 d (by simp)) z.cells t (zcy (M:=M) (w:=w) z.cells.toList)
 unfold Oper.wp
 have hex:(execOp a.eval o).run P w=.ok (.value (.pointer (some ⟨w.heap.size,0,none⟩))) (w.alloc (.cells z.cells t)):=by
  simp [execOp,ho,Instr.alloc,zeroValue,typeInfo,hi,hz,newVar,newRow,newObj,Sem.run]
 rw [hex,Oper.upon_value]
 refine hk M' _ _ ?_
 have hr':Rel w0 X S0 M' ⟨s.tmps,upd s.B [(d,z.cells.toList.map zleaf)],s.O⟩ a _:=⟨hnew,hr.dfr,hr.len,fun t=>RV.mono hle _ _ (hr.tmp t)⟩
 have:=zbq hr' o.dst (p:=.pt d 0) (v:=.pointer (some ⟨w.heap.size,0,none⟩)) (by simp only [RV];exact ⟨_,hbx,rfl⟩)
 simpa [St.apply,zbv] using this
theorem zwc {P:Program}{o:Oper}{ts:List PV}{x:Operand}{i:Nat}{ps:List PV}{p:PV} (ho:o.op=.extract x i) (hx:aev ts x=.tu ps) (hp:ps[i]?=some p):OpSem P o (vE p) ts :=
 zap rfl rfl fun w0 X S0 M s a w hr hl _=>by
  rw [ho] at hl
  have h1:=ev_of hr hl (x:=x) (by simp [Op.operands]) hx
  simp only [RV] at h1
  obtain ⟨cs,hv,hcs⟩:=h1
  obtain ⟨c,hc,hr'⟩:=hcs.get i hp
  refine ⟨c,?_,hr'⟩
  have:cs[i]?=some c:=by simpa using hc
  simp [execOp,ho,hv,Instr.extract,this]
theorem zno {P : Program} {M : Mem} {w : World} {t : TypeId} {d : TypeDesc} {inf : TypeInfo} {off : Nat} {cs : Array Value} {ps : List PV} {p : PV} (ht : P.underlying t = some d) (hi : P.info? t = some inf) (hl : RVL M w ps cs.toList)
    (hp:zdx (zeb d) inf.size (ps.drop off)=some p):∃ v,(part t cs off).run P w=.ok v w∧RV M w p v:=by
 unfold zdx at hp
 cases hd:zeb d with
 | true =>
  rw [hd] at hp
  simp only [if_true] at hp
  split at hp
  ·cases hp
   refine ⟨.agg (cs.extract off (off+inf.size)),?_,?_⟩
   ·simp [part,zex ht,hd,sizeOf,typeInfo,hi]
   ·simp only [RV]
    refine ⟨_,rfl,?_⟩
    have:=(hl.drop off).take inf.size
    have e:(cs.extract off (off+inf.size)).toList=(cs.toList.drop off).take inf.size:=by
     rw [Array.toList_extract,List.extract_eq_take_drop];simp
    rw [e];exact this
  ·cases hp
 | false =>
  rw [hd] at hp
  simp only [Bool.false_eq_true,if_false] at hp
  have hp':ps[off]?=some p:=by
   rw [List.head?_drop] at hp;exact hp
  obtain ⟨c,hc,hr⟩:=hl.get off hp'
  refine ⟨c,?_,hr⟩
  have:cs[off]?=some c:=by simpa using hc
  simp only [part,Sem.run_bind,zex ht,hd,Result.andThen_ok,Bool.false_eq_true,if_false,this]
  simp
theorem z4w {P : Program} {o : Oper} {ts : List PV} {t elem : TypeId} {x y : Operand} {len : Nat} {d : TypeDesc} {inf : TypeInfo} {ps : List PV} {p : PV} {k : IntKind} {n : Int} (ho : o.op = .index t x y) (ht : P.underlying t = some (.array len elem))
    (hd:P.underlying elem=some d) (hi:P.info? elem=some inf) (hx:aev ts x=.ag ps) (hy:aev ts y=.sc (.int k n)) (h0:0≤n) (h1:n < len) (hp:zdx (zeb d) inf.size (ps.drop (n.toNat * inf.size))=some p):OpSem P o (vE p) ts :=
 zap rfl rfl fun w0 X S0 M s a w hr hl _=>by
  rw [ho] at hl
  have h2:=ev_of hr hl (x:=x) (by simp [Op.operands]) hx
  have h3:=ev_of hr hl (x:=y) (by simp [Op.operands]) hy
  simp only [RV] at h2 h3
  obtain ⟨cs,hv,hcs⟩:=h2
  obtain ⟨v,hrun,hrv⟩:=zno hd hi hcs hp
  refine ⟨v,?_,hrv⟩
  simp [execOp,ho,hv,h3,Instr.index,run_underlying ht,asIntOf,sizeOf,typeInfo,hi,h0,h1,hrun]
theorem zr0 {P : Program} {o : Oper} {ts : List PV} {t : TypeId} {x y : Operand} {sb : ByteArray} {k : IntKind} {n : Int} {b : UInt8} (ho : o.op = .index t x y) (ht : P.underlying t = some .string)
    (hx:aev ts x=.sc (.string sb)) (hy:aev ts y=.sc (.int k n)) (h0:0≤n) (hb:sb[n.toNat]?=some b):OpSem P o (vE (.sc (.int .u8 b.toNat))) ts :=
 zap rfl rfl fun w0 X S0 M s a w hr hl _=>by
  rw [ho] at hl
  have h2:=ev_of hr hl (x:=x) (by simp [Op.operands]) hx
  have h3:=ev_of hr hl (x:=y) (by simp [Op.operands]) hy
  simp only [RV] at h2 h3
  refine ⟨.int .u8 b.toNat,?_,by simp [vE,RV]⟩
  simp [execOp,ho,h2,h3,Instr.index,run_underlying ht,asIntOf,h0,hb]
theorem z3p {P : Program} {o : Oper} {ts : List PV} {t : TypeId} {x : Operand} {i : Nat} {fs : Array Field} {f : Field} {d : TypeDesc} {inf : TypeInfo} {ps : List PV} {p : PV} (ho : o.op = .field t x i) (ht : P.underlying t = some (.struct fs)) (hf : fs[i]? = some f)
    (hd:P.underlying f.type=some d) (hi:P.info? f.type=some inf) (hx:aev ts x=.ag ps) (hp:zdx (zeb d) inf.size (ps.drop f.offset)=some p):OpSem P o (vE p) ts :=
 zap rfl rfl fun w0 X S0 M s a w hr hl _=>by
  rw [ho] at hl
  have h2:=ev_of hr hl (x:=x) (by simp [Op.operands]) hx
  simp only [RV] at h2
  obtain ⟨cs,hv,hcs⟩:=h2
  obtain ⟨v,hrun,hrv⟩:=zno hd hi hcs hp
  refine ⟨v,?_,hrv⟩
  simp [execOp,ho,hv,Instr.field,run_underlying ht,hf,asAgg,hrun]
theorem zrt {P:Program}{o:Oper}{ts:List PV}{x:Operand}{p q:PV} (ho:o.op=.nilCheck x) (hx:aev ts x=p) (hp:padd p 0=some q):OpSem P o (vE p) ts :=
 zap rfl rfl fun w0 X S0 M s a w hr hl _=>by
  rw [ho] at hl
  have h1:=ev_of hr hl (x:=x) (by simp [Op.operands]) hx
  obtain ⟨b,off,hv,_⟩:=zi8 hp h1
  exact ⟨a.eval x,by simp [execOp,ho,hv],h1⟩
theorem zsq {P:Program}{o:Oper}{ts:List PV}{f:Nat}{caps:Array Operand} (ho:o.op=.makeFunc (.func f) #[] caps):OpSem P o (vE (.cl f (caps.toList.map (aev ts)))) ts :=
 zap rfl rfl fun w0 X S0 M s a w hr hl _=>by
  rw [ho] at hl
  refine ⟨.func (.func f) #[] (caps.map a.eval),by simp [execOp,ho,Instr.makeFunc],?_⟩
  simp only [vE,RV]
  refine ⟨caps.map a.eval,rfl,?_⟩
  have key:∀ xs:List Operand,(∀ x ∈ xs,aev s.tmps x=aev ts x)→RVL M w (xs.map (aev ts)) (xs.map a.eval):=by
   intro xs
   induction xs with
   | nil=>intro _;simp [RVL]
   | cons x xs ih =>
    intro hx
    simp only [List.map_cons,RVL]
    refine ⟨_,_,rfl,?_,ih fun y hy=>hx y (by simp [hy])⟩
    rw [← hx x (by simp)]
    exact hr.eval x
  simpa using key caps.toList (fun x hx=>hl x (by simpa [Op.operands] using hx))
theorem zqb {P:Program}{o:Oper}{ts:List PV}{f:Nat}{caps:Array Operand} (ho:o.op=.makeFunc (.func f) caps #[]):OpSem P o (vE (.cm f (caps.toList.map (aev ts)))) ts :=
 zap rfl rfl fun w0 X S0 M s a w hr hl _=>by
  rw [ho] at hl
  refine ⟨.func (.func f) (caps.map a.eval) #[],by simp [execOp,ho,Instr.makeFunc],?_⟩
  simp only [vE,RV]
  refine ⟨caps.map a.eval,rfl,?_⟩
  have key:∀ xs:List Operand,(∀ x ∈ xs,aev s.tmps x=aev ts x)→RVL M w (xs.map (aev ts)) (xs.map a.eval):=by
   intro xs
   induction xs with
   | nil=>intro _;simp [RVL]
   | cons x xs ih =>
    intro hx
    simp only [List.map_cons,RVL]
    refine ⟨_,_,rfl,?_,ih fun y hy=>hx y (by simp [hy])⟩
    rw [← hx x (by simp)]
    exact hr.eval x
  simpa using key caps.toList (fun x hx=>hl x (by simpa [Op.operands] using hx))
theorem zzo {P : Program} {o : Oper} {ts : List PV} {x : Operand} {t e : TypeId} {p : PV} {n : Nat} (ho : o.op = .call { callee := .builtin .len, args := #[x], argTypes := #[t] }) (ht : P.underlying t = some (.slice e)) (hx : aev ts x = p)
    (hn:(∃ sz rows,p=.sl sz rows∧n=rows.length)∨(p=.nl∧n=0)∨∃ k lo,p=.ow k lo n):OpSem P o (vE (.sc (.int .i64 n))) ts :=
 zap rfl rfl fun w0 X S0 M s a w hr hl _=>by
  rw [ho] at hl
  have h1:=ev_of hr hl (x:=x) (by simp [Op.operands,Call.operands]) hx
  have hv:∃ ad c,a.eval x=.slice ad n c:=by
   rcases hn with ⟨sz,rows,rfl,rfl⟩ | ⟨rfl,rfl⟩ | ⟨k,lo,rfl⟩
   ·simp only [RV] at h1
    obtain ⟨ad,m,c,h,rfl,_⟩:=h1
    exact ⟨ad,c,h⟩
   ·simp only [RV] at h1
    obtain ⟨ad,h⟩:=h1
    exact ⟨ad,0,h⟩
   ·simp only [RV] at h1
    obtain ⟨L,_,⟨_,rfl,ad,h⟩ | ⟨_,_,ad,h,_⟩⟩:=h1
    ·exact ⟨ad,0,h⟩
    ·exact ⟨ad,_,h⟩
  obtain ⟨ad,c,hv⟩:=hv
  exact ⟨.int .i64 n,by simp [execOp,ho,resolve,invoke,builtin,Builtin.len_,run_underlying ht,hv,goInt],by simp [vE,RV]⟩
theorem zzv {P:Program}{o:Oper}{ts:List PV}{x:Operand}{t:TypeId}{b:ByteArray} (ho:o.op=.call { callee:=.builtin .len,args:=#[x],argTypes:=#[t] }) (ht:P.underlying t=some .string) (hx:aev ts x=.sc (.string b)):OpSem P o (vE (.sc (.int .i64 b.size))) ts :=
 zap rfl rfl fun w0 X S0 M s a w hr hl _=>by
  rw [ho] at hl
  have h1:=ev_of hr hl (x:=x) (by simp [Op.operands,Call.operands]) hx
  simp only [RV] at h1
  exact ⟨.int .i64 b.size,by simp [execOp,ho,resolve,invoke,builtin,Builtin.len_,run_underlying ht,h1,goInt],by simp [vE,RV]⟩
theorem os_max {P:Program}{o:Oper}{ts:List PV}{x y:Operand}{tys:Array TypeId}{k k':IntKind}{m n:Int} (ho:o.op=.call { callee:=.builtin .max,args:=#[x,y],argTypes:=tys }) (hx:aev ts x=.sc (.int k m)) (hy:aev ts y=.sc (.int k' n)):OpSem P o (vE (.sc (.int k (if n > m then n else m)))) ts :=
 zap rfl rfl fun w0 X S0 M s a w hr hl _=>by
  rw [ho] at hl
  have h1:=ev_of hr hl (x:=x) (by simp [Op.operands,Call.operands]) hx
  have h2:=ev_of hr hl (x:=y) (by simp [Op.operands,Call.operands]) hy
  simp only [RV] at h1 h2
  exact ⟨.int k (if n > m then n else m),by simp [execOp,ho,resolve,invoke,builtin,Builtin.max_,Builtin.max2,h1,h2],by simp [vE,RV]⟩
theorem os_min {P:Program}{o:Oper}{ts:List PV}{x y:Operand}{tys:Array TypeId}{k k':IntKind}{m n:Int} (ho:o.op=.call { callee:=.builtin .min,args:=#[x,y],argTypes:=tys }) (hx:aev ts x=.sc (.int k m)) (hy:aev ts y=.sc (.int k' n)):OpSem P o (vE (.sc (.int k (if n < m then n else m)))) ts :=
 zap rfl rfl fun w0 X S0 M s a w hr hl _=>by
  rw [ho] at hl
  have h1:=ev_of hr hl (x:=x) (by simp [Op.operands,Call.operands]) hx
  have h2:=ev_of hr hl (x:=y) (by simp [Op.operands,Call.operands]) hy
  simp only [RV] at h1 h2
  exact ⟨.int k (if n < m then n else m),by simp [execOp,ho,resolve,invoke,builtin,Builtin.min_,Builtin.min2,h1,h2],by simp [vE,RV]⟩
def fminW (o:Ordering) (a b:Nat):Nat:=match o with
 | .lt=>a
 | .gt=>b
 | .eq=>if (FloatKind.f64.decode a).neg then a else b
theorem os_minF {P:Program}{o:Oper}{ts:List PV}{x y:Operand}{tys:Array TypeId}{a b:Nat}{q:Ordering} (ho:o.op=.call { callee:=.builtin .min,args:=#[x,y],argTypes:=tys }) (hx:aev ts x=.sc (.float .f64 a)) (hy:aev ts y=.sc (.float .f64 b)) (hq:FloatKind.f64.format.order a b=some q):OpSem P o (vE (.sc (.float .f64 (fminW q a b)))) ts :=
 zap rfl rfl fun w0 X S0 M s ac w hr hl _=>by
  rw [ho] at hl
  have h1:=ev_of hr hl (x:=x) (by simp [Op.operands,Call.operands]) hx
  have h2:=ev_of hr hl (x:=y) (by simp [Op.operands,Call.operands]) hy
  simp only [RV] at h1 h2
  exact ⟨.float .f64 (fminW q a b),by cases q<;>simp [execOp,ho,resolve,invoke,builtin,Builtin.min_,Builtin.min2,h1,h2,hq,fminW],by simp [vE,RV]⟩
def pfill (place:Nat→Option (Nat×Nat)) (ls:List PV):List (Nat×PV)→Option (List PV)
 | []=>some ls
 | (i,p) :: rest =>
  match place i with
  | none=>none
  | some (off,size)=>if (zbm p).all leaf1 && (zbm p).length == size && off+size≤ls.length then pfill place (splice ls off (zbm p)) rest else none
theorem zus (off : Nat) : ∀ (vs : List Value) (j : Nat) (cells : Array Value), off + j + vs.length ≤ cells.size →
    ((vs.zipIdx j).foldl (fun (cs:Array Value) (x:Value×Nat)=>cs.setIfInBounds (off+x.2) x.1) cells).toList=cells.toList.take (off+j)++vs++cells.toList.drop (off+j+vs.length)
 | [],j,cells,_=>by simp
 | v :: vs,j,cells,h=>by
  simp only [List.length_cons] at h
  simp only [List.zipIdx_cons,List.foldl_cons]
  rw [zus off vs (j+1) _ (by simp;omega)]
  have e:=list_seg_step cells.toList (off+j) v vs (by simp;omega)
  simpa [Array.toList_setIfInBounds,Nat.add_assoc,Nat.add_comm 1] using e
theorem zfv {M : Mem} {w : World} {place : Nat → Option (Nat × Nat)} : ∀ {parts : List (Nat × PV)} {rparts : List (Nat × Value)} {ls : List PV} {cs : Array Value} {ls' : List PV},
    pfill place ls parts=some ls'→RVL M w ls cs.toList→rparts.map (·.1)=parts.map (·.1)→RVL M w (parts.map (·.2)) (rparts.map (·.2))→ls.all leaf1=true →
    (∀ p ∈ parts,(zbm p.2).all leaf1=true→∀ v,RV M w p.2 v→RVL M w (zbm p.2) v.cells.toList) →
    ∃ cs',Instr.fill place cs rparts=some cs'∧RVL M w ls' cs'.toList
 | [],rparts,ls,cs,ls',h,hl,h1,h2,_,_=>by
  simp only [pfill] at h;cases h
  have:rparts=[]:=by cases rparts<;>simp_all
  subst this
  exact ⟨cs,rfl,hl⟩
 | (i,p) :: rest,rparts,ls,cs,ls',h,hl,h1,h2,ha,hlv=>by
  cases rparts with
  | nil=>simp at h1
  | cons rp rr =>
   obtain ⟨i',v⟩:=rp
   simp only [List.map_cons,List.cons.injEq] at h1
   obtain ⟨rfl,h1⟩:=h1
   simp only [List.map_cons,RVL] at h2
   obtain ⟨c,r,hcr,hv,h2⟩:=h2
   simp only [List.cons.injEq] at hcr
   obtain ⟨rfl,rfl⟩:=hcr
   simp only [pfill] at h
   cases hp:place i' with
   | none=>simp [hp] at h
   | some os =>
    obtain ⟨off,size⟩:=os
    simp only [hp] at h
    split at h
    ·rename_i hc
     simp only [Bool.and_eq_true,beq_iff_eq,decide_eq_true_eq] at hc
     obtain ⟨⟨c1,c2⟩,c3⟩:=hc
     have hlv':=zcc c1 hv
     have hlen:v.cells.size=size:=by have:=hlv'.length;simp at this;omega
     have hcsz:cs.size=ls.length:=by have:=hl.length;simpa using this
     have hfold:=zus off v.cells.toList 0 cs (by simp;omega)
     have hR:=RVL.splice off hl hlv'
     simp only [Nat.add_zero] at hfold
     rw [← hfold] at hR
     have hall:(splice ls off (zbm p)).all leaf1=true:=by
      unfold splice
      rw [List.all_append,List.all_append]
      simp only [Bool.and_eq_true]
      refine ⟨⟨?_,c1⟩,?_⟩
      ·rw [List.all_eq_true] at ha ⊢;exact fun x hx=>ha x (List.mem_of_mem_take hx)
      ·rw [List.all_eq_true] at ha ⊢;exact fun x hx=>ha x (List.mem_of_mem_drop hx)
     obtain ⟨cs',h3,h4⟩:=zfv (rparts:=rr) h hR h1 h2 hall (fun q hq=>hlv q (by simp [hq]))
     refine ⟨cs',?_,h4⟩
     simp only [Instr.fill,hp]
     rw [if_neg (by simp;omega)]
     rw [← h3]
     congr 1
     rw [← Array.foldl_toList,Array.toList_zipIdx]
    ·cases h
def znv (P:Program) (t:TypeId):Option (Nat→Option (Nat×Nat)) :=
 match P.underlying t with
 | some (.array _ e)=>match P.info? e with
  | some ie=>some fun i=>some (i * ie.size,ie.size)
  | none=>none
 | some (.struct fields)=>match fields.toList.mapM (fun f=>(P.info? f.type).map fun i=>(f.offset,i.size)) with
  | some places=>some fun i=>places.toArray[i]?
  | none=>none
 | _=>none
def zeroT (P:Program) (t:TypeId):Option Value:=match P.info? t with | some i=>i.zero | none=>none
theorem zgx {w0:World}{X:Nat→Prop}{S0:Base}{M:Mem}{s:St}{a:Act}{w:World} (hr:Rel w0 X S0 M s a w) (ts:List PV):∀ xs:List Operand,(∀ x ∈ xs,aev s.tmps x=aev ts x)→RVL M w (xs.map (aev ts)) (xs.map a.eval)
 | [],_=>by simp [RVL]
 | x :: xs,h=>by
  simp only [List.map_cons,RVL]
  refine ⟨_,_,rfl,?_,zgx hr ts xs fun y hy=>h y (by simp [hy])⟩
  rw [← h x (by simp)]
  exact hr.eval x
theorem z38 {P : Program} {o : Oper} {ts : List PV} {t : TypeId} {parts : Array (Nat × Operand)} {z : Value} {place : Nat → Option (Nat × Nat)} {ls : List PV} (ho : o.op = .build t parts) (hz : zeroT P t = some z) (hp : znv P t = some place)
    (hz1:(z.cells.toList.map zleaf).all leaf1=true) (hf:pfill place (z.cells.toList.map zleaf) (parts.toList.map fun p=>(p.1,aev ts p.2))=some ls):OpSem P o (vE (.ag ls)) ts :=
 zap rfl rfl fun w0 X S0 M s a w hr hl _=>by
  rw [ho] at hl
  have hmap:=zgx hr ts (parts.toList.map (·.2)) (fun x hx=>hl x (by simpa [Op.operands] using hx))
  obtain ⟨cs',h1,h2⟩:=zfv (M:=M) (w:=w) (rparts:=parts.toList.map fun p=>(p.1,a.eval p.2)) (cs:=z.cells) hf (zcy _) (by simp) (by simp only [List.map_map] at hmap ⊢;exact hmap) hz1 (fun p _ hp v hv=>zcc hp hv)
  refine ⟨.agg cs',?_,by simp only [vE,RV];exact ⟨cs',rfl,h2⟩⟩
  have hbuilt:P.built t (parts.toList.map fun p=>(p.1,a.eval p.2))=some cs':=by
   unfold Program.built
   unfold zeroT at hz
   unfold znv at hp
   cases hit:P.info? t with
   | none=>simp [hit] at hz
   | some it =>
    simp only [hit] at hz
    cases hu:P.underlying t with
    | none=>simp [hu] at hp
    | some d =>
     cases d<;>try (simp [hu] at hp;done)
     case array n e =>
      simp only [hu] at hp
      cases hie:P.info? e with
      | none=>simp [hie] at hp
      | some ie=>simp only [hie] at hp;cases hp;simp only [hz,hie];exact h1
     case struct fields =>
      simp only [hu] at hp
      cases hm:fields.toList.mapM (fun f=>(P.info? f.type).map fun i=>(f.offset,i.size)) with
      | none=>simp [hm] at hp
      | some places=>simp only [hm] at hp;cases hp;simp only [hz,hm];exact h1
  have:=run_build (P:=P) w t (parts.map fun p=>(p.1,a.eval p.2)) cs' (by simpa using hbuilt)
  simp only [execOp,ho,Sem.run_bind]
  simp [this]
def chunk (sz:Nat):Nat→List PV→List (List PV)
 | 0,_=>[]
 | n+1,ls=>ls.take sz :: chunk sz n (ls.drop sz)
theorem zhf {M:Mem}{w:World}{sz:Nat}:∀ (n:Nat) {ls:List PV}{cs:List Value},RVL M w ls cs→n * sz≤ls.length→RVR M w sz (chunk sz n ls) cs
 | 0,ls,cs,_,_=>by simp [chunk,RVR]
 | n+1,ls,cs,h,hl=>by
  simp only [Nat.add_mul,Nat.one_mul] at hl
  simp only [chunk,RVR]
  refine ⟨cs.take sz,cs.drop sz,(List.take_append_drop _ _).symm,by simp;omega,h.take sz,zhf n (h.drop sz) (by simp;omega)⟩
theorem zgi (sz:Nat):∀ (n:Nat) (ls:List PV),(chunk sz n ls).length=n
 | 0,_=>rfl
 | n+1,ls=>by simp [chunk,zgi sz n]
theorem zhc {P : Program} {o : Oper} {ts : List PV} {t e : TypeId} {len : Nat} {parts : Array (Nat × Operand)} {inf : TypeInfo} {z : Value} {ls : List PV} (ho : o.op = .buildSlice t len parts) (ht : P.underlying t = some (.slice e)) (hi : P.info? e = some inf) (hz : inf.zero = some z)
    (hzs:z.cells.size=inf.size) (hpos:0 < len * inf.size) (hsm:len * inf.size≤2 ^ 24) (hz1:(z.cells.toList.map zleaf).all leaf1=true)
    (hf:pfill (fun i=>some (i * inf.size,inf.size)) (List.replicate len (z.cells.toList.map zleaf)).flatten (parts.toList.map fun p=>(p.1,aev ts p.2))=some ls) (hlen:ls.length=len * inf.size) {q:PV} (hq:∀ (M:Mem) (w:World) (b:Nat) (cs:List Value),M.st b→Cells w b 0 cs→RVL M w ls cs→RV M w q (.slice (some ⟨b,0,none⟩) len len)):OpSem P o (vE q) ts:=by
 intro w0 X S0 M s a w Q K hr hl hs hk
 rw [ho] at hl
 have hmap:=zgx hr ts (parts.toList.map (·.2)) (fun x hx=>hl x (by simpa [Op.operands] using hx))
 have hrep:∀ n,RVL M w (List.replicate n (z.cells.toList.map zleaf)).flatten (List.replicate n z.cells.toList).flatten:=by
  intro n
  induction n with
  | zero=>simp [RVL]
  | succ n ih=>simp only [List.replicate_succ,List.flatten_cons];exact (zcy _).append ih
 have hall:∀ n,(List.replicate n (z.cells.toList.map zleaf)).flatten.all leaf1=true:=by
  intro n
  induction n with
  | zero=>rfl
  | succ n ih=>simp only [List.replicate_succ,List.flatten_cons,List.all_append,hz1,ih,Bool.and_true]
 have hzz:(Array.range (len * inf.size)).map (z.cells[· % z.cells.size]!)=((List.replicate len z.cells.toList).flatten).toArray:=by
  rw [hzs]
  have hsz:0 < inf.size:=Nat.pos_of_mul_pos_left hpos
  apply Array.ext'
  simp only [Array.toList_map,Array.toList_range]
  apply List.ext_getElem?
  intro i
  clear hf hpos hsm hlen hall hrep ho
  rw [List.getElem?_map]
  have key:∀ (n i:Nat),((List.replicate n z.cells.toList).flatten)[i]?=if i < n * inf.size then z.cells.toList[i % inf.size]? else none:=by
   intro n
   induction n with
   | zero=>intro i;simp
   | succ n ih =>
    intro i
    simp only [List.replicate_succ,List.flatten_cons]
    rw [List.getElem?_append]
    have hl2:z.cells.toList.length=inf.size:=by simpa using hzs
    by_cases h:i < inf.size
    ·rw [if_pos (by omega),if_pos (by rw [Nat.add_mul];omega),Nat.mod_eq_of_lt h]
    ·rw [if_neg (by omega),ih,hl2]
     have e1:(i - inf.size) % inf.size=i % inf.size:=by
      conv=>rhs;rw [show i=(i - inf.size)+inf.size by omega,Nat.add_mod_right]
     rw [e1]
     by_cases h2:i - inf.size < n * inf.size
     ·rw [if_pos h2,if_pos (by rw [Nat.add_mul];omega)]
     ·rw [if_neg h2,if_neg (by rw [Nat.add_mul];omega)]
  rw [key]
  by_cases h:i < len * inf.size
  ·have hm:i % inf.size < z.cells.size:=by rw [hzs];exact Nat.mod_lt _ hsz
   rw [if_pos h,List.getElem?_range h]
   simp [hm]
  ·rw [if_neg h,List.getElem?_eq_none (by simp;omega)]
   rfl
 obtain ⟨cs',h1,h2⟩:=zfv (M:=M) (w:=w) (rparts:=parts.toList.map fun p=>(p.1,a.eval p.2)) (cs:=((List.replicate len z.cells.toList).flatten).toArray) hf (by simpa using hrep len) (by simp) (by simp only [List.map_map] at hmap ⊢;exact hmap) (hall len) (fun p _ hp v hv=>zcc hp hv)
 obtain ⟨M',hnew,hle,hst⟩:=hr.toHRel.allocSt (.cells cs' e) ⟨_,_,rfl⟩
 unfold Oper.wp
 have hne:¬ (len * inf.size=0):=by omega
 have hno:¬ (len * inf.size > 2 ^ 24):=by omega
 have hno':¬ (16777216 < len * inf.size):=by simpa using hno
 have hex:(execOp a.eval o).run P w=.ok (.value (.slice (some ⟨w.heap.size,0,none⟩) len len)) (w.alloc (.cells cs' e)):=by
  have hzz':Array.map (fun x=>z.cells[x % z.cells.size]!) (Array.range (len * inf.size))=((List.replicate len z.cells.toList).flatten).toArray:=hzz
  simp [execOp,ho,Instr.buildSlice,run_underlying ht,sizeOf,typeInfo,hi,hz,zeroValue,hno',newRow,newObj]
  rw [hzz',h1]
  simp [Sem.run]
  exact fun e=>absurd e hne
 rw [hex,Oper.upon_value]
 refine hk M' _ _ ?_
 have hr':Rel w0 X S0 M' s a (w.alloc (.cells cs' e)):=⟨hnew,hr.dfr,hr.len,fun t=>RV.mono hle _ _ (hr.tmp t)⟩
 have:=zbq hr' o.dst (p:=q) (v:=.slice (some ⟨w.heap.size,0,none⟩) len len) (hq M' _ w.heap.size cs'.toList hst (Cells.of_block (zcd w _)) (RVL.mono hle _ _ h2))
 simpa [St.apply,zbv,vE] using this
theorem zsp {P : Program} {o : Oper} {ts : List PV} {t e : TypeId} {len : Nat} {parts : Array (Nat × Operand)} {inf : TypeInfo} {z : Value} {ls : List PV} (ho : o.op = .buildSlice t len parts) (ht : P.underlying t = some (.slice e)) (hi : P.info? e = some inf) (hz : inf.zero = some z)
    (hzs:z.cells.size=inf.size) (hpos:0 < len * inf.size) (hsm:len * inf.size≤2 ^ 24) (hz1:(z.cells.toList.map zleaf).all leaf1=true)
    (hf:pfill (fun i=>some (i * inf.size,inf.size)) (List.replicate len (z.cells.toList.map zleaf)).flatten (parts.toList.map fun p=>(p.1,aev ts p.2))=some ls) (hlen:ls.length=len * inf.size) {d:Nat}:OpSem P o ⟨.bs d 0 len,[],[],[d],[],[(d,ls)],[]⟩ ts:=by
 intro w0 X S0 M s a w Q K hr hl hs hk
 rw [ho] at hl
 have hmap:=zgx hr ts (parts.toList.map (·.2)) (fun x hx=>hl x (by simpa [Op.operands] using hx))
 have hrep:∀ n,RVL M w (List.replicate n (z.cells.toList.map zleaf)).flatten (List.replicate n z.cells.toList).flatten:=by
  intro n
  induction n with
  | zero=>simp [RVL]
  | succ n ih=>simp only [List.replicate_succ,List.flatten_cons];exact (zcy _).append ih
 have hall:∀ n,(List.replicate n (z.cells.toList.map zleaf)).flatten.all leaf1=true:=by
  intro n
  induction n with
  | zero=>rfl
  | succ n ih=>simp only [List.replicate_succ,List.flatten_cons,List.all_append,hz1,ih,Bool.and_true]
 have hzz:(Array.range (len * inf.size)).map (z.cells[· % z.cells.size]!)=((List.replicate len z.cells.toList).flatten).toArray:=by
  rw [hzs]
  have hsz:0 < inf.size:=Nat.pos_of_mul_pos_left hpos
  apply Array.ext'
  simp only [Array.toList_map,Array.toList_range]
  apply List.ext_getElem?
  intro i
  clear hf hpos hsm hlen hall hrep ho
  rw [List.getElem?_map]
  have key:∀ (n i:Nat),((List.replicate n z.cells.toList).flatten)[i]?=if i < n * inf.size then z.cells.toList[i % inf.size]? else none:=by
   intro n
   induction n with
   | zero=>intro i;simp
   | succ n ih =>
    intro i
    simp only [List.replicate_succ,List.flatten_cons]
    rw [List.getElem?_append]
    have hl2:z.cells.toList.length=inf.size:=by simpa using hzs
    by_cases h:i < inf.size
    ·rw [if_pos (by omega),if_pos (by rw [Nat.add_mul];omega),Nat.mod_eq_of_lt h]
    ·rw [if_neg (by omega),ih,hl2]
     have e1:(i - inf.size) % inf.size=i % inf.size:=by
      conv=>rhs;rw [show i=(i - inf.size)+inf.size by omega,Nat.add_mod_right]
     rw [e1]
     by_cases h2:i - inf.size < n * inf.size
     ·rw [if_pos h2,if_pos (by rw [Nat.add_mul];omega)]
     ·rw [if_neg h2,if_neg (by rw [Nat.add_mul];omega)]
  rw [key]
  by_cases h:i < len * inf.size
  ·have hm:i % inf.size < z.cells.size:=by rw [hzs];exact Nat.mod_lt _ hsz
   rw [if_pos h,List.getElem?_range h]
   simp [hm]
  ·rw [if_neg h,List.getElem?_eq_none (by simp;omega)]
   rfl
 obtain ⟨cs',h1,h2⟩:=zfv (M:=M) (w:=w) (rparts:=parts.toList.map fun p=>(p.1,a.eval p.2)) (cs:=((List.replicate len z.cells.toList).flatten).toArray) hf (by simpa using hrep len) (by simp) (by simp only [List.map_map] at hmap ⊢;exact hmap) (hall len) (fun p _ hp v hv=>zcc hp hv)
 obtain ⟨M',hnew,hle,hbx⟩:=hr.toHRel.allocBox (d:=d) (hs.2.2.1 d (by simp)) cs' e h2
 unfold Oper.wp
 have hne:¬ (len * inf.size=0):=by omega
 have hno:¬ (len * inf.size > 2 ^ 24):=by omega
 have hno':¬ (16777216 < len * inf.size):=by simpa using hno
 have hex:(execOp a.eval o).run P w=.ok (.value (.slice (some ⟨w.heap.size,0,none⟩) len len)) (w.alloc (.cells cs' e)):=by
  have hzz':Array.map (fun x=>z.cells[x % z.cells.size]!) (Array.range (len * inf.size))=((List.replicate len z.cells.toList).flatten).toArray:=hzz
  simp [execOp,ho,Instr.buildSlice,run_underlying ht,sizeOf,typeInfo,hi,hz,zeroValue,hno',newRow,newObj]
  rw [hzz',h1]
  simp [Sem.run]
  exact fun e=>absurd e hne
 rw [hex,Oper.upon_value]
 refine hk M' _ _ ?_
 have hr':Rel w0 X S0 M' ⟨s.tmps,upd s.B [(d,ls)],s.O⟩ a (w.alloc (.cells cs' e)):=⟨hnew,hr.dfr,hr.len,fun t=>RV.mono hle _ _ (hr.tmp t)⟩
 have:=zbq hr' o.dst (p:=.bs d 0 len) (v:=.slice (some ⟨w.heap.size,0,none⟩) len len) (by simp only [RV];exact ⟨_,hbx,rfl⟩)
 simpa [St.apply,zbv] using this
theorem z10 {P:Program}{o:Oper}{ts:List PV}{x:Operand}{t e:TypeId}{k off n:Nat} (ho:o.op=.call { callee:=.builtin .len,args:=#[x],argTypes:=#[t] }) (ht:P.underlying t=some (.slice e)) (hx:aev ts x=.bs k off n):OpSem P o (vE (.sc (.int .i64 n))) ts :=
 zap rfl rfl fun w0 X S0 M s a w hr hl _=>by
  rw [ho] at hl
  have h1:=ev_of hr hl (x:=x) (by simp [Op.operands,Call.operands]) hx
  simp only [RV] at h1
  obtain ⟨b,hb,hv⟩:=h1
  exact ⟨.int .i64 n,by simp [execOp,ho,resolve,invoke,builtin,Builtin.len_,run_underlying ht,hv,goInt],by simp [vE,RV]⟩
theorem zw1 {P : Program} {o : Oper} {ts : List PV} {t elem : TypeId} {x y : Operand} {inf : TypeInfo} {key off len : Nat} {k : IntKind} {n : Int} (ho : o.op = .indexAddr t x y) (ht : P.underlying t = some (.slice elem))
    (hi:P.info? elem=some inf) (hx:aev ts x=.bs key off len) (hy:aev ts y=.sc (.int k n)) (h0:0≤n) (h1:n < (len:Int)):OpSem P o (vE (.pt key (off+n.toNat * inf.size))) ts :=
 zap rfl rfl fun w0 X S0 M s a w hr hl _=>by
  rw [ho] at hl
  have h2:=ev_of hr hl (x:=x) (by simp [Op.operands]) hx
  have h3:=ev_of hr hl (x:=y) (by simp [Op.operands]) hy
  simp only [RV] at h2 h3
  obtain ⟨b,hb,hv⟩:=h2
  refine ⟨.pointer (some ⟨b,off+n.toNat * inf.size,none⟩),?_,?_⟩
  ·simp [execOp,ho,hv,h3,Instr.indexAt,run_underlying ht,asIntOf,Instr.sureAddr,sizeOf,typeInfo,hi,h0,h1,Addr.add_lit]
  ·simp only [vE,RV]
   exact ⟨b,hb,rfl⟩
theorem zo1 {P : Program} {o : Oper} {ts : List PV} {t e : TypeId} {len : Nat} {parts : Array (Nat × Operand)} {inf : TypeInfo} {z : Value} {ls : List PV} (ho : o.op = .buildSlice t len parts) (ht : P.underlying t = some (.slice e)) (hi : P.info? e = some inf) (hz : inf.zero = some z)
    (hzs:z.cells.size=inf.size) (hpos:0 < len * inf.size) (hsm:len * inf.size≤2 ^ 24) (hz1:(z.cells.toList.map zleaf).all leaf1=true)
    (hf:pfill (fun i=>some (i * inf.size,inf.size)) (List.replicate len (z.cells.toList.map zleaf)).flatten (parts.toList.map fun p=>(p.1,aev ts p.2))=some ls) (hlen:ls.length=len * inf.size) (hpl:zec ls=true):OpSem P o (vE (.sl inf.size (chunk inf.size len ls))) ts :=
 zhc ho ht hi hz hzs hpos hsm hz1 hf hlen fun M w b cs hb hc hl=>by
  simp only [RV]
  exact ⟨_,len,len,rfl,by rw [zgi],Nat.le_refl _,.inr ⟨b,0,cs,rfl,hb,hc,zhf len (RVL.toCl _ _ hpl hl) (by omega)⟩⟩
theorem zmb {P : Program} {o : Oper} {ts : List PV} {t e : TypeId} {len : Nat} {parts : Array (Nat × Operand)} {inf : TypeInfo} {z : Value} {ls : List PV} (ho : o.op = .buildSlice t len parts) (ht : P.underlying t = some (.slice e)) (hi : P.info? e = some inf) (hz : inf.zero = some z)
    (hzs:z.cells.size=inf.size) (hpos:0 < len * inf.size) (hsm:len * inf.size≤2 ^ 24) (hz1:(z.cells.toList.map zleaf).all leaf1=true)
    (hf:pfill (fun i=>some (i * inf.size,inf.size)) (List.replicate len (z.cells.toList.map zleaf)).flatten (parts.toList.map fun p=>(p.1,aev ts p.2))=some ls) (hlen:ls.length=len * inf.size):OpSem P o (vE (.ls inf.size (chunk inf.size len ls))) ts :=
 zhc ho ht hi hz hzs hpos hsm hz1 hf hlen fun M w b cs hb hc hl=>by
  simp only [RV]
  exact ⟨b,cs,by rw [zgi],hb,hc,zhf len hl (by omega)⟩
theorem zwb {P : Program} {o : Oper} {ts : List PV} {t elem : TypeId} {x y : Operand} {inf : TypeInfo} {sz : Nat} {rows : List (List PV)} {k : IntKind} {n : Int} {row : List PV} (ho : o.op = .indexAddr t x y) (ht : P.underlying t = some (.slice elem))
    (hi:P.info? elem=some inf) (hsz:inf.size=sz) (hx:aev ts x=.ls sz rows) (hy:aev ts y=.sc (.int k n)) (h0:0≤n) (hrow:rows[n.toNat]?=some row):OpSem P o (vE (.lp row)) ts :=
 zap rfl rfl fun w0 X S0 M s a w hr hl _=>by
  rw [ho] at hl
  have h2:=ev_of hr hl (x:=x) (by simp [Op.operands]) hx
  have h3:=ev_of hr hl (x:=y) (by simp [Op.operands]) hy
  simp only [RV] at h2 h3
  obtain ⟨b,cs,hv,hst,hc,hR⟩:=h2
  have hlt:n.toNat < rows.length:=(List.getElem?_eq_some_iff.1 hrow).1
  obtain ⟨r1,r2,r3⟩:=hR.row n.toNat hrow
  refine ⟨.pointer (some ⟨b,0+n.toNat * sz,none⟩),?_,?_⟩
  ·have hn:n < rows.length:=by omega
   simp [execOp,ho,hv,h3,Instr.indexAt,run_underlying ht,asIntOf,Instr.sureAddr,sizeOf,typeInfo,hi,h0,hn,Addr.add_lit,hsz]
  ·simp only [vE,RV]
   exact ⟨b,0+n.toNat * sz,_,rfl,hst,(hc.drop (n.toNat * sz)).take sz,r2⟩
theorem z03 {P:Program}{o:Oper}{ts:List PV}{t:TypeId}{d:TypeDesc}{inf:TypeInfo}{x:Operand}{sfx:List PV}{p:PV} (ho:o.op=.load t x) (ht:P.underlying t=some d) (hi:P.info? t=some inf) (hx:aev ts x=.lp sfx) (hp:zdx (zeb d) inf.size sfx=some p):OpSem P o (vE p) ts :=
 zap rfl rfl fun w0 X S0 M s a w hr hl _=>by
  rw [ho] at hl
  have h2:=ev_of hr hl (x:=x) (by simp [Op.operands]) hx
  simp only [RV] at h2
  obtain ⟨b,off,cs,hv,hst,hc,hR⟩:=h2
  obtain ⟨v,h3,h4⟩:=zfe (P:=P) ht hi hc hR hp
  refine ⟨v,?_,h4⟩
  simp [execOp,ho,hv,Instr.loadAt,Instr.sureAddr,h3]
theorem z4r {P:Program}{o:Oper}{ts:List PV}{x:Operand}{t e:TypeId}{sz:Nat}{rows:List (List PV)} (ho:o.op=.call { callee:=.builtin .len,args:=#[x],argTypes:=#[t] }) (ht:P.underlying t=some (.slice e)) (hx:aev ts x=.ls sz rows):OpSem P o (vE (.sc (.int .i64 rows.length))) ts :=
 zap rfl rfl fun w0 X S0 M s a w hr hl _=>by
  rw [ho] at hl
  have h1:=ev_of hr hl (x:=x) (by simp [Op.operands,Call.operands]) hx
  simp only [RV] at h1
  obtain ⟨b,cs,hv,_⟩:=h1
  exact ⟨.int .i64 rows.length,by simp [execOp,ho,resolve,invoke,builtin,Builtin.len_,run_underlying ht,hv,goInt],by simp [vE,RV]⟩
theorem zsx {P:Program}{o:Oper}{ts:List PV}{t e:TypeId}{inf:TypeInfo} (ho:o.op=.buildSlice t 0 #[]) (ht:P.underlying t=some (.slice e)) (hi:P.info? e=some inf):OpSem P o (vE .nl) ts:=by
 intro w0 X S0 M s a w Q K hr hl hs hk
 obtain ⟨M',hnew,hle,hst⟩:=hr.toHRel.allocSt (.cells #[] e) ⟨_,_,rfl⟩
 unfold Oper.wp
 have hex:(execOp a.eval o).run P w=.ok (.value (.slice (some ⟨w.heap.size,0,none⟩) 0 0)) (w.alloc (.cells #[] e)):=by
  simp [execOp,ho,Instr.buildSlice,run_underlying ht,sizeOf,typeInfo,hi,newRow,newObj,Sem.run,Instr.fill]
  congr 2
  apply Array.ext'
  simp
 rw [hex,Oper.upon_value]
 refine hk M' _ _ ?_
 have hr':Rel w0 X S0 M' s a (w.alloc (.cells #[] e)):=⟨hnew,hr.dfr,hr.len,fun t=>RV.mono hle _ _ (hr.tmp t)⟩
 have:=zbq hr' o.dst (p:=.nl) (v:=.slice (some ⟨w.heap.size,0,none⟩) 0 0) (by simp only [RV];exact ⟨_,rfl⟩)
 simpa [St.apply,zbv,vE] using this
end Go.Pv
