import Derived.Test.YtbhfokahocgndabGreatPvD
/-
  Slices of slices, equality of structs, append, elements that are written. Generic over the program.
-/
set_option linter.unusedSimpArgs false
set_option linter.unusedVariables false
namespace Go.Pv
def bndV (ts:List PV):Option Operand→Int→Option Int
 | none,d=>some d
 | some x,_=>match aev ts x with
  | .sc (.int _ n)=>some n
  | _=>none
theorem zd2 {P:Program}{w:World}{k:IntKind}{n:Int}{y:Nat}{c:BoundsCode} (h0:0≤n) (h1:n≤y):(Instr.sliceBound (.int k n) y c).run P w=.ok n.toNat w:=by
 simp [Instr.sliceBound,asIntOf,h0,h1]
theorem zk4 {w0:World}{X:Nat→Prop}{S0:Base}{M:Mem}{s:St}{a:Act}{w:World}{ts:List PV}{x:Operand}{d n:Int}{xs:List Operand} (hr:Rel w0 X S0 M s a w) (hl:∀ x ∈ xs,aev s.tmps x=aev ts x) (hx:x ∈ xs) (h:bndV ts (some x) d=some n):∃ k,a.eval x=.int k n:=by
 unfold bndV at h
 split at h
 ·cases ‹some x=none›
 ·rename_i x' _ e
  cases e
  split at h
  ·rename_i k n' he
   cases h
   have:=ev_of hr hl hx he
   simp only [RV] at this
   exact ⟨k,this⟩
  ·cases h
theorem zcr {P : Program} {w0 : World} {X : Nat → Prop} {S0 : Base} {M : Mem} {s : St} {a : Act} {w : World} {ts : List PV} {lo hi : Option Operand} {l h : Int} {len cap : Nat} {xs : List Operand} (hr : Rel w0 X S0 M s a w) (hag : ∀ x ∈ xs, aev s.tmps x = aev ts x)
    (hlo:∀ x,lo=some x→x ∈ xs) (hhi:∀ x,hi=some x→x ∈ xs) (hl:bndV ts lo 0=some l) (hh:bndV ts hi len=some h) (h0:0≤l) (h1:l≤h) (h2:h≤len) (hc:len≤cap) (b:Bool) :
    (Instr.sliceBounds b len cap (lo.map a.eval) (hi.map a.eval) none).run P w=.ok (l.toNat,h.toNat,cap) w:=by
 have hhn:h.toNat≤cap:=by omega
 have hhc:h≤(cap:Int):=by omega
 cases hi with
 | none =>
  simp only [bndV,Option.some.injEq] at hh
  subst hh
  cases lo with
  | none =>
   simp only [bndV,Option.some.injEq] at hl
   subst hl
   simp [Instr.sliceBounds]
  | some x =>
   obtain ⟨k,hx⟩:=zk4 hr hag (hlo x rfl) hl
   simp [Instr.sliceBounds,hx,zd2 h0 h1]
 | some y =>
  obtain ⟨ky,hy⟩:=zk4 hr hag (hhi y rfl) hh
  have hb:∀ c,(Instr.sliceBound (.int ky h) cap c).run P w=.ok h.toNat w:=fun c=>zd2 (by omega) hhc
  cases lo with
  | none =>
   simp only [bndV,Option.some.injEq] at hl
   subst hl
   simp [Instr.sliceBounds,hy,hb]
  | some x =>
   obtain ⟨k,hx⟩:=zk4 hr hag (hlo x rfl) hl
   simp [Instr.sliceBounds,hx,hy,hb,zd2 (y:=h.toNat) h0 (by omega:l≤(h.toNat:Int))]
theorem zxe {P : Program} {o : Oper} {ts : List PV} {t elem : TypeId} {x : Operand} {lo hi : Option Operand} {inf : TypeInfo} {sz : Nat} {rows : List (List PV)} {l h : Int} (ho : o.op = .slice t x lo hi none) (ht : P.underlying t = some (.slice elem))
    (hi':P.info? elem=some inf) (hsz:inf.size=sz) (hx:aev ts x=.sl sz rows) (hl:bndV ts lo 0=some l) (hh:bndV ts hi rows.length=some h) (h0:0≤l) (h1:l≤h) (h2:h≤rows.length) :
    OpSem P o (vE (.sl sz ((rows.take h.toNat).drop l.toNat))) ts :=
 zap rfl rfl fun w0 X S0 M s a w hr hag _=>by
  rw [ho] at hag
  have hv:=ev_of hr hag (x:=x) (by simp [Op.operands]) hx
  simp only [RV] at hv
  obtain ⟨ad,m,c,hv,rfl,hc,hcase⟩:=hv
  have hb:=zcr (P:=P) (len:=rows.length) (cap:=c) hr hag (fun y e=>by subst e;simp [Op.operands]) (fun y e=>by subst e;simp [Op.operands]) hl hh h0 h1 h2 hc true
  refine ⟨.slice (if c=l.toNat then ad else ad.map (·.add (l.toNat * inf.size))) (h.toNat - l.toNat) (c - l.toNat),?_,?_⟩
  ·simp [execOp,ho,hv,Instr.sliceAt,Instr.slice,run_underlying ht,hb,sizeOf,typeInfo,hi']
  ·simp only [vE,RV]
   refine ⟨_,_,_,rfl,by simp;omega,by omega,?_⟩
   by_cases he:(rows.take h.toNat).drop l.toNat=[]
   ·exact .inl he
   ·right
    have hlt:l.toNat < h.toNat:=by
     apply Nat.lt_of_not_le
     intro hle
     exact he (List.drop_eq_nil_of_le (by simp;omega))
    rcases hcase with e | ⟨b,off,cs,rfl,hst,hcl,hR⟩
    ·subst e;simp at he
    ·rw [if_neg (by omega)]
     refine ⟨b,off+l.toNat * inf.size,cs.drop (l.toNat * sz),by simp [Addr.add_lit],hst,?_,?_⟩
     ·rw [hsz];exact hcl.drop _
     ·exact RVR.dropRows _ (RVR.takeRows _ hR)
theorem zxb {P : Program} {o : Oper} {ts : List PV} {t elem : TypeId} {x : Operand} {lo hi : Option Operand} {inf : TypeInfo} {sz k lo0 len : Nat} {fz : Bool} {rows : List (List PV)} {l h : Int} (ho : o.op = .slice t x lo hi none) (ht : P.underlying t = some (.slice elem))
    (hi':P.info? elem=some inf) (hsz:inf.size=sz) (hx:aev ts x=.ow k lo0 len) (hl:bndV ts lo 0=some l) (hh:bndV ts hi len=some h) (h0:0≤l) (h1:l≤h) (h2:h≤len) :
    OpSem P o ⟨.ow k (lo0+l.toNat) (h.toNat - l.toNat),[],[(k,fz,sz,rows)],[],[],[],[]⟩ ts :=
 zap rfl rfl fun w0 X S0 M s a w hr hag hs=>by
  rw [ho] at hag
  have hv:=ev_of hr hag (x:=x) (by simp [Op.operands]) hx
  simp only [RV] at hv
  obtain ⟨L,hL,hcase⟩:=hv
  obtain ⟨hLs,_⟩:=hr.toHRel.obj' (hs.2.1 (k,fz,sz,rows) (by simp)) hL
  rcases hcase with ⟨hn,rfl,ad,hv⟩ | ⟨hn,hle,ad,hv,had⟩
  ·have hb:=zcr (P:=P) (len:=0) (cap:=0) hr hag (fun y e=>by subst e;simp [Op.operands]) (fun y e=>by subst e;simp [Op.operands]) hl hh h0 h1 h2 (Nat.le_refl _) true
   obtain rfl:l=0:=by simp at h2;omega
   obtain rfl:h=0:=by simp at h2;omega
   refine ⟨.slice ad 0 0,?_,?_⟩
   ·simp only [Int.toNat_zero] at hb
    simp [execOp,ho,hv,Instr.sliceAt,Instr.slice,run_underlying ht,hb,sizeOf,typeInfo,hi']
   ·simp only [RV]
    exact ⟨L,hL,.inl ⟨hn,rfl,ad,rfl⟩⟩
  ·have hb:=zcr (P:=P) (len:=len) (cap:=L.cap - lo0) hr hag (fun y e=>by subst e;simp [Op.operands]) (fun y e=>by subst e;simp [Op.operands]) hl hh h0 h1 h2 (by omega) true
   refine ⟨.slice (if L.cap - lo0=l.toNat then ad else ad.map (·.add (l.toNat * inf.size))) (h.toNat - l.toNat) (L.cap - lo0 - l.toNat),?_,?_⟩
   ·simp [execOp,ho,hv,Instr.sliceAt,Instr.slice,run_underlying ht,hb,sizeOf,typeInfo,hi']
   ·simp only [RV]
    refine ⟨L,hL,.inr ⟨hn,by omega,_,by rw [show L.cap - lo0 - l.toNat=L.cap - (lo0+l.toNat) by omega],fun hlt=>?_⟩⟩
    rw [if_neg (by omega),had (by omega)]
    simp only [Option.map_some,Addr.add_lit]
    rw [hsz,hLs,Nat.add_mul]
theorem zw2 {P : Program} {o : Oper} {ts : List PV} {t elem : TypeId} {x : Operand} {lo hi : Option Operand} {inf : TypeInfo} (ho : o.op = .slice t x lo hi none) (ht : P.underlying t = some (.slice elem))
    (hi':P.info? elem=some inf) (hx:aev ts x=.nl) (hl:bndV ts lo 0=some 0) (hh:bndV ts hi 0=some 0):OpSem P o (vE .nl) ts :=
 zap rfl rfl fun w0 X S0 M s a w hr hag _=>by
  rw [ho] at hag
  have hv:=ev_of hr hag (x:=x) (by simp [Op.operands]) hx
  simp only [RV] at hv
  obtain ⟨ad,hv⟩:=hv
  have hb:=zcr (P:=P) (len:=0) (cap:=0) hr hag (fun y e=>by subst e;simp [Op.operands]) (fun y e=>by subst e;simp [Op.operands]) hl hh (Int.le_refl _) (Int.le_refl _) (by simp) (Nat.le_refl _) true
  simp only [Int.toNat_zero] at hb
  exact ⟨.slice ad 0 0,by simp [execOp,ho,hv,Instr.sliceAt,Instr.slice,run_underlying ht,hb,sizeOf,typeInfo,hi'],by simp only [vE,RV];exact ⟨ad,rfl⟩⟩
theorem zis {P : Program} {o : Oper} {ts : List PV} {t elem : TypeId} {x y z : Operand} {inf : TypeInfo} {p : PV} {k k' : IntKind} (ho : o.op = .slice t x none (some y) (some z)) (ht : P.underlying t = some (.slice elem))
    (hi':P.info? elem=some inf) (hx:aev ts x=p) (hp:p=.nl∨(∃ sz rows,p=.sl sz rows)∨∃ k lo n,p=.ow k lo n) (hy:aev ts y=.sc (.int k 0)) (hz:aev ts z=.sc (.int k' 0)):OpSem P o (vE .nl) ts :=
 zap rfl rfl fun w0 X S0 M s a w hr hag _=>by
  rw [ho] at hag
  have hv:=ev_of hr hag (x:=x) (by simp [Op.operands]) hx
  have h1:=ev_of hr hag (x:=y) (by simp [Op.operands]) hy
  have h2:=ev_of hr hag (x:=z) (by simp [Op.operands]) hz
  simp only [RV] at h1 h2
  have hsl:∃ ad n c,a.eval x=.slice ad n c:=by
   rcases hp with rfl | ⟨sz,rows,rfl⟩ | ⟨k,lo,n,rfl⟩<;>simp only [RV] at hv
   ·obtain ⟨ad,h⟩:=hv;exact ⟨ad,0,0,h⟩
   ·obtain ⟨ad,n,c,h,_⟩:=hv;exact ⟨ad,n,c,h⟩
   ·obtain ⟨L,_,⟨_,_,ad,h⟩ | ⟨_,_,ad,h,_⟩⟩:=hv
    ·exact ⟨ad,0,0,h⟩
    ·exact ⟨ad,_,_,h⟩
  obtain ⟨ad,n,c,hv⟩:=hsl
  refine ⟨.slice ad 0 0,?_,by simp only [vE,RV];exact ⟨ad,rfl⟩⟩
  have hb:∀ (ky:IntKind) (y:Nat) cd,(Instr.sliceBound (.int ky 0) y cd).run P w=.ok 0 w:=fun ky y cd=>zd2 (Int.le_refl _) (by omega)
  simp [execOp,ho,hv,h1,h2,Instr.sliceAt,Instr.slice,Instr.sliceBounds,run_underlying ht,hb,sizeOf,typeInfo,hi']
theorem zsy {P : Program} {o : Oper} {ts : List PV} {t : TypeId} {x : Operand} {lo hi : Option Operand} {b : ByteArray} {l h : Int} (ho : o.op = .slice t x lo hi none) (ht : P.underlying t = some .string)
    (hx:aev ts x=.sc (.string b)) (hl:bndV ts lo 0=some l) (hh:bndV ts hi b.size=some h) (h0:0≤l) (h1:l≤h) (h2:h≤b.size):OpSem P o (vE (.sc (.string (b.extract l.toNat h.toNat)))) ts :=
 zap rfl rfl fun w0 X S0 M s a w hr hag _=>by
  rw [ho] at hag
  have hv:=ev_of hr hag (x:=x) (by simp [Op.operands]) hx
  simp only [RV] at hv
  have hb:=zcr (P:=P) (len:=b.size) (cap:=b.size) hr hag (fun y e=>by subst e;simp [Op.operands]) (fun y e=>by subst e;simp [Op.operands]) hl hh h0 h1 h2 (Nat.le_refl _) false
  exact ⟨.string (b.extract l.toNat h.toNat),by simp [execOp,ho,hv,Instr.sliceAt,Instr.slice,run_underlying ht,hb],by simp [vE,RV]⟩
theorem zxc {P : Program} {o : Oper} {ts : List PV} {t elem : TypeId} {x : Operand} {inf : TypeInfo} {key off n : Nat} (ho : o.op = .slice t x none none none) (ha : P.underlying t = some (.array n elem)) (hi : P.info? elem = some inf)
    (hx:aev ts x=.pt key off) (hn:0 < n):OpSem P o (vE (.bs key off n)) ts :=
 zap rfl rfl fun w0 X S0 M s a w hr hag _=>by
  rw [ho] at hag
  have hv:=ev_of hr hag (x:=x) (by simp [Op.operands]) hx
  simp only [RV] at hv
  obtain ⟨b,hb,hv⟩:=hv
  have hne:¬ n=0:=by omega
  refine ⟨.slice (some ⟨b,off,none⟩) n n,?_,by simp only [vE,RV];exact ⟨b,hb,rfl⟩⟩
  simp [execOp,ho,hv,Instr.sliceAt,Instr.sureAddr,run_underlying ha,Instr.sliceBounds,sizeOf,typeInfo,hi,hne,Addr.add_lit]
def zhe:List Field→List PV→List PV→Option Bool
 | [],_,_=>some true
 | f :: fs,xs,ys =>
  match xs[f.offset]?,ys[f.offset]? with
  | some (.sc (.int k a)),some (.sc (.int k' b))=>if k=k' then (zhe fs xs ys).map fun r=>(a == b) && r else none
  | _,_=>none
def zia (P:Program) (fs:List Field):Bool:=fs.all fun f=>f.name != "_" && (match P.underlying f.type with | some (.int _)=>true | _=>false)
def EqOk (P:Program) (t:TypeId):Prop:=P.underlying t=some (.struct (P.fieldsOf t))∧P.stoodInHeld t=false∧P.eqGuardType P.depth t=false∧zia P (P.fieldsOf t).toList=true
theorem zm1 {P : Program} {M : Mem} {w : World} (d : Nat) : ∀ {fs : List Field} {xs ys : List PV} {cs ds : Array Value} {r : Bool}, zhe fs xs ys = some r → zia P fs = true → RVL M w xs cs.toList → RVL M w ys ds.toList →
    (Op.eqFields (d+1) cs ds fs).run P w=.ok r w
 | [],xs,ys,cs,ds,r,h,_,_,_=>by simp only [zhe] at h;cases h;simp [Op.eqFields]
 | f :: fs,xs,ys,cs,ds,r,h,hf,hx,hy=>by
  simp only [zhe] at h
  split at h
  ·rename_i k a k' b e1 e2
   split at h
   ·rename_i hk;subst hk
    cases hr:zhe fs xs ys with
    | none=>rw [hr] at h;cases h
    | some r' =>
     rw [hr] at h
     simp only [Option.map_some,Option.some.injEq] at h
     simp only [zia,List.all_cons,Bool.and_eq_true,bne_iff_ne,ne_eq] at hf
     obtain ⟨⟨hn,ht⟩,hrest⟩:=hf
     have ih:=zm1 (P:=P) (M:=M) (w:=w) d hr (by simpa [zia] using hrest) hx hy
     obtain ⟨c,hc,hcv⟩:=hx.get _ e1
     obtain ⟨c',hc',hcv'⟩:=hy.get _ e2
     simp only [RV] at hcv hcv'
     subst hcv hcv'
     split at ht
     ·rename_i ki hu
      have hcs:cs[f.offset]?=some (.int k a):=by simpa using hc
      have hds:ds[f.offset]?=some (.int k b):=by simpa using hc'
      have hag:(isAgg f.type).run P w=.ok false w:=zex hu
      have p1:(part f.type cs f.offset).run P w=.ok (.int k a) w:=by simp [part,hag,hcs]
      have p2:(part f.type ds f.offset).run P w=.ok (.int k b) w:=by simp [part,hag,hds]
      simp only [Op.eqFields,ne_eq,hn,not_false_eq_true,if_true,Sem.run_bind,p1,p2,Result.andThen_ok,run_equalIn_int w d f.type k ki a b hu]
      subst h
      cases hab:(a == b) with
      | true=>simp [ih]
      | false=>simp
     ·cases ht
   ·cases h
  ·cases h
theorem zlf {P : Program} {o : Oper} {ts : List PV} {op : BinOp} {t t' : TypeId} {x y : Operand} {xs ys : List PV} {r : Bool} (ho : o.op = .binOp op t x y t') (hop : op = .eql ∨ op = .neq) (hok : EqOk P t) (hx : aev ts x = .ag xs) (hy : aev ts y = .ag ys)
    (hr:zhe (P.fieldsOf t).toList xs ys=some r):OpSem P o (vE (.sc (.bool (if op=.eql then r else !r)))) ts :=
 zap rfl rfl fun w0 X S0 M s a w hrel hl _=>by
  rw [ho] at hl
  have h1:=ev_of hrel hl (x:=x) (by simp [Op.operands]) hx
  have h2:=ev_of hrel hl (x:=y) (by simp [Op.operands]) hy
  simp only [RV] at h1 h2
  obtain ⟨cs,hv,hcs⟩:=h1
  obtain ⟨ds,hv',hds⟩:=h2
  obtain ⟨k1,k2,k3,k4⟩:=hok
  have hrun:=run_equalIn_struct (P:=P) w 9999 t cs ds k1 k2
  rw [zm1 (P:=P) 9998 hr k4 hcs hds] at hrun
  have hguard:∀ op',(eqGuard op' t x y (.agg cs) (.agg ds)).run P w=.ok () w:=by
   intro op'
   simp only [eqGuard]
   split<;>simp [k3]
  have hrun':(Op.equal t (.agg cs) (.agg ds)).run P w=.ok r w:=hrun
  rcases hop with rfl | rfl
  ·refine ⟨.bool r,?_,by simp [vE,RV]⟩
   simp [execOp,ho,hv,hv',hguard,binOp,hrun']
  ·refine ⟨.bool (!r),?_,by simp [vE,RV]⟩
   simp [execOp,ho,hv,hv',hguard,binOp,hrun']
theorem zpy {P : Program} {o : Oper} {ts : List PV} {op : BinOp} {t t' : TypeId} {x y : Operand} {u v : Bool} (ho : o.op = .binOp op t x y t') (hop : op = .eql ∨ op = .neq) (hok : P.underlying t = some .bool) (hx : aev ts x = .sc (.bool u)) (hy : aev ts y = .sc (.bool v)) :
    OpSem P o (vE (.sc (.bool (if op=.eql then u == v else u != v)))) ts :=
 zap rfl rfl fun w0 X S0 M s a w hrel hl _=>by
  rw [ho] at hl
  have h1:=ev_of hrel hl (x:=x) (by simp [Op.operands]) hx
  have h2:=ev_of hrel hl (x:=y) (by simp [Op.operands]) hy
  simp only [RV] at h1 h2
  have hrun1:∀ d,(Op.equalIn (d+1) t (.bool u) (.bool v)).run P w=.ok (u == v) w:=by
   intro d
   simp [Op.equalIn,run_underlying hok]
  have hrun:(Op.equal t (.bool u) (.bool v)).run P w=.ok (u == v) w:=hrun1 9999
  have hguard:∀ op',(eqGuard op' t x y (.bool u) (.bool v)).run P w=.ok () w:=by
   intro op'
   simp only [eqGuard]
   split<;>simp
  rcases hop with rfl | rfl
  ·refine ⟨.bool (u == v),?_,by simp [vE,RV]⟩
   simp [execOp,ho,h1,h2,hguard,binOp,hrun]
  ·refine ⟨.bool (u != v),?_,by simp [vE,RV]⟩
   simp [execOp,ho,h1,h2,hguard,binOp,hrun,bne]
theorem zo2 {P : Program} {o : Oper} {ts : List PV} {t t' e : TypeId} {x : Operand} {p : PV} {φ : Prop} (ho : o.op = .binOp .eql t x (.const (.slice none 0 0)) t') (hu : P.underlying t = some (.slice e)) (hx : aev ts x = p)
    (hφ:∀ (M:Mem) (w:World) (v:Value) (_:Unit) (n c:Nat),RV M w p v→v=.slice none n c→φ) (hsl:∀ (M:Mem) (w:World) (v:Value),RV M w p v→∃ a n c,v=.slice a n c):OpSem P o (vE (.ub φ)) ts :=
 zap rfl rfl fun w0 X S0 M s a w hrel hl _=>by
  rw [ho] at hl
  have h1:=ev_of hrel hl (x:=x) (by simp [Op.operands]) hx
  obtain ⟨ad,n,c,hv⟩:=hsl M w _ h1
  have hrun1:∀ d,(Op.equalIn (d+1) t (.slice ad n c) (.slice none 0 0)).run P w=.ok ad.isNone w:=by
   intro d
   cases ad<;>simp [Op.equalIn,run_underlying hu]
  have hrun:(Op.equal t (.slice ad n c) (.slice none 0 0)).run P w=.ok ad.isNone w:=hrun1 9999
  have hguard:(eqGuard .eql t x (.const (.slice none 0 0)) (.slice ad n c) (.slice none 0 0)).run P w=.ok () w:=by
   simp [eqGuard]
  refine ⟨.bool ad.isNone,?_,?_⟩
  ·have hc:a.eval (.const (.slice none 0 0))=.slice none 0 0:=rfl
   simp [execOp,ho,hv,hc,Sem.run_bind,hguard,binOp,hrun]
  ·simp only [vE,RV]
   refine ⟨_,rfl,fun hb=>?_⟩
   cases ad with
   | none=>exact hφ M w _ () n c h1 hv
   | some _=>cases hb
theorem zh3 {P : Program} {o : Oper} {ts : List PV} {op : BinOp} {t t' e : TypeId} {x : Operand} {p : PV} {b : Bool} (ho : o.op = .binOp op t x (.const (.slice none 0 0)) t') (hop : op = .eql ∨ op = .neq) (hu : P.underlying t = some (.slice e)) (hx : aev ts x = p)
    (hsl:∀ (M:Mem) (w:World) (v:Value),RV M w p v→∃ a n c,v=.slice a n c∧a.isNone=b):OpSem P o (vE (.sc (.bool (match op with | .eql=>b | _=>!b)))) ts :=
 zap rfl rfl fun w0 X S0 M s a w hrel hl _=>by
  rw [ho] at hl
  have h1:=ev_of hrel hl (x:=x) (by simp [Op.operands]) hx
  obtain ⟨ad,n,c,hv,hb⟩:=hsl M w _ h1
  have hrun1:∀ d,(Op.equalIn (d+1) t (.slice ad n c) (.slice none 0 0)).run P w=.ok ad.isNone w:=by
   intro d
   cases ad<;>simp [Op.equalIn,run_underlying hu]
  have hrun:(Op.equal t (.slice ad n c) (.slice none 0 0)).run P w=.ok ad.isNone w:=hrun1 9999
  have hc:a.eval (.const (.slice none 0 0))=.slice none 0 0:=rfl
  rcases hop with rfl | rfl
  ·have hguard : (eqGuard .eql t x (.const (.slice none 0 0)) (.slice ad n c) (.slice none 0 0)).run P w = .ok () w := by
     simp [eqGuard]
   refine ⟨.bool ad.isNone,?_,by simp only [vE,RV,hb]⟩
   simp [execOp,ho,hv,hc,Sem.run_bind,hguard,binOp,hrun]
  ·have hguard : (eqGuard .neq t x (.const (.slice none 0 0)) (.slice ad n c) (.slice none 0 0)).run P w = .ok () w := by
     simp [eqGuard]
   refine ⟨.bool (!ad.isNone),?_,by simp only [vE,RV,hb]⟩
   simp [execOp,ho,hv,hc,Sem.run_bind,hguard,binOp,hrun]
theorem ow_some {M:Mem}{w:World}{k lo len:Nat}{v:Value} (h0:0 < len) (hv:RV M w (.ow k lo len) v):∃ a n c,v=.slice a n c∧a.isNone=false:=by
 simp only [RV] at hv
 obtain ⟨L,hL,hc⟩:=hv
 rcases hc with ⟨_,h2,_⟩ | ⟨_,h2,a',h3,h4⟩
 ·omega
 ·rw [h4 (by omega)] at h3
  exact ⟨_,_,_,h3,rfl⟩
theorem sl_some {M:Mem}{w:World}{sz:Nat}{rows:List (List PV)}{v:Value} (h0:rows ≠ []) (hv:RV M w (.sl sz rows) v):∃ a n c,v=.slice a n c∧a.isNone=false:=by
 simp only [RV] at hv
 obtain ⟨a',n',c',e1,e2,e3,e4⟩:=hv
 rcases e4 with e4 | ⟨b,off,cs,e5,_⟩
 ·exact absurd e4 h0
 ·subst e5;exact ⟨_,_,_,e1,rfl⟩
end Go.Pv
