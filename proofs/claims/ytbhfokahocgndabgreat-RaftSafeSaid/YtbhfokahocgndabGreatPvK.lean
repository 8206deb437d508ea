import Derived.Test.YtbhfokahocgndabGreatPvU2
/-
  The evaluator, operation by operation, and its soundness. Generic over the program.
-/
set_option linter.unusedSimpArgs false
set_option linter.unusedVariables false
namespace Go.Pv
def bndK (ts:List PV) (x:Option Operand) (d:Int) (k:Int→Prop):Prop :=
 match x with
 | none=>k d
 | some x=>evK ts x fun p=>match p with | .sc (.int _ n)=>k n | _=>False
theorem zdb {ts:List PV}{x:Option Operand}{d:Int}{k:Int→Prop} (h:bndK ts x d k):∃ n,bndV ts x d=some n∧k n:=by
 unfold bndK at h
 split at h
 ·exact ⟨d,rfl,h⟩
 ·rename_i x
  rw [za5] at h
  unfold bndV
  split at h
  ·rename_i kk n hx
   exact ⟨n,by simp [hx],h⟩
  ·exact h.elim
def zq3 (place:Nat→Option (Nat×Nat)) (ls:List PV):List (Nat×PV)→(List PV→Prop)→Prop
 | [],k=>k ls
 | (i,p) :: rest,k =>
  match place i with
  | none=>False
  | some (off,size)=>lvK p fun ns=>okK (ns.all leaf1 && Nat.beq ns.length size && Nat.ble (off+size) ls.length) (zgh ls off ns fun ls'=>zq3 place ls' rest k)
theorem zgj {place:Nat→Option (Nat×Nat)}:∀ {parts:List (Nat×PV)}{ls:List PV}{k:List PV→Prop},zq3 place ls parts k→∃ ls',pfill place ls parts=some ls'∧k ls'
 | [],ls,k,h=>⟨ls,rfl,h⟩
 | (i,p) :: rest,ls,k,h=>by
  simp only [zq3] at h
  simp only [pfill]
  split at h
  ·exact h.elim
  ·rename_i off size hp
   rw [zx7] at h
   obtain ⟨hc,h⟩:=za8 h
   rw [zfi] at h
   simp only [Bool.and_eq_true,Nat.beq_eq,Nat.ble_eq] at hc
   obtain ⟨⟨c1,c2⟩,c3⟩:=hc
   simp only [hp]
   rw [if_pos (by simp [c1,c2,c3])]
   exact zgj h
def zpa (ts:List PV):List (Nat×Operand)→(List (Nat×PV)→Prop)→Prop
 | [],k=>k []
 | (i,x) :: r,k=>evK ts x fun p=>zpa ts r fun ps=>k ((i,p) :: ps)
theorem zkt (ts:List PV):∀ (l:List (Nat×Operand)) (k:List (Nat×PV)→Prop),zpa ts l k=k (l.map fun p=>(p.1,aev ts p.2))
 | [],k=>rfl
 | (i,x) :: r,k=>by simp [zpa,za5,zkt ts r]
def zlK:List Value→(List PV→Prop)→Prop
 | [],k=>k []
 | v :: vs,k=>match v with
  | .slice none 0 0=>zlK vs fun r=>k (.nl :: r)
  | v=>zlK vs fun r=>k (.sc v :: r)
theorem zmt:∀ (vs:List Value) (k:List PV→Prop),zlK vs k=k (vs.map zleaf)
 | [],k=>rfl
 | v :: vs,k=>by
  unfold zlK
  split
  ·simp [zmt vs,zleaf]
  ·rename_i hne
   rw [zmt vs,List.map_cons]
   congr 2
   unfold zleaf
   split
   ·exact absurd rfl (hne)
   ·rfl
def repK {α:Type}:Nat→List α→(List α→Prop)→Prop
 | 0,_,k=>k []
 | n+1,l,k=>repK n l fun r=>appK l r k
theorem zz2 {α:Type}:∀ (n:Nat) (l:List α) (k:List α→Prop),repK n l k=k (List.replicate n l).flatten
 | 0,l,k=>rfl
 | n+1,l,k=>by simp [repK,zz2 n l,zcp,List.replicate_succ]
def zqk (sz:Nat):Nat→List PV→(List (List PV)→Prop)→Prop
 | 0,_,k=>k []
 | n+1,ls,k=>takeK sz ls fun r=>dropK sz ls fun rest=>zqk sz n rest fun rs=>k (r :: rs)
theorem zl3 (sz:Nat):∀ (n:Nat) (ls:List PV) (k:List (List PV)→Prop),zqk sz n ls k=k (chunk sz n ls)
 | 0,ls,k=>rfl
 | n+1,ls,k=>by simp [zqk,chunk,zj8,zdq,zl3 sz n]
mutual
def shK (n:Nat) (p:PV) (k:PV→Prop):Prop :=
 match p with
 | .ag ps=>shLK n ps fun qs=>k (.ag qs)
 | .tu ps=>shLK n ps fun qs=>k (.tu qs)
 | .cl f ps=>shLK n ps fun qs=>k (.cl f qs)
 | .cm f ps=>shLK n ps fun qs=>k (.cm f qs)
 | .ow key lo len=>k (.ow (n+key) lo len)
 | .eo key i off=>k (.eo (n+key) i off)
 | .sc v=>k (.sc v)
 | .sl sz rows=>k (.sl sz rows)
 | .nl=>k .nl
 | .pt key off=>k (.pt key off)
 | .bs key off len=>k (.bs key off len)
 | .ep sfx=>k (.ep sfx)
 | .ub φ=>k (.ub φ)
 | .nn kd=>k (.nn kd)
 | .ls ..=>k .bad
 | .lp ..=>k .bad
 | .fs ..=>k .bad
 | .bad=>k .bad
def shLK (n:Nat) (ps:List PV) (k:List PV→Prop):Prop :=
 match ps with
 | []=>k []
 | p :: ps=>shK n p fun q=>shLK n ps fun qs=>k (q :: qs)
end
mutual
theorem zz4 (n:Nat):∀ (p:PV) (k:PV→Prop),shK n p k=k (shift n p)
 | .ag ps,k=>by simp [shK,shift,zkk n ps]
 | .tu ps,k=>by simp [shK,shift,zkk n ps]
 | .cl f ps,k=>by simp [shK,shift,zkk n ps]
 | .cm f ps,k=>by simp [shK,shift,zkk n ps]
 | .ow key lo len,k=>by simp [shK,shift]
 | .eo key i off,k=>by simp [shK,shift]
 | .sc v,k=>by simp [shK,shift]
 | .sl sz rows,k=>by simp [shK,shift]
 | .nl,k=>by simp [shK,shift]
 | .pt key off,k=>by simp [shK,shift]
 | .bs key off len,k=>by simp [shK,shift]
 | .ep sfx,k=>by simp [shK,shift]
 | .ub φ,k=>by simp [shK,shift]
 | .nn kd,k=>by simp [shK,shift]
 | .ls ..,k=>by simp [shK,shift]
 | .lp ..,k=>by simp [shK,shift]
 | .fs ..,k=>by simp [shK,shift]
 | .bad,k=>by simp [shK,shift]
theorem zkk (n:Nat):∀ (ps:List PV) (k:List PV→Prop),shLK n ps k=k (zgf n ps)
 | [],k=>by simp [shLK,zgf]
 | p :: ps,k=>by simp [shLK,zgf,zz4 n p,zkk n ps]
end
noncomputable def zjh (P:Program) (c:CSt) (d:Option Nat) (f:Nat) (ps:List PV) (k:Eff→Prop):Prop :=
 resAK c ps fun rb ro qs=>∃ r os,Ctr P f qs r os ∧
  match os,scal r with
  | [],true=>k ⟨r,rb,ro,[],[],[],[]⟩
  | os,_=>match rb with
   | []=>∃ n,d.map (· * 16)=some n∧(∀ q ∈ ro,¬ (n≤q.1∧q.1 < n+os.length))∧(∀ i,i < os.length→lkA c.ob (n+i)=none)∧shK n r fun r'=>k ⟨r',[],ro,[],(List.range os.length).map (n+·),[],zcs n os++zbt ro⟩
   | _=>False
def lkOK {α:Type} (l:List (Nat×α)) (n:Nat) (k:α→Prop) (e:Prop):Prop :=
 match l with
 | []=>e
 | (j,u) :: r=>bif Nat.beq j n then k u else lkOK r n k e
theorem zhk {α:Type}:∀ (l:List (Nat×α)) (n:Nat) (k:α→Prop) (e:Prop),lkOK l n k e=match lkA l n with | some v=>k v | none=>e
 | [],n,k,e=>rfl
 | (j,u) :: r,n,k,e=>by
  simp only [lkOK,lkA]
  cases Nat.beq j n
  ·exact zhk r n k e
  ·rfl
def rvK (l:List (Nat×Nat)) (K:Nat) (k:Nat→Prop) (e:Prop):Prop :=
 match l with
 | []=>e
 | (kk,J) :: r=>bif Nat.beq J K then k kk else rvK r K k e
theorem zfc {K:Nat}{k:Nat→Prop}{e:Prop}:∀ {l:List (Nat×Nat)},rvK l K k e→(∃ kk,(kk,K) ∈ l∧k kk)∨e
 | [],h=>.inr h
 | (kk,J) :: r,h=>by
  simp only [rvK] at h
  by_cases ej:J=K
  ·subst ej
   simp only [Nat.beq_refl,cond_true] at h
   exact .inl ⟨kk,by simp,h⟩
  ·rw [zbj ej] at h
   rcases zfc h with ⟨x,h1,h2⟩ | h
   ·exact .inl ⟨x,by simp [h1],h2⟩
   ·exact .inr h
def resEK (c:CSt) (kb ki:List (Nat×Nat)) (p:PV) (k:List (Nat×Bool×Nat×List (List PV))→PV→Prop):Prop :=
 match p with
 | .sc v=>k [] (.sc v)
 | .sl sz rows=>k [] (.sl sz rows)
 | .nl=>k [] .nl
 | .ep sfx=>k [] (.ep sfx)
 | .ow key lo len=>rvK ki key (fun kk=>k [] (.ow kk lo len)) (match lkA c.ob key with
  | some (some (fz,sz,all))=>lo+len≤all.length∧k [(key,fz,sz,all)] (.sl sz ((all.drop lo).take len))
  | _=>False)
 | .eo key i off=>rvK ki key (fun kk=>k [] (.eo kk i off)) False
 | .pt key off=>rvK kb key (fun kk=>k [] (.pt kk off)) False
 | .bs key off len=>rvK kb key (fun kk=>k [] (.bs kk off len)) False
 | _=>False
noncomputable def zmy (c:CSt) (kb ki:List (Nat×Nat)) (ps:List PV):(List (Nat×Bool×Nat×List (List PV))→List PV→Prop)→Prop :=
 @List.rec PV (fun _=>(List (Nat×Bool×Nat×List (List PV))→List PV→Prop)→Prop) (fun k=>k [] [])
  (fun p _ R k=>resEK c kb ki p fun ro q=>R fun ro' qs=>appK ro ro' fun ro''=>k ro'' (q :: qs)) ps
theorem zrs (c:CSt) (kb ki:List (Nat×Nat)) (p:PV) (ps:List PV) (k:List (Nat×Bool×Nat×List (List PV))→List PV→Prop):zmy c kb ki (p :: ps) k=resEK c kb ki p fun ro q=>zmy c kb ki ps fun ro' qs=>appK ro ro' fun ro''=>k ro'' (q :: qs):=rfl
noncomputable def zut (c:CSt) (kb ki:List (Nat×Nat)) (p:PV) (k:List (Nat×Bool×Nat×List (List PV))→PV→Prop):Prop :=
 match p with
 | .ag ps=>zmy c kb ki ps fun ro qs=>k ro (.ag qs)
 | .cl f caps=>zmy c kb ki caps fun ro qs=>k ro (.cl f qs)
 | .cm f caps=>zmy c kb ki caps fun ro qs=>k ro (.cm f qs)
 | p=>resEK c kb ki p k
noncomputable def znf (c:CSt) (kb ki:List (Nat×Nat)) (ps:List PV):(List (Nat×Bool×Nat×List (List PV))→List PV→Prop)→Prop :=
 @List.rec PV (fun _=>(List (Nat×Bool×Nat×List (List PV))→List PV→Prop)→Prop) (fun k=>k [] [])
  (fun p _ R k=>zut c kb ki p fun ro q=>R fun ro' qs=>appK ro ro' fun ro''=>k ro'' (q :: qs)) ps
theorem zs0 (c:CSt) (kb ki:List (Nat×Nat)) (p:PV) (ps:List PV) (k:List (Nat×Bool×Nat×List (List PV))→List PV→Prop):znf c kb ki (p :: ps) k=zut c kb ki p fun ro q=>znf c kb ki ps fun ro' qs=>appK ro ro' fun ro''=>k ro'' (q :: qs):=rfl
noncomputable def bxEK (c:CSt) (kb ki:List (Nat×Nat)) (l:List (Nat×Nat)):(List (Nat×Bool×Nat×List (List PV))→List (Nat×List PV)→List (Nat×List PV)→Prop)→Prop :=
 @List.rec (Nat×Nat) (fun _=>(List (Nat×Bool×Nat×List (List PV))→List (Nat×List PV)→List (Nat×List PV)→Prop)→Prop) (fun k=>k [] [] [])
  (fun p _ R k=>match p with
   | (kk,K)=>match lkA c.bx K with
    | some ls=>znf c kb ki ls fun ro qs=>R fun ro' rb bx=>appK ro ro' fun ro''=>k ro'' ((K,ls) :: rb) ((kk,qs) :: bx)
    | none=>False) l
theorem zy3 (c:CSt) (kb ki:List (Nat×Nat)) (kk K:Nat) (l:List (Nat×Nat)) (k:List (Nat×Bool×Nat×List (List PV))→List (Nat×List PV)→List (Nat×List PV)→Prop):bxEK c kb ki ((kk,K) :: l) k=match lkA c.bx K with
 | some ls=>znf c kb ki ls fun ro qs=>bxEK c kb ki l fun ro' rb bx=>appK ro ro' fun ro''=>k ro'' ((K,ls) :: rb) ((kk,qs) :: bx)
 | none=>False:=rfl
noncomputable def obEK (c:CSt) (l:List (Nat×Nat)):(List (Nat×Bool×Nat×List (List PV))→List (Nat×Option (Bool×Nat×List (List PV)))→Prop)→Prop :=
 @List.rec (Nat×Nat) (fun _=>(List (Nat×Bool×Nat×List (List PV))→List (Nat×Option (Bool×Nat×List (List PV)))→Prop)→Prop) (fun k=>k [] [])
  (fun p _ R k=>match p with
   | (kk,K)=>match lkA c.ob K with
    | some (some (false,sz,rows))=>R fun rs ob=>k ((K,false,sz,rows) :: rs) ((kk,some (false,sz,rows)) :: ob)
    | _=>False) l
theorem zzj (c:CSt) (kk K:Nat) (l:List (Nat×Nat)) (k:List (Nat×Bool×Nat×List (List PV))→List (Nat×Option (Bool×Nat×List (List PV)))→Prop):obEK c ((kk,K) :: l) k=match lkA c.ob K with
 | some (some (false,sz,rows))=>obEK c l fun rs ob=>k ((K,false,sz,rows) :: rs) ((kk,some (false,sz,rows)) :: ob)
 | _=>False:=rfl
mutual
def shEK (kb ko:List (Nat×Nat)) (p:PV) (k:PV→Prop):Prop :=
 match p with
 | .ag ps=>shELK kb ko ps fun qs=>k (.ag qs)
 | .tu ps=>shELK kb ko ps fun qs=>k (.tu qs)
 | .cl f ps=>shELK kb ko ps fun qs=>k (.cl f qs)
 | .cm f ps=>shELK kb ko ps fun qs=>k (.cm f qs)
 | .ow key lo len=>lkOK ko key (fun K=>k (.ow K lo len)) (k .bad)
 | .eo key i off=>lkOK ko key (fun K=>k (.eo K i off)) (k .bad)
 | .sc v=>k (.sc v)
 | .sl sz rows=>k (.sl sz rows)
 | .nl=>k .nl
 | .pt key off=>lkOK kb key (fun K=>k (.pt K off)) (k .bad)
 | .bs key off len=>lkOK kb key (fun K=>k (.bs K off len)) (k .bad)
 | .ep sfx=>k (.ep sfx)
 | .ub φ=>k (.ub φ)
 | .nn kd=>k (.nn kd)
 | .ls ..=>k .bad
 | .lp ..=>k .bad
 | .fs ..=>k .bad
 | .bad=>k .bad
def shELK (kb ko:List (Nat×Nat)) (ps:List PV) (k:List PV→Prop):Prop :=
 match ps with
 | []=>k []
 | p :: ps=>shEK kb ko p fun q=>shELK kb ko ps fun qs=>k (q :: qs)
end
mutual
theorem zq6 (kb ko:List (Nat×Nat)):∀ (p:PV) (k:PV→Prop),shEK kb ko p k=k (shE kb ko p)
 | .ag ps,k=>by simp [shEK,shE,zg4 kb ko ps]
 | .tu ps,k=>by simp [shEK,shE,zg4 kb ko ps]
 | .cl f ps,k=>by simp [shEK,shE,zg4 kb ko ps]
 | .cm f ps,k=>by simp [shEK,shE,zg4 kb ko ps]
 | .ow key lo len,k=>by simp only [shEK,shE,zhk];cases lkA ko key<;>rfl
 | .eo key i off,k=>by simp only [shEK,shE,zhk];cases lkA ko key<;>rfl
 | .sc v,k=>by simp [shEK,shE]
 | .sl sz rows,k=>by simp [shEK,shE]
 | .nl,k=>by simp [shEK,shE]
 | .pt key off,k=>by simp only [shEK,shE,zhk];cases lkA kb key<;>rfl
 | .bs key off len,k=>by simp only [shEK,shE,zhk];cases lkA kb key<;>rfl
 | .ep sfx,k=>by simp [shEK,shE]
 | .ub φ,k=>by simp [shEK,shE]
 | .nn kd,k=>by simp [shEK,shE]
 | .ls ..,k=>by simp [shEK,shE]
 | .lp ..,k=>by simp [shEK,shE]
 | .fs ..,k=>by simp [shEK,shE]
 | .bad,k=>by simp [shEK,shE]
theorem zg4 (kb ko:List (Nat×Nat)):∀ (ps:List PV) (k:List PV→Prop),shELK kb ko ps k=k (shEL kb ko ps)
 | [],k=>by simp [shELK,shEL]
 | p :: ps,k=>by simp [shELK,shEL,zq6 kb ko p,zg4 kb ko ps]
end
def tkBK (kb ko:List (Nat×Nat)) (bx':List (Nat×List PV)) (l:List (Nat×Nat)) (k:List (Nat×List PV)→Prop):Prop :=
 match l with
 | []=>k []
 | (kk,K) :: r=>lkOK bx' kk (fun ls=>shELK kb ko ls fun ls'=>tkBK kb ko bx' r fun w=>k ((K,ls') :: w)) (tkBK kb ko bx' r k)
theorem zsf (kb ko:List (Nat×Nat)) (bx':List (Nat×List PV)):∀ (l:List (Nat×Nat)) (k:List (Nat×List PV)→Prop),tkBK kb ko bx' l k=k (tkA (shEL kb ko) bx' l)
 | [],k=>rfl
 | (kk,K) :: r,k=>by
  simp only [tkBK,tkA,zhk,zg4,zsf kb ko bx' r]
  cases lkA bx' kk<;>rfl
def tkOK (ob':List (Nat×Option (Bool×Nat×List (List PV)))) (l:List (Nat×Nat)) (k:List (Nat×Option (Bool×Nat×List (List PV)))→Prop):Prop :=
 match l with
 | []=>k []
 | (kk,K) :: r=>lkOK ob' kk (fun o=>tkOK ob' r fun w=>k ((K,o) :: w)) (tkOK ob' r k)
theorem zyr (ob':List (Nat×Option (Bool×Nat×List (List PV)))):∀ (l:List (Nat×Nat)) (k:List (Nat×Option (Bool×Nat×List (List PV)))→Prop),tkOK ob' l k=k (tkA (fun x=>x) ob' l)
 | [],k=>rfl
 | (kk,K) :: r,k=>by
  simp only [tkOK,tkA,zhk,zyr ob' r]
  cases lkA ob' kk<;>rfl
def noneB {α:Type}:Option α→Bool
 | none=>true
 | some _=>false
noncomputable def zq7 (l:List (Nat×Nat)):(List (Nat×Nat)→List (Nat×Nat)→Prop)→Prop :=
 @List.rec (Nat×Nat) (fun _=>(List (Nat×Nat)→List (Nat×Nat)→Prop)→Prop) (fun k=>k [] []) (fun p _ R k=>R fun o n=>match Nat.ble 9990 p.1 with
  | true=>k (p :: o) n
  | false=>k o (p :: n)) l
theorem zh1:∀ {l:List (Nat×Nat)}{k:List (Nat×Nat)→List (Nat×Nat)→Prop},zq7 l k→∃ o n,k o n
 | [],k,h=>⟨_,_,h⟩
 | p :: l,k,h=>by
  have h:zq7 l fun o n=>match Nat.ble 9990 p.1 with
   | true=>k (p :: o) n
   | false=>k o (p :: n):=h
  obtain ⟨o,n,h⟩:=zh1 h
  cases hb:Nat.ble 9990 p.1 with
  | true=>rw [hb] at h;exact ⟨_,_,h⟩
  | false=>rw [hb] at h;exact ⟨_,_,h⟩
def namesB (c:CSt) (kb kc kbn ki kn ko:List (Nat×Nat)) (ro:List (Nat×Bool×Nat×List (List PV))) (ob':List (Nat×Option (Bool×Nat×List (List PV)))):Bool :=
 oneB kc && oneB ko && (kb.all fun p=>Nat.ble 9990 p.1) && (ki.all fun p=>Nat.ble 9990 p.1) && (kn.all fun p=>noneB (lkA c.ob p.2)) && (ob'.all fun p=>!noneB (lkA ko p.1)) && (ro.all fun q=>ko.all fun p=>!Nat.beq p.2 q.1) && (kbn.all fun p=>noneB (lkA c.bx p.2))
noncomputable def zt5 (P:Program) (c:CSt) (f:Nat) (ps:List PV) (kb0 ki kn:List (Nat×Nat)) (k:Eff→Prop):Prop :=
 zq7 kb0 fun kb kbn=>okK (oneB kb && oneB ki) (znf c kb ki ps fun ro qs=>bxEK c kb ki kb fun ro' rb bx=>obEK c ki fun rs ob=>appK ro ro' fun ro=>appK ki kn fun ko=>appK kb kbn fun kc =>
  ∃ r bx' ob',CtrE P f qs bx ob r bx' ob'∧okK (namesB c kb kc kbn ki kn ko ro ob') (shEK kc ko r fun r'=>tkBK kc ko bx' kc fun wb=>tkOK ob' ko fun wo=>appK ro rs fun rr=>mapK (fun (p:Nat×Nat) k=>k p.2) kn fun fo=>mapK (fun (p:Nat×Nat) k=>k p.2) kbn fun fb=>mapK (fun (q:Nat×Bool×Nat×List (List PV)) k=>match q with | (j,_,x)=>k (j,some (true,x))) ro fun fr=>appK wo fr fun wo=>k ⟨r',rb,rr,fb,fo,wb,wo⟩))
theorem zl5 {c:CSt}{kb ki:List (Nat×Nat)} (h1:oneB kb=true) (h2:oneB ki=true) {p:PV}{k:List (Nat×Bool×Nat×List (List PV))→PV→Prop} (h:resEK c kb ki p k):∃ ro q,ResE kb ki ro p q∧OkO c ro∧k ro q:=by
 unfold resEK at h
 split at h
 ·exact ⟨[],_,by simp [ResE],by simp [OkO],h⟩
 ·exact ⟨[],_,by simp [ResE],by simp [OkO],h⟩
 ·exact ⟨[],_,by simp [ResE],by simp [OkO],h⟩
 ·exact ⟨[],_,by simp [ResE],by simp [OkO],h⟩
 ·rcases zfc h with ⟨kk,hm,h⟩ | h
  ·exact ⟨[],_,by simp only [ResE];exact .inl ⟨kk,zee h2 hm,rfl⟩,by simp [OkO],h⟩
  ·split at h
   ·rename_i fz sz all hk
    obtain ⟨hle,h⟩:=h
    exact ⟨_,_,by simp only [ResE];exact .inr ⟨fz,sz,all,by simp,hle,rfl⟩,by simp [OkO,hk],h⟩
   ·exact h.elim
 ·rcases zfc h with ⟨kk,hm,h⟩ | h
  ·exact ⟨[],_,by simp only [ResE];exact ⟨kk,zee h2 hm,rfl⟩,by simp [OkO],h⟩
  ·exact h.elim
 ·rcases zfc h with ⟨kk,hm,h⟩ | h
  ·exact ⟨[],_,by simp only [ResE];exact ⟨kk,zee h1 hm,rfl⟩,by simp [OkO],h⟩
  ·exact h.elim
 ·rcases zfc h with ⟨kk,hm,h⟩ | h
  ·exact ⟨[],_,by simp only [ResE];exact ⟨kk,zee h1 hm,rfl⟩,by simp [OkO],h⟩
  ·exact h.elim
 ·exact h.elim
mutual
theorem ResE.mono {kb ki:List (Nat×Nat)}{ro ro':List (Nat×Bool×Nat×List (List PV))} (ho:∀ x ∈ ro,x ∈ ro'):∀ (p q:PV),ResE kb ki ro p q→ResE kb ki ro' p q
 | .ow k lo len,q,h=>by
  simp only [ResE] at h ⊢
  rcases h with h | ⟨fz,sz,all,h1,h2⟩
  ·exact .inl h
  ·exact .inr ⟨fz,sz,all,ho _ h1,h2⟩
 | .pt k off,q,h=>by simpa only [ResE] using h
 | .bs k off len,q,h=>by simpa only [ResE] using h
 | .ag ps,q,h=>by simp only [ResE] at h ⊢;obtain ⟨qs,h1,h2⟩:=h;exact ⟨qs,h1,ResEL.mono ho ps qs h2⟩
 | .tu ps,q,h=>by simp only [ResE] at h ⊢;obtain ⟨qs,h1,h2⟩:=h;exact ⟨qs,h1,ResEL.mono ho ps qs h2⟩
 | .cl f ps,q,h=>by simp only [ResE] at h ⊢;obtain ⟨qs,h1,h2⟩:=h;exact ⟨qs,h1,ResEL.mono ho ps qs h2⟩
 | .cm f ps,q,h=>by simp only [ResE] at h ⊢;obtain ⟨qs,h1,h2⟩:=h;exact ⟨qs,h1,ResEL.mono ho ps qs h2⟩
 | .sc v,q,h=>by simpa only [ResE] using h
 | .sl sz rows,q,h=>by simpa only [ResE] using h
 | .nl,q,h=>by simpa only [ResE] using h
 | .ep s,q,h=>by simpa only [ResE] using h
 | .eo ..,q,h=>by simpa only [ResE] using h
 | .ub φ,q,h=>by simpa only [ResE] using h
 | .nn kd,q,h=>by simpa only [ResE] using h
 | .ls ..,q,h=>by simp [ResE] at h
 | .lp ..,q,h=>by simp [ResE] at h
 | .fs ..,q,h=>by simp [ResE] at h
 | .bad,q,h=>by simpa only [ResE] using h
theorem ResEL.mono {kb ki:List (Nat×Nat)}{ro ro':List (Nat×Bool×Nat×List (List PV))} (ho:∀ x ∈ ro,x ∈ ro'):∀ (ps qs:List PV),ResEL kb ki ro ps qs→ResEL kb ki ro' ps qs
 | [],qs,h=>by simpa only [ResEL] using h
 | p :: ps,qs,h=>by
  simp only [ResEL] at h ⊢
  obtain ⟨q,r,e,h1,h2⟩:=h
  exact ⟨q,r,e,ResE.mono ho p q h1,ResEL.mono ho ps r h2⟩
end
theorem zez {c:CSt}{kb ki:List (Nat×Nat)} (h1:oneB kb=true) (h2:oneB ki=true):∀ {ps:List PV}{k:List (Nat×Bool×Nat×List (List PV))→List PV→Prop},zmy c kb ki ps k→∃ ro qs,ResEL kb ki ro ps qs∧OkO c ro∧k ro qs
 | [],k,h=>⟨[],[],by simp [ResEL],by simp [OkO],h⟩
 | p :: ps,k,h=>by
  rw [zrs] at h
  obtain ⟨ro,q,g1,g3,h⟩:=zl5 h1 h2 h
  obtain ⟨ro',qs,g4,g6,h⟩:=zez h1 h2 h
  simp only [zcp] at h
  refine ⟨_,_,?_,?_,h⟩
  ·simp only [ResEL]
   exact ⟨q,qs,rfl,ResE.mono (by simp +contextual) _ _ g1,ResEL.mono (by simp +contextual) _ _ g4⟩
  ·intro x hx;rcases List.mem_append.1 hx with hx | hx;exact g3 x hx;exact g6 x hx
theorem zps {c:CSt}{kb ki:List (Nat×Nat)} (h1:oneB kb=true) (h2:oneB ki=true) {p:PV}{k:List (Nat×Bool×Nat×List (List PV))→PV→Prop} (h:zut c kb ki p k):∃ ro q,ResE kb ki ro p q∧OkO c ro∧k ro q:=by
 unfold zut at h
 split at h
 ·obtain ⟨ro,qs,g1,g3,h⟩:=zez h1 h2 h
  exact ⟨ro,_,by simp only [ResE];exact ⟨qs,rfl,g1⟩,g3,h⟩
 ·obtain ⟨ro,qs,g1,g3,h⟩:=zez h1 h2 h
  exact ⟨ro,_,by simp only [ResE];exact ⟨qs,rfl,g1⟩,g3,h⟩
 ·obtain ⟨ro,qs,g1,g3,h⟩:=zez h1 h2 h
  exact ⟨ro,_,by simp only [ResE];exact ⟨qs,rfl,g1⟩,g3,h⟩
 ·exact zl5 h1 h2 h
theorem zf8 {c:CSt}{kb ki:List (Nat×Nat)} (h1:oneB kb=true) (h2:oneB ki=true):∀ {ps:List PV}{k:List (Nat×Bool×Nat×List (List PV))→List PV→Prop},znf c kb ki ps k→∃ ro qs,ResEL kb ki ro ps qs∧OkO c ro∧k ro qs
 | [],k,h=>⟨[],[],by simp [ResEL],by simp [OkO],h⟩
 | p :: ps,k,h=>by
  rw [zs0] at h
  obtain ⟨ro,q,g1,g3,h⟩:=zps h1 h2 h
  obtain ⟨ro',qs,g4,g6,h⟩:=zf8 h1 h2 h
  simp only [zcp] at h
  refine ⟨_,_,?_,?_,h⟩
  ·simp only [ResEL]
   exact ⟨q,qs,rfl,ResE.mono (by simp +contextual) _ _ g1,ResEL.mono (by simp +contextual) _ _ g4⟩
  ·intro x hx;rcases List.mem_append.1 hx with hx | hx;exact g3 x hx;exact g6 x hx
theorem zm5 {c : CSt} {kb ki : List (Nat × Nat)} (h1 : oneB kb = true) (h2 : oneB ki = true) : ∀ {l : List (Nat × Nat)} {k : List (Nat × Bool × Nat × List (List PV)) → List (Nat × List PV) → List (Nat × List PV) → Prop}, bxEK c kb ki l k → ∃ ro rb bx,
    (∀ kk ls',lkA bx kk=some ls'→∃ K ls,(kk,K) ∈ l∧(K,ls) ∈ rb∧ResEL kb ki ro ls ls')∧(∀ kk K,(kk,K) ∈ l→∃ ls,lkA bx kk=some ls)∧OkB c rb∧OkO c ro∧k ro rb bx
 | [],k,h=>⟨[],[],[],by simp [lkA],by simp,by simp [OkB],by simp [OkO],h⟩
 | (kk,K) :: l,k,h=>by
  rw [zy3] at h
  split at h
  ·rename_i ls hls
   obtain ⟨ro,qs,g1,g2,h⟩:=zf8 h1 h2 h
   obtain ⟨ro',rb,bx,g3,g4,g5,g6,h⟩:=zm5 h1 h2 h
   simp only [zcp] at h
   refine ⟨_,_,_,?_,?_,?_,?_,h⟩
   ·intro j ls' hj
    simp only [lkA] at hj
    by_cases e:kk=j
    ·subst e
     simp only [Nat.beq_refl,cond_true,Option.some.injEq] at hj
     subst hj
     exact ⟨K,ls,by simp,by simp,ResEL.mono (by simp +contextual) _ _ g1⟩
    ·rw [zbj e] at hj
     obtain ⟨K',l2,a1,a2,a3⟩:=g3 j ls' hj
     exact ⟨K',l2,by simp [a1],by simp [a2],ResEL.mono (by simp +contextual) _ _ a3⟩
   ·intro j J hj
    simp only [lkA]
    by_cases e:kk=j
    ·subst e;exact ⟨qs,by simp⟩
    ·rw [zbj e]
     rcases List.mem_cons.1 hj with hj | hj
     ·cases hj;exact absurd rfl e
     ·exact g4 j J hj
   ·intro q hq
    rcases List.mem_cons.1 hq with rfl | hq
    ·exact hls
    ·exact g5 q hq
   ·intro x hx;rcases List.mem_append.1 hx with hx | hx;exact g2 x hx;exact g6 x hx
  ·exact h.elim
theorem zi5 {c : CSt} : ∀ {l : List (Nat × Nat)} {k : List (Nat × Bool × Nat × List (List PV)) → List (Nat × Option (Bool × Nat × List (List PV))) → Prop}, obEK c l k → ∃ rs ob,
    (∀ kk o,lkA ob kk=some o→∃ K sz rows,(kk,K) ∈ l∧(K,false,sz,rows) ∈ rs∧o=some (false,sz,rows))∧(∀ kk K,(kk,K) ∈ l→∃ o,lkA ob kk=some o)∧OkO c rs∧k rs ob
 | [],k,h=>⟨[],[],by simp [lkA],by simp,by simp [OkO],h⟩
 | (kk,K) :: l,k,h=>by
  rw [zzj] at h
  split at h
  ·rename_i sz rows hls
   obtain ⟨rs,ob,g3,g4,g5,h⟩:=zi5 h
   refine ⟨_,_,?_,?_,?_,h⟩
   ·intro j o hj
    simp only [lkA] at hj
    by_cases e:kk=j
    ·subst e
     simp only [Nat.beq_refl,cond_true,Option.some.injEq] at hj
     exact ⟨K,sz,rows,by simp,by simp,hj.symm⟩
    ·rw [zbj e] at hj
     obtain ⟨K',s2,l2,a1,a2,a3⟩:=g3 j o hj
     exact ⟨K',s2,l2,by simp [a1],by simp [a2],a3⟩
   ·intro j J hj
    simp only [lkA]
    by_cases e:kk=j
    ·subst e;exact ⟨_,by simp;rfl⟩
    ·rw [zbj e]
     rcases List.mem_cons.1 hj with hj | hj
     ·cases hj;exact absurd rfl e
     ·exact g4 j J hj
   ·intro q hq
    rcases List.mem_cons.1 hq with rfl | hq
    ·exact hls
    ·exact g5 q hq
  ·exact h.elim
theorem zjn {P:Program}{c:CSt}{o:Oper}{cl:Call}{f:Nat}{ps:List PV}{kb0 ki kn:List (Nat×Nat)}{k:Eff→Prop} (ho:o.op=.call cl) (hc:callee c.tm cl.callee cl.args.toList=some (f,ps)) (h:zt5 P c f ps kb0 ki kn k):∃ E,OpSem P o E c.tm∧Sat c.st E∧k E:=by
 unfold zt5 at h
 obtain ⟨kb,kbn,h⟩:=zh1 h
 obtain ⟨h12,h⟩:=za8 h
 rw [Bool.and_eq_true] at h12
 obtain ⟨h1,h2⟩:=h12
 obtain ⟨ro,qs,g1,g2,h⟩:=zf8 h1 h2 h
 obtain ⟨ro',rb,bx,g3,g4,g5,g6,h⟩:=zm5 h1 h2 h
 obtain ⟨rs,ob,g7,g8,g9,h⟩:=zi5 h
 rw [zcp,zcp,zcp] at h
 obtain ⟨r,bx',ob',hs,h⟩:=h
 obtain ⟨hnm,h⟩:=za8 h
 rw [zq6,zsf,zyr,zcp,zhr _ (fun p:Nat×Nat=>p.2) (fun _ _=>rfl),zhr _ (fun p:Nat×Nat=>p.2) (fun _ _=>rfl),zhr _ (fun q:Nat×Bool×Nat×List (List PV)=>(q.1,some (true,q.2.2))) (fun _ _=>rfl),zcp] at h
 unfold namesB at hnm
 simp only [Bool.and_eq_true,List.all_eq_true] at hnm
 obtain ⟨⟨⟨⟨⟨⟨⟨n1,n2⟩,n3⟩,n4⟩,n5⟩,n6⟩,n7⟩,n8⟩:=hnm
 refine ⟨_,z13 (kb:=kb) (kbn:=kbn) (ki:=ki) (kn:=kn) (ro:=ro++ro') (rs:=rs) (rb:=rb) ho hc (ResEL.mono (by simp +contextual) _ _ g1) hs n1 n2 (by rw [List.all_eq_true];exact n3) (by rw [List.all_eq_true];exact n4) ?_ ?_ ?_ ?_ ?_ ?_,⟨g5,?_,?_,?_⟩,h⟩
 ·intro kk ls' hk
  obtain ⟨K,ls,a1,a2,a3⟩:=g3 kk ls' hk
  exact ⟨K,ls,zee h1 a1,a2,ResEL.mono (by simp +contextual) _ _ a3⟩
 ·intro kk K hk;exact g4 kk K (zbl hk)
 ·intro kk o hk
  obtain ⟨K,sz,rows,a1,a2,a3⟩:=g7 kk o hk
  exact ⟨K,sz,rows,zee h2 a1,a2,a3⟩
 ·intro kk K hk;exact g8 kk K (zbl hk)
 ·intro kk o' hk
  have:=n6 (kk,o') (zbl hk)
  cases hl:lkA (ki++kn) kk with
  | none=>simp [hl,noneB] at this
  | some K=>exact ⟨K,rfl⟩
 ·intro q hq p hp e
  have:=n7 q hq p hp
  rw [e] at this;simp at this
 ·intro x hx
  rcases List.mem_append.1 hx with hx | hx
  ·rcases List.mem_append.1 hx with hx | hx
   ·exact g2 x hx
   ·exact g6 x hx
  ·exact g9 x hx
 ·intro K hK
  obtain ⟨p,hp,rfl⟩:=List.mem_map.1 hK
  have:=n8 p hp
  show lkA c.bx p.2=none
  cases hl:lkA c.bx p.2 with
  | none=>rfl
  | some x=>rw [hl] at this;simp [noneB] at this
 ·intro K hK
  obtain ⟨p,hp,rfl⟩:=List.mem_map.1 hK
  have:=n5 p hp
  show lkA c.ob p.2=none
  cases hl:lkA c.ob p.2 with
  | none=>rfl
  | some x=>rw [hl] at this;simp [noneB] at this
def readK (k:Eff→Prop):Eff→Prop
 | ⟨v,rb,ro,fb,fo,wb,wo⟩=>(wb=rb∧wo=ro.map fun q=>(q.1,some q.2))∧k ⟨v,rb,ro,fb,fo,[],[]⟩
theorem ztd {α:Type}{f:Nat→Option α}{l:List (Nat×α)} (h:∀ p ∈ l,f p.1=some p.2):upd f l=f:=by
 funext k
 unfold upd
 split
 ·rename_i p hp
  have h1:=List.mem_of_find?_eq_some hp
  have h2:=List.find?_some hp
  rw [← h p h1]
  congr 1
  exact (by simpa using h2)
 ·rfl
theorem zvr {P:Program}{o:Oper}{v:PV}{rb:List (Nat×List PV)}{ro:List (Nat×Bool×Nat×List (List PV))}{fb fo:List Nat}{ts:List PV} (h:OpSem P o ⟨v,rb,ro,fb,fo,rb,ro.map fun q=>(q.1,some q.2)⟩ ts):OpSem P o ⟨v,rb,ro,fb,fo,[],[]⟩ ts:=by
 intro w0 X S0 M s a w Q K hr hl hs hk
 refine h w0 X S0 M s a w Q K hr hl hs ?_
 intro M' a' w' hr'
 refine hk M' a' w' ?_
 unfold St.apply at hr' ⊢
 have e1:upd s.B rb=s.B:=ztd hs.1
 have e2:upd s.O (ro.map fun q=>(q.1,some q.2))=s.O:=ztd (fun p hp=>by
  obtain ⟨q,hq,rfl⟩:=List.mem_map.1 hp
  exact hs.2.1 q hq)
 simp only at hr' ⊢
 rw [e1,e2] at hr'
 exact hr'
mutual
def unK (p:PV) (k:PV→Prop):Prop :=
 match p with
 | .fs sz rows=>k (.sl sz rows)
 | .ag ps=>unLK ps fun qs=>k (.ag qs)
 | .tu ps=>unLK ps fun qs=>k (.tu qs)
 | .cl f ps=>unLK ps fun qs=>k (.cl f qs)
 | .cm f ps=>unLK ps fun qs=>k (.cm f qs)
 | .sc v=>k (.sc v)
 | .sl sz rows=>k (.sl sz rows)
 | .nl=>k .nl
 | .ow key lo len=>k (.ow key lo len)
 | .pt key off=>k (.pt key off)
 | .bs key off len=>k (.bs key off len)
 | .ep sfx=>k (.ep sfx)
 | .eo key i off=>k (.eo key i off)
 | .ub φ=>k (.ub φ)
 | .nn kd=>k (.nn kd)
 | .ls ..=>k .bad
 | .lp ..=>k .bad
 | .bad=>k .bad
def unLK (ps:List PV) (k:List PV→Prop):Prop :=
 match ps with
 | []=>k []
 | p :: ps=>unK p fun q=>unLK ps fun qs=>k (q :: qs)
end
mutual
theorem unK_eq:∀ (p:PV) (k:PV→Prop),unK p k=k (unf p)
 | .fs ..,k=>by simp [unK,unf]
 | .ag ps,k=>by simp [unK,unf,zhq ps]
 | .tu ps,k=>by simp [unK,unf,zhq ps]
 | .cl f ps,k=>by simp [unK,unf,zhq ps]
 | .cm f ps,k=>by simp [unK,unf,zhq ps]
 | .ow ..,k=>by simp [unK,unf]
 | .eo ..,k=>by simp [unK,unf]
 | .sc v,k=>by simp [unK,unf]
 | .sl ..,k=>by simp [unK,unf]
 | .nl,k=>by simp [unK,unf]
 | .pt ..,k=>by simp [unK,unf]
 | .bs ..,k=>by simp [unK,unf]
 | .ep sfx,k=>by simp [unK,unf]
 | .ub φ,k=>by simp [unK,unf]
 | .nn kd,k=>by simp [unK,unf]
 | .ls ..,k=>by simp [unK,unf]
 | .lp ..,k=>by simp [unK,unf]
 | .bad,k=>by simp [unK,unf]
theorem zhq:∀ (ps:List PV) (k:List PV→Prop),unLK ps k=k (unfL ps)
 | [],k=>by simp [unLK,unfL]
 | p :: ps,k=>by simp [unLK,unfL,unK_eq p,zhq ps]
end
mutual
def fsK (p:PV) (k:PV→Prop):Prop :=
 match p with
 | .sl sz rows=>k (.fs sz rows)
 | .ag ps=>fsLK ps fun qs=>k (.ag qs)
 | .tu ps=>fsLK ps fun qs=>k (.tu qs)
 | .sc v=>k (.sc v)
 | .nl=>k .nl
 | _=>k .bad
def fsLK (ps:List PV) (k:List PV→Prop):Prop :=
 match ps with
 | []=>k []
 | p :: ps=>fsK p fun q=>fsLK ps fun qs=>k (q :: qs)
end
mutual
theorem zx2:∀ (p:PV) (k:PV→Prop),fsK p k=k (fsP p)
 | .sl ..,k=>by simp [fsK,fsP]
 | .ag ps,k=>by simp [fsK,fsP,zsj ps]
 | .tu ps,k=>by simp [fsK,fsP,zsj ps]
 | .sc v,k=>by simp [fsK,fsP]
 | .nl,k=>by simp [fsK,fsP]
 | .fs ..,k=>by simp [fsK,fsP]
 | .cl ..,k=>by simp [fsK,fsP]
 | .cm ..,k=>by simp [fsK,fsP]
 | .ow ..,k=>by simp [fsK,fsP]
 | .eo ..,k=>by simp [fsK,fsP]
 | .pt ..,k=>by simp [fsK,fsP]
 | .bs ..,k=>by simp [fsK,fsP]
 | .ep ..,k=>by simp [fsK,fsP]
 | .ub ..,k=>by simp [fsK,fsP]
 | .nn ..,k=>by simp [fsK,fsP]
 | .ls ..,k=>by simp [fsK,fsP]
 | .lp ..,k=>by simp [fsK,fsP]
 | .bad,k=>by simp [fsK,fsP]
theorem zsj:∀ (ps:List PV) (k:List PV→Prop),fsLK ps k=k (fsL ps)
 | [],k=>by simp [fsLK,fsL]
 | p :: ps,k=>by simp [fsLK,fsL,zx2 p,zsj ps]
end
noncomputable def zm7 (P:Program) (c:CSt) (d:Option Nat) (f:Nat) (ps:List PV) (k:Eff→Prop):Prop :=
 unLK ps fun ps=>resAK c ps fun rb ro qs=>∃ r os,Ctr P f qs r os ∧
  match rb with
  | []=>(∀ q ∈ os,ScR q.2)∧okK (scOw r) (∃ n,d.map (· * 16)=some n∧(∀ i,i < os.length→lkA c.ob (n+i)=none)∧shK n r fun r'=>k ⟨r',[],ro,[],(List.range os.length).map (n+·),[],zcs n os⟩)
  | _=>False
noncomputable def zmv (P:Program) (c:CSt) (f:Nat) (ps:List PV) (k:Eff→Prop):Prop :=
 unLK ps fun ps=>resAK c ps fun rb ro qs=>∃ r,CtrN P f qs r ∧
  match rb with
  | []=>fsK r fun r'=>k ⟨r',[],ro,[],[],[],[]⟩
  | _=>False
def resNK (ki:List (Nat×Nat)) (p:PV) (k:PV→Prop):Prop :=
 match p with
 | .sc v=>k (.sc v)
 | .nl=>k .nl
 | .fs sz rows=>k (.sl sz rows)
 | .ow key lo len=>rvK ki key (fun kk=>k (.ow kk lo len)) False
 | _=>False
noncomputable def z0u (ki:List (Nat×Nat)) (ps:List PV):(List PV→Prop)→Prop :=
 @List.rec PV (fun _=>(List PV→Prop)→Prop) (fun k=>k []) (fun p _ R k=>resNK ki p fun q=>R fun qs=>k (q :: qs)) ps
noncomputable def ztj (ki:List (Nat×Nat)) (p:PV) (k:PV→Prop):Prop :=
 match p with
 | .ag ps=>z0u ki ps fun qs=>k (.ag qs)
 | p=>resNK ki p k
noncomputable def zy9 (ki:List (Nat×Nat)) (ps:List PV):(List PV→Prop)→Prop :=
 @List.rec PV (fun _=>(List PV→Prop)→Prop) (fun k=>k []) (fun p _ R k=>ztj ki p fun q=>R fun qs=>k (q :: qs)) ps
theorem zk6 {ki:List (Nat×Nat)} (h1:oneB ki=true) {p:PV}{k:PV→Prop} (h:resNK ki p k):∃ q,ResN ki p q∧k q:=by
 unfold resNK at h
 split at h
 ·exact ⟨_,by simp [ResN],h⟩
 ·exact ⟨_,by simp [ResN],h⟩
 ·exact ⟨_,by simp [ResN],h⟩
 ·rcases zfc h with ⟨kk,hm,h⟩ | h
  ·exact ⟨_,by simp only [ResN];exact ⟨kk,zee h1 hm,rfl⟩,h⟩
  ·exact h.elim
 ·exact h.elim
theorem zjr {ki:List (Nat×Nat)} (h1:oneB ki=true):∀ {ps:List PV}{k:List PV→Prop},z0u ki ps k→∃ qs,ResNL ki ps qs∧k qs
 | [],k,h=>⟨[],by simp [ResNL],h⟩
 | p :: ps,k,h=>by
  have h:resNK ki p fun q=>z0u ki ps fun qs=>k (q :: qs):=h
  obtain ⟨q,g1,h⟩:=zk6 h1 h
  obtain ⟨qs,g2,h⟩:=zjr h1 h
  exact ⟨q :: qs,by simp only [ResNL];exact ⟨q,qs,rfl,g1,g2⟩,h⟩
theorem zpr {ki:List (Nat×Nat)} (h1:oneB ki=true) {p:PV}{k:PV→Prop} (h:ztj ki p k):∃ q,ResN ki p q∧k q:=by
 unfold ztj at h
 split at h
 ·obtain ⟨qs,g,h⟩:=zjr h1 h
  exact ⟨_,by simp only [ResN];exact ⟨qs,rfl,g⟩,h⟩
 ·exact zk6 h1 h
theorem zjv {ki:List (Nat×Nat)} (h1:oneB ki=true):∀ {ps:List PV}{k:List PV→Prop},zy9 ki ps k→∃ qs,ResNL ki ps qs∧k qs
 | [],k,h=>⟨[],by simp [ResNL],h⟩
 | p :: ps,k,h=>by
  have h:ztj ki p fun q=>zy9 ki ps fun qs=>k (q :: qs):=h
  obtain ⟨q,g1,h⟩:=zpr h1 h
  obtain ⟨qs,g2,h⟩:=zjv h1 h
  exact ⟨q :: qs,by simp only [ResNL];exact ⟨q,qs,rfl,g1,g2⟩,h⟩
noncomputable def callNK (P:Program) (c:CSt) (f:Nat) (ps:List PV) (ki:List (Nat×Nat)) (k:Eff→Prop):Prop :=
 okK (oneB ki && ki.all fun p=>Nat.ble 9990 p.1) (zy9 ki ps fun qs=>obEK c ki fun rs ob=>∃ r,CtrE P f qs [] ob r [] ob∧(∀ q ∈ rs,ScR q.2.2.2)∧fsK r fun r'=>k ⟨r',[],rs,[],[],[],[]⟩)
def markK (kn:List (Nat×Nat)):Nat:=match kn with
 | (k,_) :: _=>bif Nat.beq k 999999 then 1 else bif Nat.beq k 999998 then 2 else bif Nat.beq k 999997 then 3 else bif Nat.beq k 999996 then 4 else 0
 | []=>0
noncomputable def callK (P:Program) (c:CSt) (d:Option Nat) (f:Nat) (ps:List PV) (k:Eff→Prop):Prop :=
 ∃ m:Option (List (Nat×Nat)×List (Nat×Nat)×List (Nat×Nat)),match m with
  | none=>zjh P c d f ps k
  | some (kb,ki,kn)=>match markK kn with
   | 0=>zt5 P c f ps kb ki kn k
   | 1=>zt5 P c f ps kb ki [] (readK k)
   | 2=>zm7 P c d f ps k
   | 3=>zmv P c f ps k
   | _=>callNK P c f ps ki k
noncomputable def zod (P:Program) (c:CSt) (d:Option Nat) (b:Builtin) (args:List Operand) (tys:List TypeId) (k:Eff→Prop):Prop :=
 match b,args,tys with
 | .len,[x],[t]=>evK c.tm x fun p=>match P.underlying t with
  | some (.slice _)=>match p with
   | .sl _ rows=>k (vE (.sc (.int .i64 rows.length)))
   | .nl=>k (vE (.sc (.int .i64 (0:Nat))))
   | .ow _ _ n=>k (vE (.sc (.int .i64 n)))
   | .ls _ rows=>k (vE (.sc (.int .i64 rows.length)))
   | .bs _ _ n=>k (vE (.sc (.int .i64 n)))
   | _=>False
  | some .string=>match p with
   | .sc (.string s)=>k (vE (.sc (.int .i64 s.size)))
   | _=>False
  | _=>False
 | .max,[x,y],_=>evK c.tm x fun p=>evK c.tm y fun q=>match p,q with
  | .sc (.int kk m),.sc (.int _ n)=>k (vE (.sc (.int kk (if n > m then n else m))))
  | _,_=>False
 | .min,[x,y],_=>evK c.tm x fun p=>evK c.tm y fun q=>match p,q with
  | .sc (.int kk m),.sc (.int _ n)=>k (vE (.sc (.int kk (if n < m then n else m))))
  | .sc (.float .f64 a),.sc (.float .f64 b)=>match FloatKind.f64.format.order a b with
   | some q=>k (vE (.sc (.float .f64 (fminW q a b))))
   | none=>False
  | _,_=>False
 | .clear,[x],[t]=>evK c.tm x fun p=>match P.underlying t with
  | some (.slice e)=>match P.info? e with
   | some inf=>match inf.zero with
    | some z=>zlK z.cells.toList fun zs=>okK (Nat.beq z.cells.size inf.size && zs.all leaf1) (match p with
     | .ow key lo len=>match lkA c.ob key with
      | some (some (false,sz,all))=>(inf.size=sz∧lo+len≤all.length)∧k ⟨.tu [],[],[(key,false,sz,all)],[],[],[],[(key,some (false,sz,all.take lo++List.replicate len (List.replicate sz .bad)++all.drop (lo+len)))]⟩
      | _=>False
     | _=>False)
    | none=>False
   | none=>False
  | _=>False
 | .append,[x,y],[t,t']=>match d with
  | none=>False
  | some d=>okK (Nat.beq t t') (evK c.tm x fun p=>evK c.tm y fun q=>match P.underlying t with
   | some (.slice e)=>match P.info? e with
    | some inf=>match inf.zero with
     | some z=>okK (Nat.beq z.cells.size inf.size) (match p with
      | .nl=>srcK c q inf.size fun ro rows=>((rows.length * inf.bytes≤140737488355328∧rows.length≤maxLen)∧lkA c.ob (d * 16)=none)∧k ⟨.ow (d * 16) 0 rows.length,[],ro,[],[d * 16],[],[(d * 16,some (false,inf.size,rows))]⟩
      | .ow key 0 len=>match lkA c.ob key with
       | some (some (false,sz,all))=>srcK c q inf.size fun ro rows=>((sz=inf.size∧len≤all.length∧(len+rows.length) * inf.bytes≤140737488355328∧len+rows.length≤maxLen∧∀ r ∈ rows,r.all leaf1=true)∧d * 16 ≠ key∧lkA c.ob (d * 16)=none)∧k ⟨.ow (d * 16) 0 (len+rows.length),[],(key,false,inf.size,all) :: ro,[],[d * 16],[],[(key,none),(d * 16,some (false,inf.size,all.take len++rows))]⟩
       | _=>False
      | _=>False)
     | none=>False
    | none=>False
   | _=>False)
 | _,_,_=>False
def zur {α:Type} (bx:List (Nat×α)) (d:Nat):List Nat→(Nat→Prop)→Prop
 | [],_=>False
 | j :: js,k=>match lkA bx (d+1000 * j) with
  | none=>k (d+1000 * j)
  | some _=>zur bx d js k
def zqp {α:Type} (bx:List (Nat×α)) (d:Nat) (k:Nat→Prop):Prop :=
 match lkA bx d with
 | none=>k d
 | some _=>zur bx d [1,2,3,4,5,6,7,8,9,10,11,12,13,14,15,16,17,18,19,20,21,22,23,24,25,26,27,28,29,30,31,32] k
theorem zjg {α:Type}{bx:List (Nat×α)}{d:Nat}{k:Nat→Prop}:∀ {js:List Nat},zur bx d js k→∃ n,lkA bx n=none∧k n
 | [],h=>h.elim
 | j :: js,h=>by
  unfold zur at h
  split at h
  ·rename_i e;exact ⟨_,e,h⟩
  ·exact zjg h
theorem zgb {α:Type}{bx:List (Nat×α)}{d:Nat}{k:Nat→Prop} (h:zqp bx d k):∃ n,lkA bx n=none∧k n:=by
 unfold zqp at h
 split at h
 ·rename_i e;exact ⟨_,e,h⟩
 ·exact zjg h
def zmd:Operand→Bool
 | .const (.slice none 0 0)=>true
 | _=>false
theorem zxz {x:Operand} (h:zmd x=true):x=.const (.slice none 0 0):=by
 unfold zmd at h
 split at h
 ·rfl
 ·cases h
def nilK (P:Program) (op:BinOp) (t:TypeId) (p:PV) (k:PV→Prop):Prop :=
 match op,P.underlying t with
 | .eql,some (.slice _)=>match p with
  | .sl _ rows=>k (.ub (rows=[]))
  | .ow _ _ len=>k (.ub (len=0))
  | .nl=>k (.ub True)
  | .sc (.slice none 0 0)=>k (.sc (.bool true))
  | _=>False
 | .neq,some (.slice _)=>match p with
  | .sl _ rows=>rows ≠ []∧k (.sc (.bool true))
  | .ow _ _ len=>0 < len∧k (.sc (.bool true))
  | .sc (.slice none 0 0)=>k (.sc (.bool false))
  | _=>False
 | _,_=>False
noncomputable def opE (P:Program) (c:CSt) (o:Oper) (k:Eff→Prop):Prop :=
 match o.op with
 | .move x=>evK c.tm x fun p=>k (vE p)
 | .assign x=>evK c.tm x fun p=>k (vE p)
 | .pick q x y=>evK c.tm q fun p=>match p with
  | .sc (.bool b)=>zuc b fun b=>match b with
   | true=>evK c.tm x fun p=>k (vE p)
   | false=>evK c.tm y fun p=>k (vE p)
  | _=>False
 | .binOp op t x y _=>match zmd y with
  | true=>evK c.tm x fun p=>nilK P op t p fun r=>k (vE r)
  | false=>evK c.tm x fun p=>evK c.tm y fun q=>binK P op t p q fun r=>k (vE r)
 | .unOp op _ x=>evK c.tm x fun p=>match p with
  | .sc u=>match pun op u with
   | some r=>k (vE (.sc r))
   | none=>False
  | _=>False
 | .convert src dst x=>evK c.tm x fun p=>match p,P.underlying src,P.underlying dst with
  | .sc (.int _ n),some _,some (.int kk)=>k (vE (.sc (.int kk (kk.wrap n))))
  | .sc (.int _ n),some _,some (.float kk)=>k (vE (.sc (.float kk (kk.nearest n))))
  | _,_,_=>False
 | .box _ x=>match o.dst with
  | some d=>evK c.tm x fun p=>lvK p fun ls=>okK (ls.all leaf1) (zqp c.bx d fun d=>k ⟨.pt d 0,[],[],[d],[],[(d,ls)],[]⟩)
  | none=>False
 | .alloc t=>match o.dst with
  | some d=>match P.info? t with
   | some inf=>match inf.zero with
    | some z=>zlK z.cells.toList fun ls=>zqp c.bx d fun d=>k ⟨.pt d 0,[],[],[d],[],[(d,ls)],[]⟩
    | none=>False
   | none=>False
  | none=>False
 | .build t parts=>match zeroT P t,znv P t with
  | some z,some place=>zlK z.cells.toList fun zs=>okK (zs.all leaf1) (zpa c.tm parts.toList fun ps=>zq3 place zs ps fun ls=>k (vE (.ag ls)))
  | _,_=>False
 | .buildSlice t len parts=>match P.underlying t with
  | some (.slice e)=>match P.info? e with
   | some inf=>match len,parts.toList with
    | 0,[]=>k (vE .nl)
    | len,pl=>match inf.zero with
     | some z=>okK (Nat.beq z.cells.size inf.size && Nat.blt 0 (len * inf.size) && Nat.ble (len * inf.size) 16777216) (zlK z.cells.toList fun zs=>okK (zs.all leaf1) (repK len zs fun zz=>zpa c.tm pl fun ps=>zq3 (fun i=>some (i * inf.size,inf.size)) zz ps fun ls=>okK (Nat.beq ls.length (len * inf.size)) (match zec ls with | true=>zqk inf.size len ls fun rows=>k (vE (.sl inf.size rows)) | false=>match len,o.dst with
      | 1,some d=>zqp c.bx d fun d=>k ⟨.bs d 0 1,[],[],[d],[],[(d,ls)],[]⟩
      | len,_=>zqk inf.size len ls fun rows=>k (vE (.ls inf.size rows)))))
     | none=>False
   | none=>False
  | _=>False
 | .load t x=>evK c.tm x fun p=>match p with
  | .pt key off=>match lkA c.bx key with
   | some ls=>dropK off ls fun sfx=>ldK P t sfx fun v=>k ⟨v,[(key,ls)],[],[],[],[],[]⟩
   | none=>False
  | .ep sfx=>ldK P t sfx fun v=>k (vE v)
  | .lp sfx=>ldK P t sfx fun v=>k (vE v)
  | .eo key i off=>match lkA c.ob key with
   | some (some (fz,sz,rows))=>∃ row,rows[i]?=some row∧dropK off row fun sfx=>ldK P t sfx fun v=>k ⟨v,[],[(key,fz,sz,rows)],[],[],[],[]⟩
   | _=>False
  | _=>False
 | .store t x y=>evK c.tm x fun p=>evK c.tm y fun q=>lvK q fun ns=>match P.info? t with
  | some inf=>okK (ns.all leaf1 && Nat.beq ns.length inf.size) (match p with
   | .pt key off=>match lkA c.bx key with
    | some ls=>match zmd y,ls with
     | true,[c0,c1,c2]=>okK (Nat.beq inf.size 1 && Nat.ble (off+1) 3) (zgh [c0,c1,c2] off [.sc (.slice none 0 0)] fun ls'=>k ⟨.bad,[(key,[c0,c1,c2])],[],[],[],[(key,ls')],[]⟩)
     | _,ls=>okK (Nat.ble (off+ns.length) ls.length) (zgh ls off ns fun ls'=>k ⟨.bad,[(key,ls)],[],[],[],[(key,ls')],[]⟩)
    | none=>False
   | .eo key i off=>match lkA c.ob key with
    | some (some (false,sz,rows))=>okK (Nat.ble (off+ns.length) sz && zec ns) (∃ row,rows[i]?=some row∧zgh row off ns fun row'=>k ⟨.bad,[],[(key,false,sz,rows)],[],[],[],[(key,some (false,sz,rows.set i row'))]⟩)
    | _=>False
   | _=>False)
  | none=>False
 | .nilCheck x=>evK c.tm x fun p=>paddK p 0 fun _=>k (vE p)
 | .fieldAddr t x i=>evK c.tm x fun p=>fldK P t i fun off=>paddK p off fun q=>k (vE q)
 | .indexAddr t x y=>evK c.tm x fun p=>evK c.tm y fun q=>match q with
  | .sc (.int _ n)=>match P.underlying t with
   | some (.array len e)=>match P.info? e with
    | some inf=>(0≤n∧n < (len:Int))∧paddK p (n.toNat * inf.size) fun r=>k (vE r)
    | none=>False
   | some (.slice e)=>match P.info? e with
    | some inf=>match p with
     | .sl sz rows=>okK (Nat.beq inf.size sz) (0≤n∧∃ row,rows[n.toNat]?=some row∧k (vE (.ep row)))
     | .ls sz rows=>okK (Nat.beq inf.size sz) (0≤n∧∃ row,rows[n.toNat]?=some row∧k (vE (.lp row)))
     | .bs key off len=>(0≤n∧n < (len:Int))∧k (vE (.pt key (off+n.toNat * inf.size)))
     | .ow key lo len=>match lkA c.ob key with
      | some (some (fz,sz,rows))=>okK (Nat.beq inf.size sz) ((0≤n∧n < (len:Int))∧k ⟨.eo key (lo+n.toNat) 0,[],[(key,fz,sz,rows)],[],[],[],[]⟩)
      | _=>False
     | _=>False
    | none=>False
   | _=>False
  | _=>False
 | .slice t x lo hi mx=>evK c.tm x fun p=>match P.underlying t with
  | some (.slice e)=>match P.info? e with
   | some inf=>match mx with
    | none=>match p with
     | .sl sz rows=>okK (Nat.beq inf.size sz) (bndK c.tm lo 0 fun l=>bndK c.tm hi rows.length fun h=>(0≤l∧l≤h∧h≤rows.length)∧k (vE (.sl sz ((rows.take h.toNat).drop l.toNat))))
     | .ow key lo0 len=>match lkA c.ob key with
      | some (some (fz,sz,rows))=>okK (Nat.beq inf.size sz) (bndK c.tm lo 0 fun l=>bndK c.tm hi len fun h=>(0≤l∧l≤h∧h≤(len:Int))∧k ⟨.ow key (lo0+l.toNat) (h.toNat - l.toNat),[],[(key,fz,sz,rows)],[],[],[],[]⟩)
      | _=>False
     | .nl=>bndK c.tm lo 0 fun l=>bndK c.tm hi 0 fun h=>(l=0∧h=0)∧k (vE .nl)
     | _=>False
    | some z=>match lo,hi with
     | none,some y=>evK c.tm y fun q=>evK c.tm z fun r=>match q,r with
      | .sc (.int _ 0),.sc (.int _ 0)=>match p with
       | .nl=>k (vE .nl)
       | .sl _ _=>k (vE .nl)
       | .ow _ _ _=>k (vE .nl)
       | _=>False
      | _,_=>False
     | _,_=>False
   | none=>False
  | some .string=>match mx,p with
   | none,.sc (.string b)=>bndK c.tm lo 0 fun l=>bndK c.tm hi b.size fun h=>(0≤l∧l≤h∧h≤b.size)∧k (vE (.sc (.string (b.extract l.toNat h.toNat))))
   | _,_=>False
  | some (.array n e)=>match lo,hi,mx with
   | none,none,none=>match p with
    | .pt key off=>match P.info? e with
     | some _=>okK (Nat.blt 0 n) (k (vE (.bs key off n)))
     | none=>False
    | _=>False
   | _,_,_=>False
  | _=>False
 | .extract x i=>evK c.tm x fun p=>match p with
  | .tu ps=>match ps[i]? with
   | some q=>k (vE q)
   | none=>False
  | _=>False
 | .index t x y=>evK c.tm x fun p=>evK c.tm y fun q=>match q with
  | .sc (.int _ n)=>match P.underlying t with
   | some (.array len e)=>match P.info? e with
    | some inf=>match p with
     | .ag ps=>(0≤n∧n < (len:Int))∧dropK (n.toNat * inf.size) ps fun sfx=>ldK P e sfx fun v=>k (vE v)
     | _=>False
    | none=>False
   | some .string=>match p with
    | .sc (.string s)=>0≤n∧∃ b,s[n.toNat]?=some b∧k (vE (.sc (.int .u8 (b.toNat:Int))))
    | _=>False
   | _=>False
  | _=>False
 | .field t x i=>evK c.tm x fun p=>match p with
  | .ag ps=>match P.underlying t with
   | some (.struct fs)=>match fs.toList[i]? with
    | some ⟨_,ty,off,_,_,_,_⟩=>dropK off ps fun sfx=>ldK P ty sfx fun v=>k (vE v)
    | none=>False
   | _=>False
  | _=>False
 | .makeFunc (.func f) fst caps=>match fst.toList with
  | []=>evLK c.tm caps.toList fun ps=>k (vE (.cl f ps))
  | x :: xs=>match caps.toList with
   | []=>evLK c.tm (x :: xs) fun ps=>k (vE (.cm f ps))
   | _=>False
 | .call ⟨.value f,args,_⟩=>evK c.tm f fun p=>match p with
  | .cl g caps=>evLK c.tm args.toList fun ps=>appK ps caps fun ps=>callK P c o.dst g ps k
  | .cm g caps=>evLK c.tm args.toList fun ps=>appK caps ps fun ps=>callK P c o.dst g ps k
  | _=>False
 | .call ⟨.builtin b,args,tys⟩=>zod P c o.dst b args.toList tys.toList k
 | .makeSlice t x y=>match o.dst with
  | some d=>evK c.tm x fun p=>evK c.tm y fun q=>match p,q with
   | .sc (.int kl n),.sc (.int kc m)=>match P.underlying t with
    | some (.slice e)=>match P.info? e with
     | some inf=>match inf.zero with
      | some z=>match z.cells.toList with
       | [v]=>okK (Nat.beq inf.size 1) (((n=m∧0≤n∧n.toNat * inf.bytes≤140737488355328∧n.toNat≤maxLen)∧lkA c.ob (d * 16)=none)∧k ⟨.ow (d * 16) 0 n.toNat,[],[],[],[d * 16],[],[(d * 16,some (false,inf.size,List.replicate n.toNat [.sc v]))]⟩)
       | _=>False
      | none=>False
     | none=>False
    | _=>False
   | _,_=>False
  | none=>False
 | _=>False
theorem zah (s:St) (p:PV):Sat s (vE p):=by simp [Sat,vE]
theorem zlb {P:Program}{c:CSt}{o:Oper}{cl:Call}{f:Nat}{ps:List PV}{k:Eff→Prop} (ho:o.op=.call cl) (hc:callee c.tm cl.callee cl.args.toList=some (f,ps)) (h:callK P c o.dst f ps k):∃ E,OpSem P o E c.tm∧Sat c.st E∧k E:=by
 obtain ⟨m,h⟩:=h
 split at h
 case h_2 kb ki kn =>
  split at h
  ·exact zjn ho hc h
  ·obtain ⟨⟨v,rb,ro,fb,fo,wb,wo⟩,e1,e2,e3⟩:=zjn ho hc h
   obtain ⟨⟨rfl,rfl⟩,e3⟩:=e3
   exact ⟨_,zvr e1,e2,e3⟩
  ·unfold zm7 at h
   rw [zhq] at h
   obtain ⟨rb,ro,qs,h1,h2,h3,r,os,hs,h⟩:=zfp h
   split at h
   ·obtain ⟨h4,h⟩:=h
    obtain ⟨h5,n,_,h6,h⟩:=za8 h
    rw [zz4] at h
    exact ⟨_,z2x (n:=n) ho hc h1 hs h5 h4,⟨by simp,h3,by simp,fun x hx=>by
     simp only [List.mem_map,List.mem_range] at hx
     obtain ⟨i,hi,rfl⟩:=hx
     exact h6 i hi⟩,h⟩
   ·exact h.elim
  ·unfold zmv at h
   rw [zhq] at h
   obtain ⟨rb,ro,qs,h1,h2,h3,r,hs,h⟩:=zfp h
   split at h
   ·rw [zx2] at h
    exact ⟨_,zz7 ho hc h1 hs,⟨by simp,h3,by simp,by simp⟩,h⟩
   ·exact h.elim
  ·unfold callNK at h
   obtain ⟨h1,h⟩:=za8 h
   rw [Bool.and_eq_true] at h1
   obtain ⟨qs,h2,h⟩:=zjv h1.1 h
   obtain ⟨rs,ob,g7,g8,g9,r,hs,h3,h⟩:=zi5 h
   rw [zx2] at h
   exact ⟨_,z4j ho hc h2 hs h1.1 h1.2 (fun kk o hk=>by
    obtain ⟨K,sz,rows,a1,a2,a3⟩:=g7 kk o hk
    exact ⟨K,sz,rows,zee h1.1 a1,a2,a3⟩) (fun kk K hk=>g8 kk K (zbl hk)) h3,⟨by simp,g9,by simp,by simp⟩,h⟩
 unfold zjh at h
 obtain ⟨rb,ro,qs,h1,h2,h3,r,os,hs,h⟩:=zfp h
 split at h
 ·rename_i hsc
  exact ⟨_,z2d ho hc h1 hs hsc,⟨h2,h3,by simp,by simp⟩,h⟩
 ·split at h
  ·obtain ⟨n,_,h5,h6,h⟩:=h
   rw [zz4] at h
   exact ⟨_,z4v (n:=n) ho hc h1 hs h5,⟨by simp,h3,by simp,fun x hx=>by
    simp only [List.mem_map,List.mem_range] at hx
    obtain ⟨i,hi,rfl⟩:=hx
    exact h6 i hi⟩,h⟩
  ·exact h.elim
theorem zma {P:Program}{c:CSt}{o:Oper}{b:Builtin}{args:Array Operand}{tys:Array TypeId}{k:Eff→Prop} (ho:o.op=.call ⟨.builtin b,args,tys⟩) (h:zod P c o.dst b args.toList tys.toList k):∃ E,OpSem P o E c.tm∧Sat c.st E∧k E:=by
 unfold zod at h
 split at h
 ·rename_i x t ha ht
  have ea:args=#[x]:=by apply Array.ext';simpa using ha
  have et:tys=#[t]:=by apply Array.ext';simpa using ht
  subst ea et
  rw [za5] at h
  split at h
  ·rename_i e hu
   split at h
   ·rename_i sz rows hp
    exact ⟨_,zzo ho hu hp (.inl ⟨_,_,rfl,rfl⟩),zah _ _,h⟩
   ·rename_i hp
    exact ⟨_,zzo ho hu hp (.inr (.inl ⟨rfl,rfl⟩)),zah _ _,h⟩
   ·rename_i hp
    exact ⟨_,zzo ho hu hp (.inr (.inr ⟨_,_,rfl⟩)),zah _ _,h⟩
   ·rename_i hp
    exact ⟨_,z4r ho hu hp,zah _ _,h⟩
   ·rename_i hp
    exact ⟨_,z10 ho hu hp,zah _ _,h⟩
   ·exact h.elim
  ·rename_i hu
   split at h
   ·rename_i s hp
    exact ⟨_,zzv ho hu hp,zah _ _,h⟩
   ·exact h.elim
  ·exact h.elim
 ·rename_i x y ha
  have ea:args=#[x,y]:=by apply Array.ext';simpa using ha
  subst ea
  rw [za5,za5] at h
  split at h
  ·rename_i hp hq
   exact ⟨_,os_max ho hp hq,zah _ _,h⟩
  ·exact h.elim
 ·rename_i x y ha
  have ea:args=#[x,y]:=by apply Array.ext';simpa using ha
  subst ea
  rw [za5,za5] at h
  split at h
  ·rename_i hp hq
   exact ⟨_,os_min ho hp hq,zah _ _,h⟩
  ·rename_i hp hq
   split at h
   ·rename_i q ho2
    exact ⟨_,os_minF ho hp hq ho2,zah _ _,h⟩
   ·exact h.elim
  ·exact h.elim
 ·rename_i x t ha ht
  have ea:args=#[x]:=by apply Array.ext';simpa using ha
  have et:tys=#[t]:=by apply Array.ext';simpa using ht
  subst ea et
  rw [za5] at h
  split at h
  ·rename_i e hu
   split at h
   ·rename_i inf hi
    split at h
    ·rename_i z hz
     rw [zmt] at h
     obtain ⟨h1,h⟩:=za8 h
     simp only [Bool.and_eq_true,Nat.beq_eq] at h1
     split at h
     ·rename_i key lo len hp
      split at h
      ·rename_i sz all hk
       obtain ⟨⟨e1,e2⟩,h⟩:=h
       exact ⟨_,z2z ho hu hi hz h1.1 h1.2 hp e1 e2,⟨by simp,by simp;exact hk,by simp,by simp⟩,h⟩
      ·exact h.elim
     ·exact h.elim
    ·exact h.elim
   ·exact h.elim
  ·exact h.elim
 ·rename_i x y t t' ha ht
  split at h
  ·exact h.elim
  ·rename_i d hd
   have ea:args=#[x,y]:=by apply Array.ext';simpa using ha
   have et:tys=#[t,t']:=by apply Array.ext';simpa using ht
   subst ea et
   have g:=(za8 h).2
   have htt:t=t':=Nat.eq_of_beq_eq_true (za8 h).1
   clear h
   subst htt
   rw [za5,za5] at g
   split at g
   ·rename_i e hu
    split at g
    ·rename_i inf hi
     split at g
     ·rename_i z hz
      obtain ⟨hzs,g⟩:=za8 g
      have hzs:z.cells.size=inf.size:=Nat.eq_of_beq_eq_true hzs
      split at g
      ·rename_i hp
       obtain ⟨ro,rows,hs,hro,⟨⟨h1,h2⟩,h3⟩,g⟩:=zmo g
       exact ⟨_,z2n (d:=d * 16) ho hu hi hz hzs hp rfl hs h1 h2,⟨by simp,hro,by simp,by simp;exact h3⟩,g⟩
      ·rename_i key len hp
       split at g
       ·rename_i sz all hk
        obtain ⟨ro,rows,hs,hro,⟨⟨e1,e2,e3,e4,e5⟩,e6,e7⟩,gg⟩:=zmo g
        subst e1
        exact ⟨_,z3o (d:=d * 16) ho hu hi hz hzs hp rfl hs e6 e2 e3 e4 e5,⟨by simp,by
         intro q hq
         rcases List.mem_cons.1 hq with rfl | hq
         ·exact hk
         ·exact hro q hq,by simp,by simp;exact e7⟩,gg⟩
       ·exact g.elim
      ·exact g.elim
     ·exact g.elim
    ·exact g.elim
   ·exact g.elim
 ·exact h.elim
theorem zwo {P:Program}{c:CSt}{o:Oper}{op:BinOp}{t t':TypeId}{x y:Operand}{k:PV→Prop} (ho:o.op=.binOp op t x y t') (h:binK P op t (aev c.tm x) (aev c.tm y) k):∃ r,OpSem P o (vE r) c.tm∧k r:=by
 unfold binK at h
 split at h
 ·rename_i u v hx hy
  split at h
  ·rename_i r hr
   exact ⟨_,os_bin ho hx hy hr,h⟩
  ·split at h
   ·rename_i r m n hr
    exact ⟨_,os_div ho hx hy hr h.1.1 h.1.2,h.2⟩
   ·split at h
    ·exact ⟨_,zpy ho (.inl rfl) h.1 hx hy,by simpa using h.2⟩
    ·exact ⟨_,zpy ho (.inr rfl) h.1 hx hy,by simpa using h.2⟩
    ·obtain ⟨res,hr,h⟩:=zvm h
     exact ⟨_,z4m ho hx hy hr,h⟩
    ·exact h.elim
 ·rename_i xs ys hx hy
  split at h
  ·obtain ⟨h1,r,h2,h⟩:=h
   have:=zlf (P:=P) (o:=o) (ts:=c.tm) ho (.inl rfl) h1 hx hy h2
   exact ⟨_,this,by simpa using h⟩
  ·obtain ⟨h1,r,h2,h⟩:=h
   have:=zlf (P:=P) (o:=o) (ts:=c.tm) ho (.inr rfl) h1 hx hy h2
   exact ⟨_,this,by simpa using h⟩
  ·exact h.elim
 ·unfold nanK at h
  obtain ⟨h1,h⟩:=za8 h
  simp only [Bool.and_eq_true] at h1
  split at h
  ·rename_i r hr
   exact ⟨_,os_nan ho rfl rfl h1.1.1 h1.1.2 h1.2 hr,h⟩
  ·exact h.elim
theorem zwh {P:Program}{c:CSt}{o:Oper}{op:BinOp}{t t':TypeId}{x y:Operand}{k:PV→Prop} (ho:o.op=.binOp op t x y t') (hn:zmd y=true) (h:nilK P op t (aev c.tm x) k):∃ r,OpSem P o (vE r) c.tm∧k r:=by
 have hy:y=.const (.slice none 0 0):=by
  unfold zmd at hn
  split at hn
  ·rfl
  ·cases hn
 subst hy
 unfold nilK at h
 split at h
 ·rename_i e hu
  split at h
  ·rename_i sz rows hx
   exact ⟨_,zo2 ho hu hx (fun M w v a n cc hv e=>by
    simp only [RV] at hv
    obtain ⟨a',n',c',e1,e2,e3,e4⟩:=hv
    rw [e] at e1;cases e1
    rcases e4 with e4 | ⟨b,off,cs,e5,_⟩
    ·exact e4
    ·cases e5) (fun M w v hv=>by
    simp only [RV] at hv
    obtain ⟨a',n',c',e1,_⟩:=hv
    exact ⟨_,_,_,e1⟩),h⟩
  ·rename_i key lo len hx
   exact ⟨_,zo2 ho hu hx (fun M w v a n cc hv e=>by
    simp only [RV] at hv
    obtain ⟨L,hL,hc⟩:=hv
    rcases hc with ⟨_,h2,_⟩ | ⟨_,h2,a',h3,h4⟩
    ·exact h2
    ·rw [e] at h3
     by_cases hlt:lo < L.cap
     ·have:=h4 hlt;cases h3;cases this
     ·cases h3;omega) (fun M w v hv=>by
    simp only [RV] at hv
    obtain ⟨L,hL,hc⟩:=hv
    rcases hc with ⟨_,_,a,h3⟩ | ⟨_,_,a,h3,_⟩
    ·exact ⟨_,_,_,h3⟩
    ·exact ⟨_,_,_,h3⟩),h⟩
  ·rename_i hx
   exact ⟨_,zo2 ho hu hx (fun _ _ _ _ _ _ _ _=>trivial) (fun M w v hv=>by
    simp only [RV] at hv
    obtain ⟨a,h3⟩:=hv
    exact ⟨_,_,_,h3⟩),h⟩
  ·rename_i hx
   exact ⟨_,zh3 (b:=true) ho (.inl rfl) hu hx (fun M w v hv=>by simp only [RV] at hv;exact ⟨_,_,_,hv,rfl⟩),h⟩
  ·exact h.elim
 ·rename_i e hu
  split at h
  ·rename_i sz rows hx
   exact ⟨_,zh3 (b:=false) ho (.inr rfl) hu hx (fun M w v hv=>sl_some h.1 hv),h.2⟩
  ·rename_i key lo len hx
   exact ⟨_,zh3 (b:=false) ho (.inr rfl) hu hx (fun M w v hv=>ow_some h.1 hv),h.2⟩
  ·rename_i hx
   exact ⟨_,zh3 (b:=true) ho (.inr rfl) hu hx (fun M w v hv=>by simp only [RV] at hv;exact ⟨_,_,_,hv,rfl⟩),h⟩
  ·exact h.elim
 ·exact h.elim
theorem zk8 {P:Program}{c:CSt}{o:Oper}{k:Eff→Prop} (h:opE P c o k):∃ E,OpSem P o E c.tm∧Sat c.st E∧k E:=by
 unfold opE at h
 split at h
 ·rename_i x ho
  rw [za5] at h
  exact ⟨_,os_move ho,zah _ _,h⟩
 ·rename_i x ho
  rw [za5] at h
  exact ⟨_,z0z ho,zah _ _,h⟩
 ·rename_i q x y ho
  rw [za5] at h
  split at h
  ·rename_i b hb
   rw [zir] at h
   have:=os_pick (P:=P) (ts:=c.tm) ho hb
   cases b
   ·simp only [za5] at h
    exact ⟨_,by simpa using this,zah _ _,h⟩
   ·simp only [za5] at h
    exact ⟨_,by simpa using this,zah _ _,h⟩
  ·exact h.elim
 ·rename_i op t x y t' ho
  split at h
  ·rename_i hn
   rw [za5] at h
   obtain ⟨r,h1,h2⟩:=zwh ho hn h
   exact ⟨_,h1,zah _ _,h2⟩
  ·rw [za5,za5] at h
   obtain ⟨r,h1,h2⟩:=zwo ho h
   exact ⟨_,h1,zah _ _,h2⟩
 ·rename_i op t x ho
  rw [za5] at h
  split at h
  ·rename_i u hu
   split at h
   ·rename_i r hr
    exact ⟨_,os_un ho hu hr,zah _ _,h⟩
   ·exact h.elim
  ·exact h.elim
 ·rename_i src dst x ho
  rw [za5] at h
  split at h
  ·rename_i kk n d kd hx hs hd
   exact ⟨_,zxa ho hs hd hx,zah _ _,h⟩
  ·rename_i kk n d kd hx hs hd
   exact ⟨_,zx0 ho hs hd hx,zah _ _,h⟩
  ·exact h.elim
 ·rename_i t x ho
  split at h
  ·rename_i d hd
   rw [za5,zx7] at h
   obtain ⟨h1,h⟩:=za8 h
   obtain ⟨n,hn,h⟩:=zgb h
   exact ⟨_,os_box (d:=n) ho rfl h1,⟨by simp,by simp,(by simp;exact hn),by simp⟩,h⟩
  ·exact h.elim
 ·rename_i t ho
  split at h
  ·rename_i d hd
   split at h
   ·rename_i inf hi
    split at h
    ·rename_i z hz
     rw [zmt] at h
     obtain ⟨n,hn,h⟩:=zgb h
     exact ⟨_,z2v (d:=n) ho hi hz,⟨by simp,by simp,(by simp;exact hn),by simp⟩,h⟩
    ·exact h.elim
   ·exact h.elim
  ·exact h.elim
 ·rename_i t parts ho
  split at h
  ·rename_i z place hz hp
   rw [zmt] at h
   obtain ⟨h1,h⟩:=za8 h
   rw [zkt] at h
   obtain ⟨ls,h2,h⟩:=zgj h
   exact ⟨_,z38 ho hz hp h1 h2,zah _ _,h⟩
  ·exact h.elim
 ·rename_i t len parts ho
  split at h
  ·rename_i e hu
   split at h
   ·rename_i inf hi
    split at h
    ·rename_i hpl
     have ep:parts=#[]:=by apply Array.ext';simpa using hpl
     subst ep
     exact ⟨_,zsx ho hu hi,zah _ _,h⟩
    ·split at h
     ·rename_i z hz
      obtain ⟨h1,h⟩:=za8 h
      rw [zmt] at h
      obtain ⟨h2,h⟩:=za8 h
      rw [zz2,zkt] at h
      obtain ⟨ls,h3,h⟩:=zgj h
      obtain ⟨h4,h⟩:=za8 h
      simp only [Bool.and_eq_true,Nat.beq_eq,Nat.ble_eq] at h1
      have h4:ls.length=_:=Nat.eq_of_beq_eq_true h4
      split at h
      ·rename_i hpl
       rw [zl3] at h
       exact ⟨_,zo1 ho hu hi hz h1.1.1 (by have:=h1.1.2;simp [Nat.blt] at this;omega) (by have:=h1.2;omega) h2 h3 h4 hpl,zah _ _,h⟩
      ·split at h
       ·obtain ⟨n,hn,h⟩:=zgb h
        exact ⟨_,zsp (d:=n) ho hu hi hz h1.1.1 (by have:=h1.1.2;simp [Nat.blt] at this;omega) (by have:=h1.2;omega) h2 h3 h4,⟨by simp,by simp,(by simp;exact hn),by simp⟩,h⟩
       ·rw [zl3] at h
        exact ⟨_,zmb ho hu hi hz h1.1.1 (by have:=h1.1.2;simp [Nat.blt] at this;omega) (by have:=h1.2;omega) h2 h3 h4,zah _ _,h⟩
     ·exact h.elim
   ·exact h.elim
  ·exact h.elim
 ·rename_i t x ho
  rw [za5] at h
  split at h
  ·rename_i key off hx
   split at h
   ·rename_i ls hk
    rw [zdq] at h
    obtain ⟨d,inf,p,h1,h2,h3,h⟩:=zep h
    exact ⟨_,zyd ho h1 h2 hx h3,⟨by simp;exact hk,by simp,by simp,by simp⟩,h⟩
   ·exact h.elim
  ·rename_i sfx hx
   obtain ⟨d,inf,p,h1,h2,h3,h⟩:=zep h
   exact ⟨_,zyk ho h1 h2 hx h3,zah _ _,h⟩
  ·rename_i sfx hx
   obtain ⟨d,inf,p,h1,h2,h3,h⟩:=zep h
   exact ⟨_,z03 ho h1 h2 hx h3,zah _ _,h⟩
  ·rename_i key i off hx
   split at h
   ·rename_i fz sz rows hk
    obtain ⟨row,hrow,h⟩:=h
    rw [zdq] at h
    obtain ⟨d,inf,p,h1,h2,h3,h⟩:=zep h
    exact ⟨_,zyo ho h1 h2 hx hrow h3,⟨by simp,by simp;exact hk,by simp,by simp⟩,h⟩
   ·exact h.elim
  ·exact h.elim
 ·rename_i t x y ho
  rw [za5,za5,zx7] at h
  split at h
  ·rename_i inf hi
   obtain ⟨h1,h⟩:=za8 h
   simp only [Bool.and_eq_true,Nat.beq_eq] at h1
   split at h
   ·rename_i key off hx
    split at h
    ·rename_i ls hk
     split at h
     ·rename_i c0 c1 c2 hn
      obtain ⟨h2,g⟩:=za8 h
      simp only [Bool.and_eq_true,Nat.beq_eq,Nat.ble_eq] at h2
      rw [zfi] at g
      have hy:=zxz hn
      rw [hy] at ho
      exact ⟨_,zy4 (v0:=.slice none 0 0) (ls:=[c0,c1,c2]) ho hi hx rfl h2.1.symm h2.2,⟨by simp;exact hk,by simp,by simp,by simp⟩,g⟩
     ·obtain ⟨h2,h⟩:=za8 h
      rw [zfi] at h
      exact ⟨_,zwa ho hi hx rfl h1.1 h1.2 (by simpa using h2),⟨by simp;exact hk,by simp,by simp,by simp⟩,h⟩
    ·exact h.elim
   ·rename_i key i off hx
    split at h
    ·rename_i sz rows hk
     obtain ⟨h2,row,hrow,h⟩:=za8 h
     simp only [Bool.and_eq_true,Nat.ble_eq] at h2
     rw [zfi] at h
     exact ⟨_,zvb ho hi hx rfl h1.1 h1.2 hrow h2.1 h2.2,⟨by simp,by simp;exact hk,by simp,by simp⟩,h⟩
    ·exact h.elim
   ·exact h.elim
  ·exact h.elim
 ·rename_i x ho
  rw [za5] at h
  obtain ⟨q,h1,h⟩:=zhh h
  exact ⟨_,zrt ho rfl h1,zah _ _,h⟩
 ·rename_i t x i ho
  rw [za5] at h
  obtain ⟨fs,f,inf,h1,h2,h3,h4,h⟩:=zv8 h
  obtain ⟨q,h5,h⟩:=zhh h
  exact ⟨_,zqm ho h1 h2 h3 h4 rfl h5,zah _ _,h⟩
 ·rename_i t x y ho
  rw [za5,za5] at h
  split at h
  ·rename_i kk n hy
   split at h
   ·rename_i len e hu
    split at h
    ·rename_i inf hi
     obtain ⟨⟨h1,h2⟩,h⟩:=h
     obtain ⟨q,h5,h⟩:=zhh h
     exact ⟨_,zrj ho hu hi rfl hy h1 h2 h5,zah _ _,h⟩
    ·exact h.elim
   ·rename_i e hu
    split at h
    ·rename_i inf hi
     split at h
     ·rename_i sz rows hx
      obtain ⟨h1,h2,row,h3,h⟩:=za8 h
      exact ⟨_,zws ho hu hi (Nat.eq_of_beq_eq_true h1) hx hy h2 h3,zah _ _,h⟩
     ·rename_i sz rows hx
      obtain ⟨h1,h2,row,h3,h⟩:=za8 h
      exact ⟨_,zwb ho hu hi (Nat.eq_of_beq_eq_true h1) hx hy h2 h3,zah _ _,h⟩
     ·rename_i key len hx
      obtain ⟨⟨h1,h2⟩,h⟩:=h
      exact ⟨_,zw1 ho hu hi hx hy h1 h2,zah _ _,h⟩
     ·rename_i key lo len hx
      split at h
      ·rename_i fz sz rows hk
       obtain ⟨h1,⟨h2,h3⟩,h⟩:=za8 h
       exact ⟨_,zvp ho hu hi (Nat.eq_of_beq_eq_true h1) hx hy h2 h3,⟨by simp,by simp;exact hk,by simp,by simp⟩,h⟩
      ·exact h.elim
     ·exact h.elim
    ·exact h.elim
   ·exact h.elim
  ·exact h.elim
 ·rename_i t x lo hi mx ho
  rw [za5] at h
  split at h
  ·rename_i e hu
   split at h
   ·rename_i inf hin
    split at h
    ·split at h
     ·rename_i sz rows hx
      obtain ⟨h1,h⟩:=za8 h
      obtain ⟨l,h2,h⟩:=zdb h
      obtain ⟨hh,h3,⟨h4,h5,h6⟩,h⟩:=zdb h
      exact ⟨_,zxe ho hu hin (Nat.eq_of_beq_eq_true h1) hx h2 h3 h4 h5 h6,zah _ _,h⟩
     ·rename_i key lo0 len hx
      split at h
      ·rename_i fz sz rows hk
       obtain ⟨h1,h⟩:=za8 h
       obtain ⟨l,h2,h⟩:=zdb h
       obtain ⟨hh,h3,⟨h4,h5,h6⟩,h⟩:=zdb h
       exact ⟨_,zxb ho hu hin (Nat.eq_of_beq_eq_true h1) hx h2 h3 h4 h5 h6,⟨by simp,by simp;exact hk,by simp,by simp⟩,h⟩
      ·exact h.elim
     ·rename_i hx
      obtain ⟨l,h2,h⟩:=zdb h
      obtain ⟨hh,h3,⟨rfl,rfl⟩,g⟩:=zdb h
      exact ⟨_,zw2 ho hu hin hx h2 h3,zah _ _,g⟩
     ·exact h.elim
    ·rename_i z
     split at h
     ·rename_i y
      rw [za5,za5] at h
      split at h
      ·rename_i hy hz
       split at h
       ·rename_i hx
        exact ⟨_,zis ho hu hin hx (.inl rfl) hy hz,zah _ _,h⟩
       ·rename_i hx
        exact ⟨_,zis ho hu hin hx (.inr (.inl ⟨_,_,rfl⟩)) hy hz,zah _ _,h⟩
       ·rename_i hx
        exact ⟨_,zis ho hu hin hx (.inr (.inr ⟨_,_,_,rfl⟩)) hy hz,zah _ _,h⟩
       ·exact h.elim
      ·exact h.elim
     ·exact h.elim
   ·exact h.elim
  ·rename_i hu
   split at h
   ·rename_i b hx
    obtain ⟨l,h2,h⟩:=zdb h
    obtain ⟨hh,h3,⟨h4,h5,h6⟩,h⟩:=zdb h
    exact ⟨_,zsy ho hu hx h2 h3 h4 h5 h6,zah _ _,h⟩
   ·exact h.elim
  ·rename_i n e hu
   split at h
   ·split at h
    ·rename_i key off hx
     split at h
     ·rename_i inf hin
      obtain ⟨h1,h⟩:=za8 h
      exact ⟨_,zxc ho hu hin hx (by simpa using h1),zah _ _,h⟩
     ·exact h.elim
    ·exact h.elim
   ·exact h.elim
  ·exact h.elim
 ·rename_i x i ho
  rw [za5] at h
  split at h
  ·rename_i ps hx
   split at h
   ·rename_i q hq
    exact ⟨_,zwc ho hx hq,zah _ _,h⟩
   ·exact h.elim
  ·exact h.elim
 ·rename_i t x y ho
  rw [za5,za5] at h
  split at h
  ·rename_i kk n hy
   split at h
   ·rename_i len e hu
    split at h
    ·rename_i inf hi
     split at h
     ·rename_i ps hx
      obtain ⟨⟨h1,h2⟩,h⟩:=h
      rw [zdq] at h
      obtain ⟨d,inf',p,h3,h4,h5,h⟩:=zep h
      rw [hi] at h4;cases h4
      exact ⟨_,z4w ho hu h3 hi hx hy h1 h2 h5,zah _ _,h⟩
     ·exact h.elim
    ·exact h.elim
   ·rename_i hu
    split at h
    ·rename_i s hx
     obtain ⟨h1,b,h2,h⟩:=h
     exact ⟨_,zr0 ho hu hx hy h1 h2,zah _ _,h⟩
    ·exact h.elim
   ·exact h.elim
  ·exact h.elim
 ·rename_i t x i ho
  rw [za5] at h
  split at h
  ·rename_i ps hx
   split at h
   ·rename_i fs hu
    split at h
    ·rename_i a ty off b c' d e hf
     rw [zdq] at h
     obtain ⟨d,inf',p,h3,h4,h5,h⟩:=zep h
     exact ⟨_,z3p ho hu (by simpa using hf) h3 h4 hx h5,zah _ _,h⟩
    ·exact h.elim
   ·exact h.elim
  ·exact h.elim
 ·rename_i f fst caps ho
  split at h
  ·rename_i hf
   have ef:fst=#[]:=by apply Array.ext';simpa using hf
   subst ef
   rw [zky] at h
   exact ⟨_,zsq ho,zah _ _,h⟩
  ·rename_i x xs hf
   split at h
   ·rename_i hc
    have ec:caps=#[]:=by apply Array.ext';simpa using hc
    have ef:fst=(x :: xs).toArray:=by apply Array.ext';simpa using hf
    subst ec ef
    rw [zky] at h
    exact ⟨_,zqb ho,zah _ _,by simpa using h⟩
   ·exact h.elim
 ·rename_i f args tys ho
  rw [za5] at h
  split at h
  ·rename_i g caps hf
   rw [zky,zcp] at h
   exact zlb ho (by simp [callee,hf]) h
  ·rename_i g caps hf
   rw [zky,zcp] at h
   exact zlb ho (by simp [callee,hf]) h
  ·exact h.elim
 ·rename_i b args tys ho
  exact zma ho h
 ·rename_i t x y ho
  split at h
  ·rename_i d hd
   rw [za5,za5] at h
   split at h
   ·rename_i kl n kc m hp hq
    split at h
    ·rename_i e ht
     split at h
     ·rename_i inf hi
      split at h
      ·rename_i z hz
       split at h
       ·rename_i v hzs
        obtain ⟨h1,⟨⟨rfl,h2,h3,h4⟩,h5⟩,g⟩:=za8 h
        exact ⟨_,os_make (d:=d * 16) ho ht hi hz hzs (by simpa using h1) hp hq h2 h3 h4,⟨by simp,by simp,by simp,by simp;exact h5⟩,g⟩
       ·exact h.elim
      ·exact h.elim
     ·exact h.elim
    ·exact h.elim
   ·exact h.elim
  ·exact h.elim
 ·exact h.elim
end Go.Pv
