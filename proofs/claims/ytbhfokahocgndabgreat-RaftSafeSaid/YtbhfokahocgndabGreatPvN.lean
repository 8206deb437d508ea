import Derived.Test.YtbhfokahocgndabGreatPvL
import Derived.KernelRfl
import GoSem.ClaimChange
import Derived.DataReads
import Derived.ChangeBears
import Derived.Carry
import Derived.ChangeArms
import Derived.OpenShut
import Derived.Below
import Derived.ChangeOld
import Derived.ShutString
import Derived.WideShapes
import Derived.Test.YtbhfokahocgndabGreatProg
/-
  What serves at the ends: answers, arguments that came in, the law's own form. Generic over the program.
-/
set_option linter.unusedSimpArgs false
set_option linter.unusedVariables false
namespace Go.Pv
theorem zqx {p:Prop} [Decidable p] {X Y:Prop} (h1:p→Y) (h2:¬ p→X):@Bool.rec (fun _=>Prop) X Y (decide p) :=
 zco (fun h=>h1 (of_decide_eq_true h)) (fun h=>h2 (of_decide_eq_false h))
theorem zxk {a b:Int}{X Y:Prop} (h1:a=b→Y) (h2:¬ a=b→X):@Bool.rec (fun _=>Prop) X Y (a == b) :=
 zco (fun h=>h1 (by simpa using h)) (fun h=>h2 (by simpa using h))
theorem zzp {a b:Int}{X Y:Prop} (h1:¬ a=b→Y) (h2:a=b→X):@Bool.rec (fun _=>Prop) X Y (a != b) :=
 zco (fun h=>h1 (by simpa using h)) (fun h=>h2 (by simpa using h))
theorem zzu {b:Bool}{X Y:Prop} (h1:b=false→Y) (h2:b=true→X):@Bool.rec (fun _=>Prop) X Y (!b) :=
 zco (fun h=>h1 (by simpa using h)) (fun h=>h2 (by simpa using h))
theorem zns {b:Bool}{X Y:Prop} (h:b=true) (hy:Y):@Bool.rec (fun _=>Prop) X Y b:=by subst h;exact hy
theorem znw {b:Bool}{X Y:Prop} (h:b=false) (hx:X):@Bool.rec (fun _=>Prop) X Y b:=by subst h;exact hx
theorem z2o {a b:Int}{X Y:Prop} (h:a=b) (hy:Y):@Bool.rec (fun _=>Prop) X Y (a == b):=zns (by simpa using h) hy
theorem z3x {a b:Int}{X Y:Prop} (h:a=b) (hx:X):@Bool.rec (fun _=>Prop) X Y (a != b):=znw (by simpa using h) hx
structure TestOf (b:Bool) (p q:Prop):Prop where
 yes:b=true ↔ p
 no:b=false ↔ q
theorem zlr {p:Prop} [Decidable p]:TestOf (decide p) p (¬ p):=⟨by simp,by simp⟩
theorem zln {a b:Int}:TestOf (a == b) (a=b) (¬ a=b):=⟨by simp,by simp⟩
theorem zkj {a b:Int}:TestOf (a != b) (¬ a=b) (a=b):=⟨by simp,by simp⟩
theorem zlk {b:Bool}:TestOf (!b) (b=false) (b=true):=⟨by simp,by simp⟩
theorem z2t {a b:List UInt8}:TestOf (a == b) (a=b) (¬ a=b):=⟨by simp,by simp⟩
theorem zly {b:Bool}:TestOf b (b=true) (b=false):=⟨Iff.rfl,Iff.rfl⟩
theorem tSp {b:Bool}{p q X Y:Prop} (h1:p→Y) (h2:q→X) (t:TestOf b p q:=by first | with_reducible exact zlr | with_reducible exact zln | with_reducible exact zkj | with_reducible exact zlk | with_reducible exact z2t | with_reducible exact zly):@Bool.rec (fun _=>Prop) X Y b:=zco (fun h=>h1 (t.yes.1 h)) (fun h=>h2 (t.no.1 h))
theorem tYes {b:Bool}{p q X Y:Prop} (hy:Y) (t:TestOf b p q:=by first | with_reducible exact zlr | with_reducible exact zln | with_reducible exact zkj | with_reducible exact zlk | with_reducible exact zly) (h:p:=by first | assumption | omega):@Bool.rec (fun _=>Prop) X Y b:=zns (t.yes.2 h) hy
theorem tNo {b:Bool}{p q X Y:Prop} (hx:X) (t:TestOf b p q:=by first | with_reducible exact zlr | with_reducible exact zln | with_reducible exact zkj | with_reducible exact zlk | with_reducible exact zly) (h:q:=by first | assumption | omega):@Bool.rec (fun _=>Prop) X Y b:=znw (t.no.2 h) hx
theorem tYesA {b:Bool}{p q X Y:Prop} (hy:Y) (t:TestOf b p q:=by first | with_reducible exact zlr | with_reducible exact zln | with_reducible exact zkj | with_reducible exact zlk | with_reducible exact zly) (h:p:=by assumption):@Bool.rec (fun _=>Prop) X Y b:=zns (t.yes.2 h) hy
theorem tNoA {b:Bool}{p q X Y:Prop} (hx:X) (t:TestOf b p q:=by first | with_reducible exact zlr | with_reducible exact zln | with_reducible exact zkj | with_reducible exact zlk | with_reducible exact zly) (h:q:=by assumption):@Bool.rec (fun _=>Prop) X Y b:=znw (t.no.2 h) hx
theorem pwS {P:Program}{code:Code}{c:CSt}{Q:Exit→CSt→Prop} (h:pwp P code c Q) (hm:P.follows .mixedOrders=true:=by exact mixed) (hok:zb0 code=true:=by kernel_rfl):Tri P code Q c:=zb2 hm code c Q hok h
theorem sBody {P : Program} {f : Nat} {fn : Func} {code : Code} {args : List PV} {r : PV} {os : List (Nat × List (List PV))} (hf : P.funcs[f]? = some fn)
    (h:pwp P code ⟨args++List.replicate (fn.ntmps - args.length) .bad,[],[]⟩ (exitQ P fn.results.toList r os)) (hb:fn.body=some code:=by exact rfl) (hm:P.follows .mixedOrders=true:=by exact mixed) (hname:(fn.name == "runtime.NumGoroutine")=false:=by kernel_rfl) (hok:zb0 code=true:=by kernel_rfl):Ctr P f args r os:=zb4 hm hf hb hname hok h
theorem zhm {P:Program}{f:Nat}{qs:List PV}{r:PV}{os:List (Nat×List (List PV))}{K:PV→List (Nat×List (List PV))→Prop} (h:Ctr P f qs r os) (k:K r os):∃ r os,Ctr P f qs r os∧K r os:=⟨r,os,h,k⟩
theorem z3v (c:CSt):RnOk c [] [] []:=⟨by simp,by simp [lkA],by simp [lkA],by simp [lkA]⟩
mutual
theorem zq2:∀ p:PV,plain p=true→WkV [] [] [] p p
 | .sc v,_=>by simp [WkV]
 | .ag ps,h=>by simp only [WkV];exact ⟨ps,rfl,zgm ps (by simpa [plain] using h)⟩
 | .tu ps,h=>by simp only [WkV];exact ⟨ps,rfl,zgm ps (by simpa [plain] using h)⟩
 | .cl f ps,h=>by simp only [WkV];exact ⟨ps,rfl,zgm ps (by simpa [plain] using h)⟩
 | .cm f ps,h=>by simp only [WkV];exact ⟨ps,rfl,zgm ps (by simpa [plain] using h)⟩
 | .sl sz rows,_=>by simp [WkV]
 | .nl,_=>by simp [WkV]
 | .ow ..,h=>by simp [plain] at h
 | .pt ..,h=>by simp [plain] at h
 | .bs ..,h=>by simp [plain] at h
 | .eo ..,h=>by simp [plain] at h
 | .ep s,_=>by simp [WkV]
 | .ub φ,_=>by simp [WkV]
 | .nn kd,_=>by simp [WkV]
 | .ls ..,h=>by simp [plain] at h
 | .lp ..,h=>by simp [plain] at h
 | .fs ..,h=>by simp [plain] at h
 | .bad,_=>by simp [WkV]
theorem zgm:∀ ps:List PV,zec ps=true→WkL [] [] [] ps ps
 | [],_=>by simp [WkL]
 | p :: ps,h=>by
  simp only [zec,Bool.and_eq_true] at h
  simp only [WkL]
  exact ⟨p,ps,rfl,zq2 p h.1,zgm ps h.2⟩
end
theorem zaa {c:CSt}{p r:PV} (hp:plain p=true) (e:p=r):ExitOk c p r []:=by
 subst e
 exact ⟨.inl ⟨[],[],by simpa [osL] using z3v c,zq2 p hp⟩⟩
theorem zg6 {c:CSt} (sz:Nat):ExitOk c .nl (.ow 0 0 0) [(sz,[])]:=⟨.inr ⟨rfl,sz,rfl,rfl⟩⟩
def Typed (P:Program):Nat→TypeId→List PV→Prop
 | 0,_,_=>False
 | fuel+1,t,ls =>
  match P.underlying t with
  | some .bool=>∃ b,ls=[.sc (.bool b)]
  | some (.int k)=>∃ n,ls=[.sc (.int k n)]∧(Lit.int k n).wf=true
  | some (.float k)=>∃ b,ls=[.sc (.float k b)]∧(Lit.float k b).wf=true
  | some .string=>∃ s:ByteArray,ls=[.sc (.string s)]∧s.size≤maxLen
  | some (.slice e)=>P.cellsOf e=0∨∃ rows,ls=[.sl (P.cellsOf e) rows]∧rows.length≤maxLen∧∀ r ∈ rows,Typed P fuel e r
  | some (.struct fs)=>∃ parts:List (List PV),ls=parts.flatten∧parts.length=fs.size∧∀ (i:Nat) (f:Field) (p:List PV),fs[i]?=some f→parts[i]?=some p→Typed P fuel f.type p
  | some (.array n e)=>∃ parts:List (List PV),ls=parts.flatten∧parts.length=n∧∀ p ∈ parts,Typed P fuel e p
  | _=>True
theorem RVL.flat {M:Mem}{w:World}:∀ {parts:List (List PV)}{css:List (List Value)},parts.length=css.length→(∀ (i:Nat) (p:List PV) (c:List Value),parts[i]?=some p→css[i]?=some c→RVL M w p c)→RVL M w parts.flatten css.flatten
 | [],[],_,_=>by simp [RVL]
 | p :: ps,c :: cs,hl,h=>by
  simp only [List.flatten_cons]
  exact (h 0 p c rfl rfl).append (RVL.flat (by simpa using hl) fun i p' c' hp hc=>h (i+1) p' c' (by simpa using hp) (by simpa using hc))
 | [],_ :: _,hl,_=>by simp at hl
 | _ :: _,[],hl,_=>by simp at hl
theorem zhi (cs:List Value):∀ (ns:List Nat) (at_:Nat),at_+ns.sum=cs.length→((List.range ns.length).map (fun j=>(cs.drop (at_+(ns.take j).sum)).take (ns.getD j 0))).flatten=cs.drop at_
 | [],at_,h=>by
  simp at h
  simp [h]
 | n :: ns,at_,h=>by
  simp only [List.sum_cons] at h
  rw [List.length_cons,List.range_succ_eq_map,List.map_cons,List.flatten_cons,List.map_map]
  simp only [List.take_zero,List.sum_nil,Nat.add_zero,List.getD_cons_zero]
  have ih:=zhi cs ns (at_+n) (by omega)
  have e:(List.map ((fun j=>List.take ((n :: ns).getD j 0) (List.drop (at_+(List.take j (n :: ns)).sum) cs)) ∘ Nat.succ) (List.range ns.length))=(List.range ns.length).map (fun j=>(cs.drop (at_+n+(ns.take j).sum)).take (ns.getD j 0)):=by
   apply List.map_congr_left
   intro j _
   simp [List.take_succ_cons,Nat.add_assoc]
  rw [e,ih]
  rw [← List.drop_drop]
  exact List.take_append_drop n (List.drop at_ cs)
theorem zkm {β:Type} [Inhabited β] {n:Nat}{R:Nat→β→Prop} (h:∀ i,i < n→∃ y,R i y):∃ ys:List β,ys.length=n∧∀ (i:Nat) (y:β),ys[i]?=some y→i < n∧R i y:=by
 induction n with
 | zero=>exact ⟨[],rfl,by simp⟩
 | succ n ih =>
  obtain ⟨ys,hl,hy⟩:=ih fun i hi=>h i (by omega)
  obtain ⟨y,hr⟩:=h n (by omega)
  refine ⟨ys++[y],by simp [hl],?_⟩
  intro i z hz
  rw [List.getElem?_append] at hz
  by_cases hi:i < ys.length
  ·rw [if_pos hi] at hz
   obtain ⟨h1,h2⟩:=hy i z hz
   exact ⟨by omega,h2⟩
  ·rw [if_neg hi] at hz
   have:i - ys.length=0:=by
    cases hk:i - ys.length with
    | zero=>rfl
    | succ m=>rw [hk] at hz;simp at hz
   rw [this] at hz
   simp at hz
   subst hz
   have:i=n:=by omega
   subst this
   exact ⟨by omega,hr⟩
theorem zsc {M : Mem} {w : World} {b off sz : Nat} {P : List PV → Prop} : ∀ (n s : Nat), (∀ i, i < n → ∃ ls cs, cs.length = sz ∧ Cells w b (off + (s + i) * sz) cs ∧ RVL M w ls cs ∧ P ls) →
    ∃ rows cs,rows.length=n∧cs.length=n * sz∧Cells w b (off+s * sz) cs∧RVR M w sz rows cs∧∀ r ∈ rows,P r
 | 0,s,_=>⟨[],[],rfl,by simp,by intro j u h;simp at h,by simp [RVR],by simp⟩
 | n+1,s,h=>by
  obtain ⟨ls,c1,e1,e2,e3,e4⟩:=h 0 (by omega)
  obtain ⟨rows,c2,f1,f2,f3,f4,f5⟩:=zsc n (s+1) (fun i hi=>by have:=h (i+1) (by omega);rwa [show s+(i+1)=s+1+i by omega] at this)
  refine ⟨ls :: rows,c1++c2,by simp [f1],by simp [e1,f2,Nat.add_mul];omega,?_,?_,?_⟩
  ·intro j u hj
   rw [List.getElem?_append] at hj
   by_cases hlt:j < c1.length
   ·rw [if_pos hlt] at hj
    have:=e2 j u hj
    simpa using this
   ·rw [if_neg hlt] at hj
    have:=f3 _ u hj
    rw [show off+(s+1) * sz+(j - c1.length)=off+s * sz+j by rw [Nat.add_mul];omega] at this
    exact this
  ·simp only [RVR]
   exact ⟨c1,c2,rfl,by rw [← e3.length,e1],e3,f4⟩
  ·intro r hr
   rcases List.mem_cons.1 hr with rfl | hr
   ·exact e4
   ·exact f5 r hr
theorem z4s {H : Type} {enc : TypeId × Value → H} {P : Program} {w : World} {spare : Nat → Bool} {held : Bool} (hl : laidOutB P = true) : ∀ (fuel : Nat) (t : TypeId) (cs : List Value) (x : DataW H × List MemPlace), t < P.types.size → DataW.trod enc P w 0 spare held fuel t cs = some x →
    ∃ ls,RVL (zbp (· < w.heap.size)) w ls cs∧Typed P fuel t ls:=by
 intro fuel
 induction fuel with
 | zero=>intro t cs x _ h;simp [DataW.trod] at h
 | succ fuel ih =>
  intro t cs x ht h
  have one:∀ c:Value,RVL (zbp (· < w.heap.size)) w [.sc c] [c]:=fun c=>by simp [RVL,RV]
  have all:∀ l:List Value,RVL (zbp (· < w.heap.size)) w (l.map .sc) l:=by
   intro l
   induction l with
   | nil=>simp [RVL]
   | cons c l ih=>simp only [List.map_cons,RVL];exact ⟨c,l,rfl,by simp [RV],ih⟩
  cases hu:P.underlying t with
  | none=>exact ⟨_,all cs,by simp only [Typed,hu]⟩
  | some d =>
   cases d
   case bool =>
    obtain ⟨b,rfl,_⟩:=DataW.trod_bool hu h
    exact ⟨_,one _,by simp only [Typed,hu];exact ⟨_,rfl⟩⟩
   case int k =>
    obtain ⟨n,rfl,_,hw⟩:=DataW.trod_int hu h
    exact ⟨_,one _,by simp only [Typed,hu];exact ⟨_,rfl,hw⟩⟩
   case float k =>
    have:∃ b,cs=[.float k b]∧(Lit.float k b).wf=true:=by
     unfold DataW.trod at h
     rw [hu] at h
     split at h<;>simp_all
    obtain ⟨b,rfl,hw⟩:=this
    exact ⟨_,one _,by simp only [Typed,hu];exact ⟨_,rfl,hw⟩⟩
   case string =>
    obtain ⟨b,rfl,_,hw⟩:=DataW.trod_string hu h
    exact ⟨_,one _,by simp only [Typed,hu];exact ⟨_,rfl,hw⟩⟩
   case slice e =>
    by_cases hz:P.cellsOf e=0
    ·exact ⟨_,all cs,by simp only [Typed,hu];exact .inl hz⟩
    rcases DataW.trod_slice hu h with ⟨rfl,_⟩ | ⟨a,len,cap,elems,rest,n,hfn,rfl,_,_,hlc,hcm,hel,hget,_⟩
    ·refine ⟨[.sl (P.cellsOf e) []],?_,?_⟩
     ·simp only [RVL,RV]
      exact ⟨_,[],rfl,⟨none,0,0,rfl,rfl,Nat.le_refl _,by simp⟩,rfl⟩
     ·simp only [Typed,hu]
      exact .inr ⟨[],rfl,by simp,by simp⟩
    ·obtain rfl:fuel=n:=by omega
     have hlt:=kid_slice hl ht hu
     have each:∀ i,i < len→∃ c ls,w.cells? 0 (a.add (i * P.cellsOf e)) (P.cellsOf e)=some c∧RVL (zbp (· < w.heap.size)) w ls c∧Typed P fuel e ls:=by
      intro i hi
      have hg:=hget i hi
      have:∃ y,elems[i]?=some y:=⟨elems[i]'(by omega),by simp⟩
      obtain ⟨y,hy⟩:=this
      cases hx:w.cells? 0 (a.add (i * P.cellsOf e)) (P.cellsOf e) with
      | none=>rw [hx,hy] at hg;cases hg
      | some c =>
       rw [hx,hy] at hg
       simp only [Option.bind_some] at hg
       obtain ⟨ls,h1,h2⟩:=ih e c y hlt hg
       exact ⟨c,ls,rfl,h1,h2⟩
     by_cases h0:len=0
     ·subst h0
      refine ⟨[.sl (P.cellsOf e) []],?_,?_⟩
      ·simp only [RVL,RV]
       exact ⟨_,[],rfl,⟨_,0,cap,rfl,rfl,Nat.zero_le _,by simp⟩,rfl⟩
      ·simp only [Typed,hu]
       exact .inr ⟨[],rfl,by simp,by simp⟩
     ·obtain ⟨c0,ls0,hc0,_,_⟩:=each 0 (by omega)
      have hcell0:∃ u,w.cell? a=some u:=by
       obtain ⟨_,hlen0,hget0⟩:=World.cells?_some hc0
       have:=hget0 0 (by omega)
       simp only [Nat.zero_mul,Addr.add_zero'] at this
       have hlt0:0 < c0.length:=by omega
       rw [List.getElem?_eq_getElem hlt0] at this
       exact ⟨_,this⟩
      obtain ⟨u,hu0⟩:=hcell0
      have hblk:=World.block_lt_of_cell? w a hu0
      obtain ⟨b,off,spot⟩:=a
      have hspot:spot=none:=by
       cases spot with
       | none=>rfl
       | some q =>
        simp only [World.cell?] at hu0
        split at hu0<;>simp at hu0
      subst hspot
      obtain ⟨rows,cs,r1,r2,r3,r4,r5⟩:=zsc (M:=(zbp (· < w.heap.size)).cl) (w:=w) (b:=b) (off:=off) (sz:=P.cellsOf e) (P:=Typed P fuel e) len 0 (by
       intro i hi
       obtain ⟨c,ls,e1,e2,e3⟩:=each i hi
       obtain ⟨_,hlen,hget1⟩:=World.cells?_some e1
       refine ⟨ls,c,hlen,?_,e2,e3⟩
       intro j v hj
       have hjl:j < c.length:=(List.getElem?_eq_some_iff.1 hj).1
       have:=hget1 j (by omega)
       rw [hj,Addr.add_lit,Addr.add_lit] at this
       simpa using this)
      refine ⟨[.sl (P.cellsOf e) rows],?_,?_⟩
      ·simp only [RVL,RV]
       refine ⟨_,[],rfl,⟨_,len,cap,rfl,r1.symm,hlc,.inr ⟨b,off,cs,rfl,hblk,by simpa using r3,r4⟩⟩,rfl⟩
      ·simp only [Typed,hu]
       exact .inr ⟨rows,rfl,by rw [r1];omega,r5⟩
   case struct fs =>
    obtain ⟨xs,n,hfn,_,hlen,hxl,hget⟩:=DataW.trod_struct hu h
    obtain rfl:fuel=n:=by omega
    obtain ⟨k1,k2,k3⟩:=kid_struct hl ht hu
    have each:∀ i,i < fs.size→∃ ls,∀ f,fs.toList[i]?=some f→RVL (zbp (· < w.heap.size)) w ls ((cs.drop f.offset).take (P.cellsOf f.type))∧Typed P fuel f.type ls:=by
     intro i hi
     have hf:fs.toList[i]?=some fs[i]:=by simp [hi]
     have hg:=hget i fs[i] (by simp [hi])
     have:∃ y,xs[i]?=some y:=⟨xs[i]'(by omega),by simp⟩
     obtain ⟨y,hy⟩:=this
     rw [hy] at hg
     obtain ⟨ls,h1,h2⟩:=ih _ _ y (k1 _ (List.mem_of_getElem? hf)) hg
     refine ⟨ls,fun f hf'=>?_⟩
     rw [hf] at hf';cases hf'
     exact ⟨h1,h2⟩
    obtain ⟨parts,p1,p2⟩:=zkm each
    have hns:(fs.toList.map fun f=>P.cellsOf f.type).length=fs.size:=by simp
    have hfl:=zhi cs (fs.toList.map fun f=>P.cellsOf f.type) 0 (by rw [Nat.zero_add,← k2,hlen])
    rw [hns] at hfl
    simp only [Nat.zero_add,List.drop_zero] at hfl
    refine ⟨parts.flatten,?_,?_⟩
    ·rw [← hfl]
     refine RVL.flat (by simp [p1]) ?_
     intro i p c hp hc
     obtain ⟨hi,hR⟩:=p2 i p hp
     have hf:fs.toList[i]?=some fs[i]:=by simp [hi]
     obtain ⟨h1,_⟩:=hR _ hf
     have hoff:=k3 i _ hf
     rw [List.getElem?_map,List.getElem?_range hi] at hc
     simp only [Option.map_some,Option.some.injEq] at hc
     rw [← hc]
     have e1:((fs.toList.map fun f=>P.cellsOf f.type).take i).sum=fs[i].offset:=by rw [hoff,List.map_take]
     have e2:(fs.toList.map fun f=>P.cellsOf f.type).getD i 0=P.cellsOf fs[i].type:=by
      rw [List.getD_eq_getElem?_getD,List.getElem?_map,hf];rfl
     rw [e1,e2]
     exact h1
    ·simp only [Typed,hu]
     refine ⟨parts,rfl,p1,?_⟩
     intro i f p hf hp
     obtain ⟨_,hR⟩:=p2 i p hp
     exact (hR f (by simpa using hf)).2
   case array n e =>
    obtain ⟨xs,m,hfn,_,hlen,hxl,hget⟩:=DataW.trod_array hu h
    obtain rfl:fuel=m:=by omega
    obtain ⟨k1,k2⟩:=kid_array hl ht hu
    have each:∀ i,i < n→∃ ls,RVL (zbp (· < w.heap.size)) w ls ((cs.drop (i * P.cellsOf e)).take (P.cellsOf e))∧Typed P fuel e ls:=by
     intro i hi
     have hg:=hget i hi
     have:∃ y,xs[i]?=some y:=⟨xs[i]'(by omega),by simp⟩
     obtain ⟨y,hy⟩:=this
     rw [hy] at hg
     exact ih _ _ y k1 hg
    obtain ⟨parts,p1,p2⟩:=zkm each
    have hsum:∀ m,(List.replicate m (P.cellsOf e)).sum=m * P.cellsOf e:=by
     intro m;simp
    have hfl:=zhi cs (List.replicate n (P.cellsOf e)) 0 (by rw [Nat.zero_add,hsum,hlen,k2])
    simp only [List.length_replicate,Nat.zero_add,List.drop_zero] at hfl
    refine ⟨parts.flatten,?_,?_⟩
    ·rw [← hfl]
     refine RVL.flat (by simp [p1]) ?_
     intro i p c hp hc
     obtain ⟨hi,hR,_⟩:=p2 i p hp
     rw [List.getElem?_map,List.getElem?_range hi] at hc
     simp only [Option.map_some,Option.some.injEq] at hc
     rw [← hc]
     have e1:((List.replicate n (P.cellsOf e)).take i).sum=i * P.cellsOf e:=by
      rw [List.take_replicate,hsum,Nat.min_eq_left (by omega)]
     have e2:(List.replicate n (P.cellsOf e)).getD i 0=P.cellsOf e:=by
      rw [List.getD_eq_getElem?_getD,List.getElem?_replicate,if_pos hi];rfl
     rw [e1,e2]
     exact hR
    ·simp only [Typed,hu]
     refine ⟨parts,rfl,p1,?_⟩
     intro p hp
     obtain ⟨i,hi⟩:=List.getElem?_of_mem hp
     exact (p2 i p hi).2.2
   all_goals exact ⟨_,all cs,by simp only [Typed,hu]⟩
theorem ctr_calls {P : Program} {f : Nat} {fn : Func} {args : List PV} {r : Value} {w : World} {vs : List Value} (hf : P.funcs[f]? = some fn) (hb : fn.body.isSome = true) (hname : (fn.name == "runtime.NumGoroutine") = false) (h : Ctr P f args (.sc r) []) (hv : RVL (zbp (· < w.heap.size)) w args vs) :
    Calls P f vs.toArray w fun e w'=>e=.returned r∧RowKit.Below w.heap.size w w':=by
 have hcall:(callFunc f vs.toArray).run P w=.ok (.enter f vs.toArray) w:=by
  obtain ⟨code,hc⟩:=Option.isSome_iff_exists.1 hb
  simp [callFunc,hf,hc];simpa using hname
 rcases h.run w _ vs (fun _ h=>h) hv with ⟨_,h2⟩ | ⟨v,w',h1,_⟩
 ·refine h2.mono ?_
  rintro e w' ⟨v,M',rfl,hrv,hrel⟩
  simp only [RV] at hrv
  subst hrv
  exact ⟨rfl,hrel.os,hrel.tape,hrel.out,hrel.size,fun k hk=>hrel.kept k hk (fun x=>x)⟩
 ·rw [hcall] at h1;cases h1
def Ty (P:Program) (t:TypeId) (ls:List PV):Prop:=∃ fuel,Typed P fuel t ls
def zi9 (P:Program):List TypeId→List (List PV)→Prop
 | [],[]=>True
 | t :: ts,p :: ps=>Ty P t p∧zi9 P ts ps
 | _,_=>False
theorem ty_int {P:Program}{t:TypeId}{k:IntKind}{ls:List PV} (hu:P.underlying t=some (.int k)) (h:Ty P t ls):∃ n,ls=[.sc (.int k n)]∧(Lit.int k n).wf=true:=by
 obtain ⟨fuel,h⟩:=h
 cases fuel with
 | zero=>exact h.elim
 | succ n=>simpa only [Typed,hu] using h
theorem z3g {P:Program}{t:TypeId}{k:FloatKind}{ls:List PV} (hu:P.underlying t=some (.float k)) (h:Ty P t ls):∃ n,ls=[.sc (.float k n)]∧(Lit.float k n).wf=true:=by
 obtain ⟨fuel,h⟩:=h
 cases fuel with
 | zero=>exact h.elim
 | succ n=>simpa only [Typed,hu] using h
theorem zx9 {P:Program}{t:TypeId}{ls:List PV} (hu:P.underlying t=some .string) (h:Ty P t ls):∃ s:ByteArray,ls=[.sc (.string s)]∧s.size≤maxLen:=by
 obtain ⟨fuel,h⟩:=h
 cases fuel with
 | zero=>exact h.elim
 | succ n=>simpa only [Typed,hu] using h
theorem z12 {P:Program}{t e:TypeId}{ls:List PV} (sz:Nat) (hu:P.underlying t=some (.slice e)) (hsz:P.cellsOf e=sz) (h0:sz ≠ 0) (h:Ty P t ls):∃ rows,ls=[.sl sz rows]∧rows.length≤maxLen∧∀ r ∈ rows,Ty P e r:=by
 obtain ⟨fuel,h⟩:=h
 cases fuel with
 | zero=>exact h.elim
 | succ n =>
  simp only [Typed,hu,hsz] at h
  rcases h with h | ⟨rows,h1,h2,h3⟩
  ·exact absurd h h0
  ·exact ⟨rows,h1,h2,fun r hr=>⟨n,h3 r hr⟩⟩
theorem zm4 {P:Program}{fuel:Nat}:∀ (fs:List Field) (parts:List (List PV)),parts.length=fs.length→(∀ (i:Nat) (f:Field) (p:List PV),fs[i]?=some f→parts[i]?=some p→Typed P fuel f.type p)→zi9 P (fs.map (·.type)) parts
 | [],[],_,_=>trivial
 | f :: fs,p :: ps,hl,h=>⟨⟨fuel,h 0 f p rfl rfl⟩,zm4 fs ps (by simpa using hl) fun i f' p' h1 h2=>h (i+1) f' p' (by simpa using h1) (by simpa using h2)⟩
 | [],_ :: _,hl,_=>by simp at hl
 | _ :: _,[],hl,_=>by simp at hl
theorem zf4 {P:Program}{t:TypeId}{ls:List PV} (ts:List TypeId) (hs:P.underlying t=some (.struct (P.fieldsOf t))) (hts:(P.fieldsOf t).toList.map (·.type)=ts) (h:Ty P t ls):∃ parts,ls=parts.flatten∧zi9 P ts parts:=by
 obtain ⟨fuel,h⟩:=h
 cases fuel with
 | zero=>exact h.elim
 | succ n =>
  simp only [Typed,hs] at h
  obtain ⟨parts,h1,h2,h3⟩:=h
  refine ⟨parts,h1,?_⟩
  rw [← hts]
  exact zm4 _ _ (by simpa using h2) fun i f p hf hp=>h3 i f p (by simpa using hf) hp
theorem zev {P:Program}{ps:List (List PV)} (h:zi9 P [] ps):ps=[]:=by
 cases ps with
 | nil=>rfl
 | cons p ps=>exact h.elim
theorem zan {P:Program}{t:TypeId}{ts:List TypeId}{ps:List (List PV)} (h:zi9 P (t :: ts) ps):∃ p qs,ps=p :: qs∧Ty P t p∧zi9 P ts qs:=by
 cases ps with
 | nil=>exact h.elim
 | cons p ps=>exact ⟨p,ps,rfl,h.1,h.2⟩
def ArgOf (P:Program) (t:TypeId) (p:PV):Prop :=
 match P.underlying t with
 | some (.struct _) | some (.array _ _)=>∃ ls,p=.ag ls∧Ty P t ls
 | _=>Ty P t [p]
def ztz (P:Program) (t:TypeId):Bool:=match P.underlying t with | some (.struct _) | some (.array _ _)=>true | _=>false
theorem zya {P:Program}{t:TypeId}{p:PV} (hu:ztz P t=true) (h:ArgOf P t p):∃ ls,p=.ag ls∧Ty P t ls:=by
 unfold ztz at hu
 unfold ArgOf at h
 split at hu
 ·rename_i e;simpa only [e] using h
 ·rename_i e;simpa only [e] using h
 ·cases hu
theorem zxs {P:Program}{t:TypeId}{p:PV} (hu:ztz P t=false) (h:ArgOf P t p):Ty P t [p]:=by
 unfold ztz at hu
 unfold ArgOf at h
 split at hu
 ·cases hu
 ·cases hu
 ·rename_i h1 h2
  split at h
  ·rename_i e;exact absurd e (h1 _)
  ·rename_i e;exact absurd e (h2 _ _)
  ·exact h
def zmi (P:Program):List TypeId→List PV→Prop
 | [],[]=>True
 | t :: ts,p :: ps=>ArgOf P t p∧zmi P ts ps
 | _,_=>False
theorem zvc {P:Program}{ps:List PV} (h:zmi P [] ps):ps=[]:=by
 cases ps with
 | nil=>rfl
 | cons p ps=>exact h.elim
theorem zlm {P:Program}{t:TypeId}{ts:List TypeId}{ps:List PV} (h:zmi P (t :: ts) ps):∃ p qs,ps=p :: qs∧ArgOf P t p∧zmi P ts qs:=by
 cases ps with
 | nil=>exact h.elim
 | cons p ps=>exact ⟨p,ps,rfl,h.1,h.2⟩
def argT (P:Program) (t:TypeId):Bool :=
 decide (t < P.types.size) && match P.underlying t with
 | some .bool | some (.int _) | some (.float _) | some .string | some (.slice _) | some (.struct _) | some (.array _ _)=>true
 | _=>false
theorem zwe {P:Program}{w:World}{r:Reach}{b0:Nat}{t:TypeId}{k:FloatKind}{v:Value} (ht:P.underlying t=some (.float k)) (h:Value.okWide P w r b0 t v):∃ b,v=.float k b:=by
 simp only [Value.okWide,ht,Cell.okWide] at h
 cases v<;>simp_all [Cell.ok]
theorem arg_of {H : Type} {enc : TypeId × Value → H} {P : Program} {w : World} {spare : Nat → Bool} {held : Bool} {base : Nat} {t : TypeId} {v : Value} {d : DataW H} {ps : List MemPlace} (hl : laidOutB P = true) (ht : argT P t = true)
    (hok:Value.okWide P w .any base t v) (hk:DataW.Trod enc P w 0 spare held t v d ps):∃ p,RV (zbp (· < w.heap.size)) w p v∧ArgOf P t p:=by
 simp only [argT,Bool.and_eq_true,decide_eq_true_eq] at ht
 obtain ⟨hlt,ht⟩:=ht
 obtain ⟨fuel,hf⟩:=hk
 obtain ⟨ls,h1,h2⟩:=z4s hl fuel t _ _ hlt hf
 have one:v.cells.toList=[v]→∃ p,RV (zbp (· < w.heap.size)) w p v∧Ty P t [p]:=by
  intro e
  rw [e] at h1
  cases ls with
  | nil=>simp [RVL] at h1
  | cons p qs =>
   simp only [RVL] at h1
   obtain ⟨c,cs,e1,e2,e3⟩:=h1
   cases e1
   cases qs with
   | nil=>exact ⟨p,e2,fuel,h2⟩
   | cons _ _=>simp [RVL] at e3
 unfold ArgOf
 split at ht
 ·rename_i hu
  obtain ⟨b,rfl⟩:=WideShapes.okWide_bool hu hok
  simp only [hu];exact one rfl
 ·rename_i hu
  obtain ⟨b,rfl⟩:=WideShapes.okWide_int hu hok
  simp only [hu];exact one rfl
 ·rename_i hu
  obtain ⟨b,rfl⟩:=zwe hu hok
  simp only [hu];exact one rfl
 ·rename_i hu
  obtain ⟨b,rfl⟩:=WideShapes.okWide_string hu hok
  simp only [hu];exact one rfl
 ·rename_i hu
  obtain ⟨a,l,c,rfl⟩:=WideShapes.okWide_slice hu hok
  simp only [hu];exact one rfl
 ·rename_i hu
  obtain ⟨cs,rfl,_⟩:=WideShapes.okWide_struct hu hok
  simp only [hu]
  refine ⟨.ag ls,?_,ls,rfl,fuel,h2⟩
  simp only [RV]
  exact ⟨cs,rfl,by simpa [Value.cells] using h1⟩
 ·rename_i n e hu
  have hok':∃ cs,v=.agg cs:=by
   unfold Value.okWide at hok
   simp only [hu] at hok
   obtain ⟨cs,rfl,_⟩:=hok
   exact ⟨cs,rfl⟩
  obtain ⟨cs,rfl⟩:=hok'
  simp only [hu]
  refine ⟨.ag ls,?_,ls,rfl,fuel,h2⟩
  simp only [RV]
  exact ⟨cs,rfl,by simpa [Value.cells] using h1⟩
 ·cases ht
theorem args_of {H : Type} {enc : TypeId × Value → H} {P : Program} {w : World} {spare : Nat → Bool} {held : Bool} {base : Nat} (hl : laidOutB P = true) : ∀ (ts : List TypeId) (vs : List Value) (ds : List (DataW H)) (ps : List MemPlace), ts.all (argT P) = true →
    DataW.TrodAll enc P w 0 spare held ts vs ds ps→(∀ (j:Nat) t v,ts[j]?=some t→vs[j]?=some v→Value.okWide P w .any base t v) →
    ∃ qs,RVL (zbp (· < w.heap.size)) w qs vs∧zmi P ts qs
 | [],[],ds,ps,_,_,_=>⟨[],by simp [RVL],trivial⟩
 | t :: ts,v :: vs,d :: ds,ps,ha,h,hok=>by
  simp only [List.all_cons,Bool.and_eq_true] at ha
  obtain ⟨p,q,h1,h2,_⟩:=h
  obtain ⟨x,e1,e2⟩:=arg_of hl ha.1 (hok 0 t v rfl rfl) h1
  obtain ⟨xs,f1,f2⟩:=args_of hl ts vs ds q ha.2 h2 fun j t' v' a b=>hok (j+1) t' v' (by simpa using a) (by simpa using b)
  exact ⟨x :: xs,by simp only [RVL];exact ⟨v,vs,rfl,e1,f1⟩,e2,f2⟩
 | [],_ :: _,_,_,_,h,_=>by simp [DataW.TrodAll] at h
 | _ :: _,[],_,_,_,h,_=>by simp [DataW.TrodAll] at h
 | _ :: _,_ :: _,[],_,_,h,_=>by simp [DataW.TrodAll] at h
def readT (P:Program) (t:TypeId):Bool:=decide (t < P.types.size) && P.readableRec t
theorem trodAll_below {H : Type} {enc : TypeId × Value → H} {P : Program} {W W' : World} (hl : laidOutB P = true) (hb : RowKit.Below W.heap.size W W') : ∀ (ts : List TypeId) (vs : List Value) (ds : List (DataW H)) (ps : List MemPlace), ts.all (readT P) = true →
    DataW.TrodAll enc P W 0 (fun _=>true) true ts vs ds ps→DataW.TrodAll enc P W' 0 (fun b=>decide (b < W.heap.size)) true ts vs ds ps
 | [],[],[],ps,_,h=>h
 | t :: ts,v :: vs,d :: ds,ps,ha,h=>by
  simp only [List.all_cons,Bool.and_eq_true,readT,decide_eq_true_eq] at ha
  obtain ⟨p,q,h1,h2,e⟩:=h
  refine ⟨p,q,?_,trodAll_below hl hb ts vs ds q (by simpa [readT] using ha.2) h2,e⟩
  refine RowKit.Below.trod hl ha.1.2 ha.1.1 h1 hb ?_
  obtain ⟨m,hm⟩:=h1
  exact DataW.trod_lt m _ _ _ hm
 | [],_ :: _,_,_,_,h=>by simp [DataW.TrodAll] at h
 | [],[],_ :: _,_,_,h=>by simp [DataW.TrodAll] at h
 | _ :: _,[],_,_,_,h=>by simp [DataW.TrodAll] at h
 | _ :: _,_ :: _,[],_,_,h=>by simp [DataW.TrodAll] at h
def dstsC:Code→List Nat
 | .region _ ops _=>ops.toList.filterMap (·.dst)
 | .seq a b=>dstsC a++dstsC b
 | .cond _ a b=>dstsC a++dstsC b
 | .block _ b=>dstsC b
 | .loop b=>dstsC b
 | _=>[]
noncomputable def havK (ds:List Nat):List PV→(List PV→Prop)→Prop :=
 @List.rec Nat (fun _=>List PV→(List PV→Prop)→Prop) (fun tm k=>k tm) (fun d _ R tm k=>stK tm d .bad fun tm=>R tm k) ds
def hav:List Nat→List PV→List PV
 | [],tm=>tm
 | d :: ds,tm=>hav ds (tm.set d .bad)
theorem z1v:∀ (ds:List Nat) (tm:List PV) (k:List PV→Prop),havK ds tm k=k (hav ds tm)
 | [],tm,k=>rfl
 | d :: ds,tm,k=>by
  show stK tm d .bad (fun tm=>havK ds tm k)=_
  rw [zje,z1v ds];rfl
noncomputable def setVK (vs:List (Nat×PV)):List PV→(List PV→Prop)→Prop :=
 @List.rec (Nat×PV) (fun _=>List PV→(List PV→Prop)→Prop) (fun tm k=>k tm) (fun v _ R tm k=>match v with | (i,p)=>stK tm i p fun tm=>R tm k) vs
def setV:List (Nat×PV)→List PV→List PV
 | [],tm=>tm
 | v :: vs,tm=>setV vs (tm.set v.1 v.2)
theorem zuk:∀ (vs:List (Nat×PV)) (tm:List PV) (k:List PV→Prop),setVK vs tm k=k (setV vs tm)
 | [],tm,k=>rfl
 | v :: vs,tm,k=>by
  show stK tm v.1 v.2 (fun tm=>setVK vs tm k)=_
  rw [zje,zuk vs];rfl
noncomputable def headK (body:Code) (tm:List PV) (vs:List (Nat×PV)) (k:List PV→Prop):Prop:=havK (dstsC body) tm fun tm=>setVK vs tm k
def headT (body:Code) (tm:List PV) (vs:List (Nat×PV)):List PV:=setV vs (hav (dstsC body) tm)
theorem zc6 (body:Code) (tm:List PV) (vs:List (Nat×PV)) (k:List PV→Prop):headK body tm vs k=k (headT body tm vs):=by
 unfold headK headT;rw [z1v,zuk]
noncomputable def wkLK (kb:List Nat) (rn:List (Nat×Nat)) (fz:List (Nat×Bool×Nat×List (List PV))) (qs:List PV):List PV→Prop :=
 @List.rec PV (fun _=>List PV→Prop) (fun ps=>ps=[]) (fun q _ R ps=>match ps with
  | []=>False
  | p :: ps=>match q with
   | .bad=>R ps
   | q=>WkV kb rn fz p q∧R ps) qs
theorem zd0 (kb:List Nat) (rn:List (Nat×Nat)) (fz:List (Nat×Bool×Nat×List (List PV))):∀ (qs ps:List PV),wkLK kb rn fz qs ps→WkL kb rn fz ps qs
 | [],ps,h=>by
  have h:ps=[]:=h
  simpa [WkL] using h
 | q :: qs,ps,h=>by
  cases ps with
  | nil=>exact h.elim
  | cons p ps =>
   simp only [WkL]
   cases q
   case bad=>exact ⟨p,ps,rfl,by simp [WkV],zd0 kb rn fz qs ps h⟩
   all_goals exact ⟨p,ps,rfl,h.1,zd0 kb rn fz qs ps h.2⟩
noncomputable def wkBK (kb:List Nat) (rn:List (Nat×Nat)) (fz:List (Nat×Bool×Nat×List (List PV))) (bx:List (Nat×List PV)) (bx':List (Nat×List PV)):Prop :=
 @List.rec (Nat×List PV) (fun _=>Prop) True (fun b _ R=>match lkA bx b.1 with
  | some ls=>wkLK kb rn fz b.2 ls∧R
  | none=>False) bx'
theorem zmh {kb:List Nat}{rn:List (Nat×Nat)}{fz:List (Nat×Bool×Nat×List (List PV))}{bx:List (Nat×List PV)}:∀ {bx':List (Nat×List PV)},wkBK kb rn fz bx bx'→∀ k ls',lkA bx' k=some ls'→∃ ls,lkA bx k=some ls∧WkL kb rn fz ls ls'
 | [],_,k,ls',hk=>by simp [lkA] at hk
 | (j,m) :: bx',h,k,ls',hk=>by
  have h:(match lkA bx j with | some ls=>wkLK kb rn fz m ls∧wkBK kb rn fz bx bx' | none=>False):=h
  split at h
  ·rename_i ls hl
   simp only [lkA] at hk
   by_cases e:j=k
   ·subst e
    simp only [Nat.beq_refl,cond_true,Option.some.injEq] at hk
    subst hk
    exact ⟨ls,hl,zd0 _ _ _ _ _ h.1⟩
   ·rw [zbj e] at hk
    exact zmh h.2 k ls' hk
  ·exact h.elim
noncomputable def wkOK (rn:List (Nat×Nat)) (ob:List (Nat×Option (Bool×Nat×List (List PV)))) (fzk:List Nat) (ob':List (Nat×Option (Bool×Nat×List (List PV)))):Prop :=
 @List.rec (Nat×Option (Bool×Nat×List (List PV))) (fun _=>Prop) True (fun o _ R=>match o with
  | (_,none)=>R
  | (k,some q)=>match lkA rn k with
   | some k0=>match lkA ob k0 with
    | some (some q0)=>q0=q∧okK (!fzk.any fun x=>Nat.beq x k0) R
    | _=>False
   | none=>False) ob'
def rnB (rn:List (Nat×Nat)) (ks:List Nat):Bool:=(rn.all fun p=>ks.any fun k=>Nat.beq k p.1) && rn.all fun p=>rn.all fun q=>!Nat.beq p.2 q.2 || Nat.beq p.1 q.1
theorem zg7 {rn:List (Nat×Nat)}{ob:List (Nat×Option (Bool×Nat×List (List PV)))}{fzk:List Nat}:∀ {ob':List (Nat×Option (Bool×Nat×List (List PV)))},wkOK rn ob fzk ob'→∀ k o,lkA ob' k=some o→o=none∨∃ k0 q,lkA rn k=some k0∧o=some q∧lkA ob k0=some (some q)∧∀ x ∈ fzk,x ≠ k0
 | [],_,k,o,hk=>by simp [lkA] at hk
 | (j,none) :: ob',h,k,o,hk=>by
  have h:wkOK rn ob fzk ob':=h
  simp only [lkA] at hk
  by_cases e:j=k
  ·subst e
   simp only [Nat.beq_refl,cond_true,Option.some.injEq] at hk
   exact .inl hk.symm
  ·rw [zbj e] at hk
   exact zg7 h k o hk
 | (j,some q) :: ob',h0,k,o,hk=>by
  have h:(match lkA rn j with
   | some k0=>match lkA ob k0 with
    | some (some q0)=>q0=q∧okK (!fzk.any fun x=>Nat.beq x k0) (wkOK rn ob fzk ob')
    | _=>False
   | none=>False):=h0
  clear h0
  split at h
  ·rename_i k0 hr
   split at h
   ·rename_i q0 hl
    obtain ⟨rfl,h1⟩:=h
    obtain ⟨hf,h⟩:=za8 h1
    simp only [lkA] at hk
    by_cases e:j=k
    ·subst e
     simp only [Nat.beq_refl,cond_true,Option.some.injEq] at hk
     subst hk
     refine .inr ⟨k0,q0,hr,rfl,hl,?_⟩
     intro x hx e
     subst e
     have hf:(fzk.any fun y=>Nat.beq y x)=false:=by simpa using hf
     rw [List.any_eq_false] at hf
     exact hf x hx (by simp)
    ·rw [zbj e] at hk
     exact zg7 h k o hk
   ·exact h.elim
  ·exact h.elim
theorem zhs {α:Type}:∀ {l:List (Nat×α)}{k:Nat}{v:α},lkA l k=some v→(k,v) ∈ l
 | [],k,v,h=>by simp [lkA] at h
 | (j,u) :: r,k,v,h=>by
  simp only [lkA] at h
  by_cases e:j=k
  ·subst e;simp at h;simp [h]
  ·rw [zbj e] at h;exact List.mem_cons_of_mem _ (zhs h)
theorem zjd {α:Type}:∀ {l:List (Nat×α)}{k:Nat},k ∈ l.map (·.1)→∃ v,lkA l k=some v
 | [],k,h=>by simp at h
 | (j,u) :: r,k,h=>by
  simp only [lkA]
  by_cases e:j=k
  ·subst e;exact ⟨u,by simp⟩
  ·rw [zbj e]
   simp only [List.map_cons,List.mem_cons] at h
   rcases h with h | h
   ·exact absurd h.symm e
   ·exact zjd h
noncomputable def wkK (rn:List (Nat×Nat)) (fz:List (Nat×Bool×Nat×List (List PV))) (c:CSt) (tm:List PV) (bx:List (Nat×List PV)) (ob:List (Nat×Option (Bool×Nat×List (List PV)))):Prop :=
 ((rnB rn (ob.map (·.1)) && pinOk c.bx c.ob (bx.map (·.1)) rn)=true∧∀ q ∈ fz,lkA c.ob q.1=some (some q.2))∧wkOK rn c.ob (fz.map (·.1)) ob∧wkBK (bx.map (·.1)) rn fz c.bx bx∧wkLK (bx.map (·.1)) rn fz tm c.tm
theorem zc4 {rn:List (Nat×Nat)}{fz:List (Nat×Bool×Nat×List (List PV))}{c:CSt}{tm:List PV}{bx:List (Nat×List PV)}{ob:List (Nat×Option (Bool×Nat×List (List PV)))} (h:wkK rn fz c tm bx ob):Wk c ⟨tm,bx,ob⟩:=by
 obtain ⟨⟨h1,h2⟩,h3,h4,h5⟩:=h
 rw [Bool.and_eq_true] at h1
 obtain ⟨h1,hpin⟩:=h1
 refine wk_of (c':=⟨tm,bx,ob⟩) fz rn ⟨h2,?_,?_,?_⟩ (zmh h4) (zd0 _ _ _ _ _ h5) hpin
 ·intro k o hk
  rcases zg7 h3 k o hk with e0 | ⟨k0,q,a,b,d,e⟩
  ·exact .inl e0
  ·exact .inr ⟨k0,q,a,b,d,fun x hx=>e x.1 (List.mem_map.2 ⟨x,hx,rfl⟩)⟩
 ·intro k k0 hk
  simp only [rnB,Bool.and_eq_true,List.all_eq_true] at h1
  have:=h1.1 _ (zhs hk)
  simp only [List.any_eq_true] at this
  obtain ⟨j,hj,e⟩:=this
  have e:j=k:=by simpa using e
  subst e
  exact zjd hj
 ·intro k k' k0 hk hk'
  simp only [rnB,Bool.and_eq_true,List.all_eq_true] at h1
  have:=h1.2 _ (zhs hk) _ (zhs hk')
  simpa using this
theorem zqh {P : Program} (hm : P.follows .mixedOrders = true) {body : Code} {Q : Exit → CSt → Prop} {c : CSt} (hok : zb0 body = true) {β : Type} (I : β → Prop) (S : β → CSt) (μ : β → Nat) (b0 : β) (h0 : I b0) (hw : Wk c (S b0))
    (N:β→CSt→Prop) (hN:∀ b c',N b c'→∃ b',I b'∧μ b' < μ b∧Wk c' (S b')) (round:∀ b,I b→pwp P body (S b) (loopQ Q (N b))):Tri P (.loop body) Q c:=by
 refine ⟨?_⟩
 intro w0 X S0 M a w hr
 obtain ⟨M0,hr0⟩:=hw w0 X S0 M a w hr
 intro fb k cs
 have key:∀ n b,μ b=n→I b→∀ M a w,Rel w0 X S0 M (S b).st a w→∃ e a' w',(∃ c' M',Rel w0 X S0 M' c'.st a' w'∧Q e c')∧Arrives P (lone (fb.at a (.code body :: .inLoop body :: k)) cs w) fb k cs e a' w':=by
  intro n
  induction n using Nat.strongRecOn with
  | _ n ih =>
   intro b hb hI M a w hr
   obtain ⟨e,a₁,w₁,⟨c1,M1,hr1,hq⟩,harr⟩:=(zb2 hm body (S b) _ hok (round b hI)).run w0 X S0 M a w hr fb (.inLoop body :: k) cs
   cases e with
   | normal =>
    obtain ⟨b',hI',hlt,hwk⟩:=hN b c1 hq
    obtain ⟨M2,hr2⟩:=hwk w0 X S0 M1 a₁ w₁ hr1
    obtain ⟨e₂,a₂,w₂,hq₂,harr₂⟩:=ih (μ b') (hb ▸ hlt) b' rfl hI' M2 a₁ w₁ hr2
    exact ⟨e₂,a₂,w₂,hq₂,.of_steps (Steps.trans harr (.one step_inLoop)) harr₂⟩
   | exit id=>exact ⟨_,a₁,w₁,⟨c1,M1,hr1,hq⟩,.pass (x:=.inLoop body) rfl (fun _ _=>.inl (by simp)) harr⟩
   | goto l=>exact ⟨_,a₁,w₁,⟨c1,M1,hr1,hq⟩,.pass (x:=.inLoop body) rfl (fun _ _=>.inl (by simp)) harr⟩
   | ret=>exact ⟨_,a₁,w₁,⟨c1,M1,hr1,hq⟩,.pass (x:=.inLoop body) rfl (fun _ _=>.inl (by simp)) harr⟩
   | panic ch=>exact ⟨_,a₁,w₁,⟨c1,M1,hr1,hq⟩,.pass (x:=.inLoop body) rfl (fun _ _=>.inl (by simp)) harr⟩
   | outgrown=>exact ⟨_,a₁,w₁,⟨c1,M1,hr1,hq⟩,.pass (x:=.inLoop body) rfl (fun _ _=>.inl (by simp)) harr⟩
 obtain ⟨e,a',w',hq,harr⟩:=key _ b0 rfl h0 M0 a w hr0
 exact ⟨e,a',w',hq,.of_steps (.one step_loop) harr⟩
theorem zzg {P : Program} (hm : P.follows .mixedOrders = true) {body : Code} {Q : Exit → CSt → Prop} {c : CSt} (hok : zb0 body = true) {β : Type} (I : β → Prop) (V : β → List (Nat × PV)) (W : β → List (Nat × List PV)) (O : β → List (Nat × Option (Bool × Nat × List (List PV)))) (rn : List (Nat × Nat)) (μ : β → Nat) (b0 : β) (h0 : I b0)
    (hw:Wk c ⟨headT body c.tm (V b0),W b0,O b0⟩)
    (round:∀ b,I b→headK body c.tm (V b) fun tm=>pwp P body ⟨tm,W b,O b⟩ (loopQ Q fun c'=>∃ b',(I b'∧μ b' < μ b)∧headK body c.tm (V b') fun tm=>wkK rn [] c' tm (W b') (O b'))):Tri P (.loop body) Q c:=by
 refine zqh hm hok I (fun b=>⟨headT body c.tm (V b),W b,O b⟩) μ b0 h0 hw (fun b c'=>∃ b',(I b'∧μ b' < μ b)∧headK body c.tm (V b') fun tm=>wkK rn [] c' tm (W b') (O b')) ?_ ?_
 ·rintro b c' ⟨b',⟨h1,h2⟩,h3⟩
  rw [zc6] at h3
  exact ⟨b',h1,h2,zc4 h3⟩
 ·intro b hb
  have h:=round b hb
  rw [zc6] at h
  exact h
theorem zbe {P : Program} (hm : P.follows .mixedOrders = true) {body : Code} {Q : Exit → CSt → Prop} {tm : List PV} {bx : List (Nat × List PV)} {ob : List (Nat × Option (Bool × Nat × List (List PV)))} (hok : zb0 body = true) {β : Type} (I : β → Prop) (V : β → List (Nat × PV)) (rn : List (Nat × Nat)) (μ : β → Nat) (b0 : β) (h0 : I b0)
    (hw:headK body tm (V b0) fun tm'=>wkK rn [] ⟨tm,bx,ob⟩ tm' bx ob)
    (round:∀ b,I b→headK body tm (V b) fun tm'=>pwp P body ⟨tm',bx,ob⟩ (loopQ Q fun c'=>∃ b',(I b'∧μ b' < μ b)∧headK body tm (V b') fun tm'=>wkK rn [] c' tm' bx ob)):Tri P (.loop body) Q ⟨tm,bx,ob⟩:=by
 refine zzg hm hok I V (fun _=>bx) (fun _=>ob) rn μ b0 h0 ?_ round
 rw [zc6] at hw
 exact zc4 hw
theorem zh4 {P : Program} (hm : P.follows .mixedOrders = true) {body : Code} {Q : Exit → CSt → Prop} {tm : List PV} {bx : List (Nat × List PV)} {ob : List (Nat × Option (Bool × Nat × List (List PV)))} (hok : zb0 body = true) {β : Type} (I : β → Prop) (V : β → List (Nat × PV)) (W : β → List (Nat × List PV)) (rn : List (Nat × Nat)) (μ : β → Nat) (b0 : β) (h0 : I b0)
    (hw:headK body tm (V b0) fun tm'=>wkK rn [] ⟨tm,bx,ob⟩ tm' (W b0) ob)
    (round:∀ b,I b→headK body tm (V b) fun tm'=>pwp P body ⟨tm',W b,ob⟩ (loopQ Q fun c'=>∃ b',(I b'∧μ b' < μ b)∧headK body tm (V b') fun tm'=>wkK rn [] c' tm' (W b') ob)):Tri P (.loop body) Q ⟨tm,bx,ob⟩:=by
 refine zzg hm hok I V W (fun _=>ob) rn μ b0 h0 ?_ round
 rw [zc6] at hw
 exact zc4 hw
theorem z3l {P : Program} (hm : P.follows .mixedOrders = true) {body : Code} {Q : Exit → CSt → Prop} {tm : List PV} {bx : List (Nat × List PV)} {ob : List (Nat × Option (Bool × Nat × List (List PV)))} (hok : zb0 body = true) {β : Type} (I : β → Prop) (V : β → List (Nat × PV)) (W : β → List (Nat × List PV)) (O : β → List (Nat × Option (Bool × Nat × List (List PV)))) (rn0 : List (Nat × Nat)) (μ : β → Nat) (b0 : β) (h0 : I b0)
    (hw:headK body tm (V b0) fun tm'=>wkK rn0 [] ⟨tm,bx,ob⟩ tm' (W b0) (O b0))
    (round:∀ b,I b→headK body tm (V b) fun tm'=>pwp P body ⟨tm',W b,O b⟩ (loopQ Q fun c'=>∃ b' rn,(I b'∧μ b' < μ b)∧headK body tm (V b') fun tm'=>wkK rn [] c' tm' (W b') (O b'))):Tri P (.loop body) Q ⟨tm,bx,ob⟩:=by
 refine zqh hm hok I (fun b=>⟨headT body tm (V b),W b,O b⟩) μ b0 h0 ?_ (fun b c'=>∃ b' rn,(I b'∧μ b' < μ b)∧headK body tm (V b') fun tm'=>wkK rn [] c' tm' (W b') (O b')) ?_ ?_
 ·rw [zc6] at hw
  exact zc4 hw
 ·rintro b c' ⟨b',rn,⟨h1,h2⟩,h3⟩
  rw [zc6] at h3
  exact ⟨b',h1,h2,zc4 h3⟩
 ·intro b hb
  have h:=round b hb
  rw [zc6] at h
  exact h
theorem zha {kb:List Nat}{rn:List (Nat×Nat)}{fz:List (Nat×Bool×Nat×List (List PV))}{v u:Value} (h:v=u):WkV kb rn fz (.sc v) (.sc u):=by subst h;simp [WkV]
mutual
theorem zae {kb:List Nat}{rn:List (Nat×Nat)}{fz:List (Nat×Bool×Nat×List (List PV))}:∀ p:PV,plain p=true→WkV kb rn fz p p
 | .sc v,_=>by simp [WkV]
 | .ag ps,h=>by simp only [WkV];exact ⟨ps,rfl,zim ps (by simpa [plain] using h)⟩
 | .tu ps,h=>by simp only [WkV];exact ⟨ps,rfl,zim ps (by simpa [plain] using h)⟩
 | .cl f ps,h=>by simp only [WkV];exact ⟨ps,rfl,zim ps (by simpa [plain] using h)⟩
 | .cm f ps,h=>by simp only [WkV];exact ⟨ps,rfl,zim ps (by simpa [plain] using h)⟩
 | .sl sz rows,_=>by simp [WkV]
 | .nl,_=>by simp [WkV]
 | .ow ..,h=>by simp [plain] at h
 | .pt ..,h=>by simp [plain] at h
 | .bs ..,h=>by simp [plain] at h
 | .eo ..,h=>by simp [plain] at h
 | .ep s,_=>by simp [WkV]
 | .ub φ,_=>by simp [WkV]
 | .nn kd,_=>by simp [WkV]
 | .ls ..,h=>by simp [plain] at h
 | .lp ..,h=>by simp [plain] at h
 | .fs ..,h=>by simp [plain] at h
 | .bad,_=>by simp [WkV]
theorem zim {kb:List Nat}{rn:List (Nat×Nat)}{fz:List (Nat×Bool×Nat×List (List PV))}:∀ ps:List PV,zec ps=true→WkL kb rn fz ps ps
 | [],_=>by simp [WkL]
 | p :: ps,h=>by
  simp only [zec,Bool.and_eq_true] at h
  simp only [WkL]
  exact ⟨p,ps,rfl,zae p h.1,zim ps h.2⟩
end
theorem zqq {kb:List Nat}{rn:List (Nat×Nat)}{fz:List (Nat×Bool×Nat×List (List PV))}{k off off':Nat} (h:kb.contains k=true) (e:off=off'):WkV kb rn fz (.pt k off) (.pt k off'):=by
 subst e;simp only [WkV];exact ⟨by simpa using h,trivial⟩
theorem zas {kb:List Nat}{rn:List (Nat×Nat)}{fz:List (Nat×Bool×Nat×List (List PV))}{k k0 lo len lo' len':Nat} (h:lkA rn k=some k0) (e1:lo=lo') (e2:len=len'):WkV kb rn fz (.ow k0 lo len) (.ow k lo' len'):=by
 subst e1;subst e2;simp only [WkV];exact ⟨k0,h,rfl⟩
theorem tFor {P : Program} {body : Code} {Q : Exit → CSt → Prop} {tm : List PV} {bx : List (Nat × List PV)} {ob : List (Nat × Option (Bool × Nat × List (List PV)))} {β : Type} (I : β → Prop) (V : β → List (Nat × PV)) (W : β → List (Nat × List PV)) (O : β → List (Nat × Option (Bool × Nat × List (List PV)))) (rn0 : List (Nat × Nat)) (μ : β → Nat) (b0 : β) (h0 : I b0)
    (hw:headK body tm (V b0) fun tm'=>wkK rn0 [] ⟨tm,bx,ob⟩ tm' (W b0) (O b0))
    (round:∀ b,I b→headK body tm (V b) fun tm'=>pwp P body ⟨tm',W b,O b⟩ (loopQ Q fun c'=>∃ b' rn,(I b'∧μ b' < μ b)∧headK body tm (V b') fun tm'=>wkK rn [] c' tm' (W b') (O b'))) (hm:P.follows .mixedOrders=true:=by exact mixed) (hok:zb0 body=true:=by kernel_rfl):Tri P (.loop body) Q ⟨tm,bx,ob⟩:=z3l hm hok I V W O rn0 μ b0 h0 hw round
end Go.Pv
namespace Go.Proofs
open Go.Pv
set_option maxRecDepth 100000
abbrev iv (n:Int):PV:=.sc (.int .i64 n)
abbrev bv (b:Bool):PV:=.sc (.bool b)
abbrev sv (s:ByteArray):PV:=.sc (.string s)
abbrev encB (n:Int):List PV:=[.sc (.int .u8 n)]
def isI (n:Int):Prop:=-9223372036854775808≤n∧n < 9223372036854775808
def isB (n:Int):Prop:=0≤n∧n < 256
theorem mixed:Tryz.prog.follows .mixedOrders=true:=by kernel_rfl
theorem laidOut:laidOutB Tryz.prog=true:=by kernel_rfl
theorem isI_of {n:Int} (h:(Lit.int .i64 n).wf=true):isI n:=by
 simp [Lit.wf,IntKind.min,IntKind.max,IntKind.signed,IntKind.bits] at h
 unfold isI;omega
theorem isF_of {n:Nat} (h:(Lit.float .f64 n).wf=true):n < 18446744073709551616:=by
 simp [Lit.wf] at h
 omega
theorem zu1 {α:Type}{f:α→List PV}{ok:α→Prop}:∀ {rows:List (List PV)},(∀ r ∈ rows,∃ x,r=f x∧ok x)→∃ xs:List α,rows=xs.map f∧∀ x ∈ xs,ok x
 | [],_=>⟨[],rfl,by simp⟩
 | r :: rows,h=>by
  obtain ⟨x,rfl,hx⟩:=h r (by simp)
  obtain ⟨xs,rfl,hxs⟩:=zu1 (rows:=rows) fun q hq=>h q (by simp [hq])
  exact ⟨x :: xs,rfl,by intro y hy;rcases List.mem_cons.1 hy with rfl | hy;exact hx;exact hxs y hy⟩
theorem ty_i {ls:List PV} (h:Ty Tryz.prog 3 ls):∃ n:Int,ls=[iv n]∧isI n:=by
 obtain ⟨n,e,w⟩:=ty_int (k:=.i64) (by kernel_rfl) h
 exact ⟨n,e,isI_of w⟩
theorem ty_f {ls:List PV} (h:Ty Tryz.prog 25 ls):∃ n:Nat,ls=[.sc (.float .f64 n)]∧n < 18446744073709551616:=by
 obtain ⟨n,e,w⟩:=z3g (k:=.f64) (by kernel_rfl) h
 exact ⟨n,e,isF_of w⟩
theorem ty_s {ls:List PV} (h:Ty Tryz.prog 9 ls):∃ s:ByteArray,ls=[sv s]∧s.size≤maxLen:=zx9 (by kernel_rfl) h
structure Conf where
 full:Int
 wit:Int
 learn:Int
 lwit:Int
deriving DecidableEq
abbrev Conf.enc (x:Conf):List PV:=[iv x.full,iv x.wit,iv x.learn,iv x.lwit]
def Conf.ok (x:Conf):Prop:=isI x.full∧isI x.wit∧isI x.learn∧isI x.lwit
theorem z01 {ls:List PV} (h:Ty Tryz.prog 23 ls):∃ x:Conf,ls=x.enc∧x.ok:=by
 obtain ⟨ps,rfl,h0⟩:=zf4 [3,3,3,3] (by kernel_rfl) (by kernel_rfl) h
 obtain ⟨p0,ps,rfl,h1,h0⟩:=zan h0
 obtain ⟨p1,ps,rfl,h2,h0⟩:=zan h0
 obtain ⟨p2,ps,rfl,h3,h0⟩:=zan h0
 obtain ⟨p3,ps,rfl,h4,h0⟩:=zan h0
 obtain rfl:=zev h0
 obtain ⟨x0,rfl,w0⟩:=ty_i h1
 obtain ⟨x1,rfl,w1⟩:=ty_i h2
 obtain ⟨x2,rfl,w2⟩:=ty_i h3
 obtain ⟨x3,rfl,w3⟩:=ty_i h4
 exact ⟨⟨x0,x1,x2,x3⟩,rfl,w0,w1,w2,w3⟩
theorem z4t {p:PV} (h:ArgOf Tryz.prog 23 p):∃ x:Conf,p=.ag x.enc∧x.ok:=by
 obtain ⟨ls,rfl,h1⟩:=zya (by kernel_rfl) h
 obtain ⟨x,rfl,w⟩:=z01 h1
 exact ⟨x,rfl,w⟩
structure VVal where
 kind:Int
 num:Nat
 text:ByteArray
deriving DecidableEq
abbrev VVal.enc (x:VVal):List PV:=[iv x.kind,.sc (.float .f64 x.num),sv x.text]
def VVal.ok (x:VVal):Prop:=isI x.kind∧x.num < 18446744073709551616∧x.text.size≤maxLen
theorem zyq {ls:List PV} (h:Ty Tryz.prog 27 ls):∃ x:VVal,ls=x.enc∧x.ok:=by
 obtain ⟨ps,rfl,h0⟩:=zf4 [3,25,9] (by kernel_rfl) (by kernel_rfl) h
 obtain ⟨p0,ps,rfl,h1,h0⟩:=zan h0
 obtain ⟨p1,ps,rfl,h2,h0⟩:=zan h0
 obtain ⟨p2,ps,rfl,h3,h0⟩:=zan h0
 obtain rfl:=zev h0
 obtain ⟨x0,rfl,w0⟩:=ty_i h1
 obtain ⟨x1,rfl,w1⟩:=ty_f h2
 obtain ⟨x2,rfl,w2⟩:=ty_s h3
 exact ⟨⟨x0,x1,x2⟩,rfl,w0,w1,w2⟩
structure VCmd where
 kind:Int
 key:ByteArray
 old:VVal
 val:VVal
deriving DecidableEq
abbrev VCmd.enc (x:VCmd):List PV:=[iv x.kind,sv x.key,iv x.old.kind,.sc (.float .f64 x.old.num),sv x.old.text,iv x.val.kind,.sc (.float .f64 x.val.num),sv x.val.text]
def VCmd.ok (x:VCmd):Prop:=isI x.kind∧x.key.size≤maxLen∧x.old.ok∧x.val.ok
theorem ty_VCmd {ls:List PV} (h:Ty Tryz.prog 29 ls):∃ x:VCmd,ls=x.enc∧x.ok:=by
 obtain ⟨ps,rfl,h0⟩:=zf4 [3,9,27,27] (by kernel_rfl) (by kernel_rfl) h
 obtain ⟨p0,ps,rfl,h1,h0⟩:=zan h0
 obtain ⟨p1,ps,rfl,h2,h0⟩:=zan h0
 obtain ⟨p2,ps,rfl,h3,h0⟩:=zan h0
 obtain ⟨p3,ps,rfl,h4,h0⟩:=zan h0
 obtain rfl:=zev h0
 obtain ⟨x0,rfl,w0⟩:=ty_i h1
 obtain ⟨x1,rfl,w1⟩:=ty_s h2
 obtain ⟨x2,rfl,w2⟩:=zyq h3
 obtain ⟨x3,rfl,w3⟩:=zyq h4
 exact ⟨⟨x0,x1,x2,x3⟩,rfl,w0,w1,w2,w3⟩
structure VCall where
 client:Int
 seq:Int
 cmd:VCmd
deriving DecidableEq
abbrev VCall.enc (x:VCall):List PV:=[iv x.client,iv x.seq,iv x.cmd.kind,sv x.cmd.key,iv x.cmd.old.kind,.sc (.float .f64 x.cmd.old.num),sv x.cmd.old.text,iv x.cmd.val.kind,.sc (.float .f64 x.cmd.val.num),sv x.cmd.val.text]
def VCall.ok (x:VCall):Prop:=isI x.client∧isI x.seq∧x.cmd.ok
theorem z3y {ls:List PV} (h:Ty Tryz.prog 31 ls):∃ x:VCall,ls=x.enc∧x.ok:=by
 obtain ⟨ps,rfl,h0⟩:=zf4 [3,3,29] (by kernel_rfl) (by kernel_rfl) h
 obtain ⟨p0,ps,rfl,h1,h0⟩:=zan h0
 obtain ⟨p1,ps,rfl,h2,h0⟩:=zan h0
 obtain ⟨p2,ps,rfl,h3,h0⟩:=zan h0
 obtain rfl:=zev h0
 obtain ⟨x0,rfl,w0⟩:=ty_i h1
 obtain ⟨x1,rfl,w1⟩:=ty_i h2
 obtain ⟨x2,rfl,w2⟩:=ty_VCmd h3
 exact ⟨⟨x0,x1,x2⟩,rfl,w0,w1,w2⟩
structure Ent where
 term:Int
 kind:Int
 call:VCall
 conf:Conf
deriving DecidableEq
abbrev Ent.enc (x:Ent):List PV:=[iv x.term,iv x.kind,iv x.call.client,iv x.call.seq,iv x.call.cmd.kind,sv x.call.cmd.key,iv x.call.cmd.old.kind,.sc (.float .f64 x.call.cmd.old.num),sv x.call.cmd.old.text,iv x.call.cmd.val.kind,.sc (.float .f64 x.call.cmd.val.num),sv x.call.cmd.val.text,iv x.conf.full,iv x.conf.wit,iv x.conf.learn,iv x.conf.lwit]
def Ent.ok (x:Ent):Prop:=isI x.term∧isI x.kind∧x.call.ok∧x.conf.ok
structure Hrd where
 term:Int
 vote:Int
 base:Int
 baseTerm:Int
 baseConf:Conf
 snap:List Int
 log:List Ent
deriving DecidableEq
abbrev Hrd.enc (x:Hrd):List PV:=[iv x.term,iv x.vote,iv x.base,iv x.baseTerm,iv x.baseConf.full,iv x.baseConf.wit,iv x.baseConf.learn,iv x.baseConf.lwit,.sl 1 (x.snap.map encB),.sl 16 (x.log.map Ent.enc)]
def Hrd.ok (x:Hrd):Prop:=isI x.term∧isI x.vote∧isI x.base∧isI x.baseTerm∧x.baseConf.ok∧(x.snap.length≤maxLen∧∀ b ∈ x.snap,isB b)∧(x.log.length≤maxLen∧∀ y ∈ x.log,Ent.ok y)
structure Rd where
 call:VCall
 index:Int
 round:Int
 acks:Int
deriving DecidableEq
abbrev Rd.enc (x:Rd):List PV:=[iv x.call.client,iv x.call.seq,iv x.call.cmd.kind,sv x.call.cmd.key,iv x.call.cmd.old.kind,.sc (.float .f64 x.call.cmd.old.num),sv x.call.cmd.old.text,iv x.call.cmd.val.kind,.sc (.float .f64 x.call.cmd.val.num),sv x.call.cmd.val.text,iv x.index,iv x.round,iv x.acks]
def Rd.ok (x:Rd):Prop:=x.call.ok∧isI x.index∧isI x.round∧isI x.acks
structure Arr where
 a0:Int
 a1:Int
 a2:Int
 a3:Int
 a4:Int
 a5:Int
 a6:Int
deriving DecidableEq
abbrev Arr.enc (x:Arr):List PV:=[iv x.a0,iv x.a1,iv x.a2,iv x.a3,iv x.a4,iv x.a5,iv x.a6]
def Arr.ok (x:Arr):Prop:=isI x.a0∧isI x.a1∧isI x.a2∧isI x.a3∧isI x.a4∧isI x.a5∧isI x.a6
structure Rft where
 id:Int
 hard:Hrd
 commit:Int
 role:Int
 lead:Int
 wait:Int
 quiet:Int
 votes:Int
 round:Int
 next:Arr
 mtch:Arr
 silent:Arr
 reads:List Rd
deriving DecidableEq
abbrev Rft.enc (x:Rft):List PV:=[iv x.id,iv x.hard.term,iv x.hard.vote,iv x.hard.base,iv x.hard.baseTerm,iv x.hard.baseConf.full,iv x.hard.baseConf.wit,iv x.hard.baseConf.learn,iv x.hard.baseConf.lwit,.sl 1 (x.hard.snap.map encB),.sl 16 (x.hard.log.map Ent.enc),iv x.commit,iv x.role,iv x.lead,iv x.wait,iv x.quiet,iv x.votes,iv x.round,iv x.next.a0,iv x.next.a1,iv x.next.a2,iv x.next.a3,iv x.next.a4,iv x.next.a5,iv x.next.a6,iv x.mtch.a0,iv x.mtch.a1,iv x.mtch.a2,iv x.mtch.a3,iv x.mtch.a4,iv x.mtch.a5,iv x.mtch.a6,iv x.silent.a0,iv x.silent.a1,iv x.silent.a2,iv x.silent.a3,iv x.silent.a4,iv x.silent.a5,iv x.silent.a6,.sl 13 (x.reads.map Rd.enc)]
def Rft.ok (x:Rft):Prop:=isI x.id∧x.hard.ok∧isI x.commit∧isI x.role∧isI x.lead∧isI x.wait∧isI x.quiet∧isI x.votes∧isI x.round∧x.next.ok∧x.mtch.ok∧x.silent.ok∧(x.reads.length≤maxLen∧∀ y ∈ x.reads,Rd.ok y)
structure Mg where
 kind:Int
 frm:Int
 to:Int
 term:Int
 index:Int
 logTerm:Int
 commit:Int
 round:Int
 yes:Bool
 entries:List Ent
 conf:Conf
 snap:List Int
 inner:List (List PV)
abbrev Mg.enc (x:Mg):List PV:=[iv x.kind,iv x.frm,iv x.to,iv x.term,iv x.index,iv x.logTerm,iv x.commit,iv x.round,bv x.yes,.sl 16 (x.entries.map Ent.enc),iv x.conf.full,iv x.conf.wit,iv x.conf.learn,iv x.conf.lwit,.sl 1 (x.snap.map encB),.sl 16 x.inner]
def Mg.ok (x:Mg):Prop:=isI x.kind∧isI x.frm∧isI x.to∧isI x.term∧isI x.index∧isI x.logTerm∧isI x.commit∧isI x.round∧(x.entries.length≤maxLen∧∀ y ∈ x.entries,Ent.ok y)∧x.conf.ok∧(x.snap.length≤maxLen∧∀ b ∈ x.snap,isB b)∧(x.inner.length≤maxLen∧∀ r ∈ x.inner,Ty Tryz.prog 58 r)
end Go.Proofs
