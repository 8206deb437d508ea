import Derived.Test.YtbhfokahocgndabGreatPvK
/-
  Regions, control, loops: the evaluator of code, and its soundness. Generic over the program.
-/
set_option linter.unusedSimpArgs false
set_option linter.unusedVariables false
namespace Go.Pv
noncomputable def stepK (P:Program) (ops:List Oper) (c:CSt) (o:Oper) (k:CSt→Eff→Prop):Prop :=
 match o.guard with
 | none=>opE P c o (k c)
 | some (j,want)=>match ops[j]? with
  | some ⟨some t,_,_,_,_,_⟩=>match c with
   | ⟨tm0,bx,ob⟩=>lkK .bad tm0 t fun p=>match p with
    | .sc (.bool b)=>zuc b fun b=>stK tm0 t (.sc (.bool b)) fun tm=>match b,want with
     | true,true=>opE P ⟨tm,bx,ob⟩ o (k ⟨tm,bx,ob⟩)
     | false,false=>opE P ⟨tm,bx,ob⟩ o (k ⟨tm,bx,ob⟩)
     | _,_=>k ⟨tm,bx,ob⟩ skipE
    | .sc (.tuple _)=>k ⟨tm0,bx,ob⟩ skipE
    | _=>False
  | _=>False
theorem z39 {ts:List PV}{t:Nat}{p:PV} (h:ts.getD t .bad=p) (hp:p ≠ .bad):ts.set t p=ts:=by
 have hlt:t < ts.length:=by
  apply Nat.lt_of_not_le
  intro hle
  rw [List.getD_eq_getElem?_getD,List.getElem?_eq_none hle] at h
  exact hp h.symm
 rw [List.getD_eq_getElem?_getD,List.getElem?_eq_getElem hlt] at h
 simp at h
 rw [← h]
 exact List.set_getElem_self hlt
theorem zkg {P:Program}{ops:Array Oper}{c:CSt}{o:Oper}{i:Nat}{k:CSt→Eff→Prop} (ho:ops[i]?=some o) (h:stepK P ops.toList c o k):∃ E,zjj P ops i o E c.tm∧Sat c.st E∧k c E:=by
 unfold stepK at h
 split at h
 ·rename_i hg
  obtain ⟨E,h1,h2,h3⟩:=zk8 h
  exact ⟨E,zqr ho hg h1,h2,h3⟩
 ·rename_i j want hg
  split at h
  ·rename_i t _ _ _ _ _ hj
   have hdst:(ops[j]?).bind (·.dst)=some t:=by
    rw [Array.getElem?_toList] at hj
    rw [hj];rfl
   obtain ⟨tm0,bx,ob⟩:=c
   simp only [zni] at h
   split at h
   ·rename_i b hb
    rw [zir,zje] at h
    have hs:tm0.set t (.sc (.bool b))=tm0:=z39 hb (by simp)
    rw [hs] at h
    split at h
    ·obtain ⟨E,h1,h2,h3⟩:=zk8 h
     exact ⟨E,zjm ho hg hdst hb h1,h2,h3⟩
    ·obtain ⟨E,h1,h2,h3⟩:=zk8 h
     exact ⟨E,zjm ho hg hdst hb h1,h2,h3⟩
    ·rename_i n1 n2
     have hbw:b=!want:=by
      cases b<;>cases want<;>simp_all
     subst hbw
     exact ⟨skipE,zrf ho hg hdst hb,by simp [Sat,skipE],h⟩
   ·rename_i hb
    exact ⟨skipE,zpu ho hg hdst hb,by simp [Sat,skipE],h⟩
   ·exact h.elim
  ·exact h.elim
def RunL (P:Program) (ops:Array Oper):List Oper→Nat→St→List Eff→St→Prop
 | [],_,s,Es,s'=>Es=[]∧s=s'
 | o :: os,i,s,Es,s'=>∃ E r,Es=E :: r∧zjj P ops i o E s.tmps∧Sat s E∧RunL P ops os (i+1) (s.apply o.dst E) r s'
noncomputable def prunK (P:Program) (ops os:List Oper):CSt→(CSt→Prop)→Prop :=
 @List.rec Oper (fun _=>CSt→(CSt→Prop)→Prop) (fun c k=>k c) (fun o _ R c k=>stepK P ops c o fun c E=>zm8 c o.dst E fun c=>R c k) os
theorem zwy (P:Program) (ops:List Oper) (o:Oper) (os:List Oper) (c:CSt) (k:CSt→Prop):prunK P ops (o :: os) c k=stepK P ops c o fun c E=>zm8 c o.dst E fun c=>prunK P ops os c k:=rfl
theorem zkh {P:Program}{ops:Array Oper}:∀ {os:List Oper}{i:Nat}{c:CSt}{k:CSt→Prop},(∀ j:Nat,(ops.toList.drop i)[j]?=os[j]?)→prunK P ops.toList os c k→∃ Es c',RunL P ops os i c.st Es c'.st∧k c'
 | [],i,c,k,_,h=>⟨[],c,⟨rfl,rfl⟩,h⟩
 | o :: os,i,c,k,hd,h=>by
  rw [zwy] at h
  have ho:ops[i]?=some o:=by have:=hd 0;simpa using this
  obtain ⟨E,h1,h2,h3⟩:=zkg ho h
  rw [zp5] at h3
  obtain ⟨Es,c',h4,h5⟩:=zkh (i:=i+1) (fun j=>by have:=hd (j+1);simp only [List.getElem?_drop,List.getElem?_cons_succ] at this ⊢;rw [← this];congr 1;omega) h3
  rw [ztn] at h4
  exact ⟨E :: Es,c',⟨E,Es,rfl,h1,h2,h4⟩,h5⟩
theorem RunL.seq {P : Program} {ops : Array Oper} {Q : Exit → Act → World → Prop} {w0 : World} {X : Nat → Prop} {S0 : Base} : ∀ {os : List Oper} {i : Nat} {s : St} {Es : List Eff} {s' : St}, os = ops.toList.drop i → RunL P ops os i s Es s' → (∀ M a w, Rel w0 X S0 M s' a w → Q .normal a w) →
    ∀ M a w,Rel w0 X S0 M s a w→wpOps P ops Q (List.range' i os.length) a w
 | [],i,s,Es,s',_,h,hq,M,a,w,hr=>by
  obtain ⟨_,rfl⟩:=h
  simp only [List.length_nil,List.range'_zero,wpOps]
  exact hq M a w hr
 | o :: os,i,s,Es,s',hd,h,hq,M,a,w,hr=>by
  obtain ⟨E,r,rfl,h1,h2,h3⟩:=h
  simp only [List.length_cons]
  rw [List.range'_succ,wpOps_cons]
  refine h1 w0 X S0 M s a w Q _ hr (fun _ _=>rfl) h2 ?_
  intro M' a' w' hr'
  refine RunL.seq ?_ h3 hq M' a' w' hr'
  have:=congrArg List.tail hd
  simpa [List.tail_drop] using this
theorem RunL.sOf {P : Program} {ops : Array Oper} (s0 : St) (Es : List Eff) (s' : St) : ∀ (m i : Nat) (s : St), i + m = ops.size → s = Pv.sOf ops (fun j => Es.getD j skipE) s0 (fun _ => true) i → RunL P ops (ops.toList.drop i) i s (Es.drop i) s' →
    (∀ j o,i≤j→ops[j]?=some o→zjj P ops j o (Es.getD j skipE) (Pv.sOf ops (fun j=>Es.getD j skipE) s0 (fun _=>true) j).tmps∧Sat (Pv.sOf ops (fun j=>Es.getD j skipE) s0 (fun _=>true) j) (Es.getD j skipE)) ∧
    s'=Pv.sOf ops (fun j=>Es.getD j skipE) s0 (fun _=>true) ops.size:=by
 intro m
 induction m with
 | zero =>
  intro i s hi hs h
  have hnil:ops.toList.drop i=[]:=List.drop_eq_nil_of_le (by simp;omega)
  rw [hnil] at h
  obtain ⟨_,rfl⟩:=h
  refine ⟨fun j o hj ho=>?_,?_⟩
  ·have:=(Array.getElem?_eq_some_iff.1 ho).1;omega
  ·rw [hs];congr 1
 | succ m ih =>
  intro i s hi hs h
  have hlt:i < ops.size:=by omega
  have hcons:ops.toList.drop i=ops[i] :: ops.toList.drop (i+1):=by
   rw [List.drop_eq_getElem_cons (by simpa using hlt)];simp
  rw [hcons] at h
  obtain ⟨E,r,hE,h1,h2,h3⟩:=h
  have hEi:Es.getD i skipE=E:=by
   have:=congrArg (fun l=>l[0]?) hE
   simp at this
   rw [List.getD_eq_getElem?_getD,this];rfl
  have hr:r=Es.drop (i+1):=by
   have:=congrArg List.tail hE
   simpa [List.tail_drop] using this.symm
  subst hr
  have hd:ops[i].dst=dstOf ops i:=by simp [dstOf,hlt]
  have hnext:s.apply ops[i].dst E=Pv.sOf ops (fun j=>Es.getD j skipE) s0 (fun _=>true) (i+1):=by
   show _=(if true then (Pv.sOf ops (fun j=>Es.getD j skipE) s0 (fun _=>true) i).apply (dstOf ops i) (Es.getD i skipE) else _)
   rw [if_pos rfl,hEi,← hs,hd]
  obtain ⟨g1,g2⟩:=ih (i+1) _ (by omega) hnext h3
  refine ⟨fun j o hj ho=>?_,g2⟩
  by_cases e:j=i
  ·subst e
   have:o=ops[j]:=by rw [Array.getElem?_eq_getElem hlt] at ho;simpa using ho.symm
   subst this
   rw [← hs,hEi]
   exact ⟨h1,h2⟩
  ·exact g1 j o (by omega) ho
def ztq (ms:List Nat) (o:Oper):Nat:=o.after.toList.foldl (fun s e=>if Region.binds .any e then s ||| 2 ^ e.on ||| ms.getD e.on 0 else s) 0
def masks:List Oper→List Nat→List Nat
 | [],ms=>ms
 | o :: os,ms=>masks os (ms++[ztq ms o])
def preB (ops:List Oper) (i j:Nat):Bool:=((masks ops []).getD j 0).testBit i
theorem zp8 (ms : List Nat) (i : Nat) : ∀ (es : List Edge) (s : Nat), (es.foldl (fun s e => if Region.binds .any e then s ||| 2 ^ e.on ||| ms.getD e.on 0 else s) s).testBit i = true →
    s.testBit i=true∨∃ e ∈ es,Region.binds .any e=true∧(i=e.on∨(ms.getD e.on 0).testBit i=true)
 | [],s,h=>.inl h
 | e :: es,s,h=>by
  simp only [List.foldl_cons] at h
  rcases zp8 ms i es _ h with h1 | ⟨e',he',h2⟩
  ·by_cases hb:Region.binds .any e=true
   ·rw [if_pos hb] at h1
    simp only [Nat.testBit_or,Bool.or_eq_true] at h1
    rcases h1 with (h1 | h1) | h1
    ·exact .inl h1
    ·rw [Nat.testBit_two_pow] at h1
     exact .inr ⟨e,by simp,hb,.inl (by simpa using (of_decide_eq_true h1).symm)⟩
    ·exact .inr ⟨e,by simp,hb,.inr h1⟩
   ·rw [if_neg hb] at h1;exact .inl h1
  ·exact .inr ⟨e',by simp [he'],h2⟩
theorem zll (ops:Array Oper):∀ (os:List Oper) (ms:List Nat),os=ops.toList.drop ms.length→(∀ i j,(ms.getD j 0).testBit i=true→Pre ops i j)→∀ i j,((masks os ms).getD j 0).testBit i=true→Pre ops i j
 | [],ms,_,h,i,j,hm=>h i j hm
 | o :: os,ms,hd,h,i,j,hm=>by
  simp only [masks] at hm
  have ho:ops[ms.length]?=some o:=by
   have:=congrArg (fun l=>l[0]?) hd
   simp at this
   exact this.symm
  refine zll ops os (ms++[ztq ms o]) ?_ ?_ i j hm
  ·have:=congrArg List.tail hd
   simpa [List.tail_drop] using this
  ·intro i j hb
   rw [List.getD_eq_getElem?_getD,List.getElem?_append] at hb
   by_cases hj:j < ms.length
   ·rw [if_pos hj] at hb
    exact h i j (by rw [List.getD_eq_getElem?_getD];exact hb)
   ·rw [if_neg hj] at hb
    by_cases hj2:j=ms.length
    ·subst hj2
     simp at hb
     rcases zp8 ms i o.after.toList 0 (by simpa [ztq] using hb) with h1 | ⟨e,he,hbd,h2⟩
     ·simp at h1
     ·have hedge:zf3 ops e.on ms.length:=⟨o,ho,e,he,hbd,rfl⟩
      rcases h2 with rfl | h2
      ·exact .one hedge
      ·exact .more (h i e.on h2) hedge
    ·have:([ztq ms o]:List Nat)[j - ms.length]?=none:=List.getElem?_eq_none (by simp;omega)
     rw [this] at hb
     simp at hb
theorem zmn {ops:Array Oper}{i j:Nat} (h:preB ops.toList i j=true):Pre ops i j :=
 zll ops ops.toList [] (by simp) (fun i j h=>by simp at h) i j h
def z1m (ops:Array Oper) (i j:Nat):Bool :=
 match ops[i]?,ops[j]? with
 | some a, some b => (match a.dst with
     | some t=>b.dst == some t || (b.looksAt ops).contains t
     | none=>false) || (match b.dst with
     | some t=>(a.looksAt ops).contains t
     | none=>false)
 | _,_=>false
def tmpOk (ops:Array Oper):Bool :=
 (List.range ops.size).all fun j=>(match ops[j]? with | some o=>o.after.toList.all (fun e=>!Region.binds .any e || Nat.blt e.on j) | none=>true) && (List.range j).all fun i=>!z1m ops i j || preB ops.toList i j
theorem zvg {ops:Array Oper} (h:tmpOk ops=true):∀ i j,zf3 ops i j→i < j:=by
 rintro i j ⟨o,ho,e,he,hb,rfl⟩
 unfold tmpOk at h
 rw [List.all_eq_true] at h
 have h1:=h j (List.mem_range.2 (Array.getElem?_eq_some_iff.1 ho).1)
 simp only [ho,Bool.and_eq_true] at h1
 have h2:=(List.all_eq_true.1 h1.1) e he
 simp only [hb,Bool.not_true,Bool.false_or] at h2
 simp [Nat.blt] at h2
 omega
theorem zvl {ops:Array Oper} (h:tmpOk ops=true) {i j:Nat} (hij:i < j) (hj:j < ops.size) (hc:TConf ops i j):Pre ops i j:=by
 unfold tmpOk at h
 rw [List.all_eq_true] at h
 have h1:=h j (List.mem_range.2 hj)
 rw [Bool.and_eq_true] at h1
 have h2:=(List.all_eq_true.1 h1.2) i (List.mem_range.2 hij)
 have ha:ops[i]?=some ops[i]:=by simp
 have hb:ops[j]?=some ops[j]:=by simp
 have ht:z1m ops i j=true:=by
  unfold z1m
  simp only [ha,hb]
  obtain ⟨t,hc⟩:=hc
  simp only [dstOf,ha,hb,Option.bind_some,Option.some.injEq,exists_eq_left'] at hc
  rcases hc with ⟨h1,h2⟩ | ⟨h1,h2⟩
  ·simp only [h1,Bool.or_eq_true,beq_iff_eq]
   left
   rcases h2 with h2 | h2
   ·exact .inl h2
   ·exact .inr (by simpa using h2)
  ·simp only [h1,Bool.or_eq_true]
   right
   simpa using h2
 simp only [ht,Bool.not_true,Bool.false_or] at h2
 exact zmn h2
structure Fp where
 wb:List Nat
 fb:List Nat
 wo:List Nat
 fo:List Nat
def fpOf (E:Eff):Fp:=⟨Wb E,Fb E,Wo E,Fo E⟩
def meets (a b:List Nat):Bool:=a.any fun k=>b.any fun j=>Nat.beq k j
def zmg (a b:Fp):Bool:=meets a.wb b.fb || meets b.wb a.fb || meets a.wo b.fo || meets b.wo a.fo
theorem zj9 {a b:List Nat}{k:Nat} (h1:k ∈ a) (h2:k ∈ b):meets a b=true:=by
 unfold meets
 rw [List.any_eq_true]
 exact ⟨k,h1,by rw [List.any_eq_true];exact ⟨k,h2,by simp⟩⟩
theorem zxv {Es:Nat→Eff}{i j:Nat} (h:BConf Es i j∨OConf Es i j):zmg (fpOf (Es i)) (fpOf (Es j))=true:=by
 unfold zmg fpOf
 simp only [Bool.or_eq_true]
 rcases h with ⟨k,⟨h1,h2⟩ | ⟨h1,h2⟩⟩ | ⟨k,⟨h1,h2⟩ | ⟨h1,h2⟩⟩
 ·exact .inl (.inl (.inl (zj9 h1 h2)))
 ·exact .inl (.inl (.inr (zj9 h1 h2)))
 ·exact .inl (.inr (zj9 h1 h2))
 ·exact .inr (zj9 h1 h2)
def fpNew (ops:List Oper) (j:Nat) (b:Fp):List Fp→Nat→Bool
 | [],_=>true
 | a :: r,i=>(bif zmg a b then preB ops i j else true) && fpNew ops j b r (i - 1)
def keysK (E:Eff) (k:Fp→Prop):Prop :=
 mapK (fun (p:Nat×List PV) k=>k p.1) E.rb fun rb=>mapK (fun (p:Nat×List PV) k=>k p.1) E.wb fun wb =>
 mapK (fun (p:Nat×Bool×Nat×List (List PV)) k=>k p.1) E.ro fun ro=>mapK (fun (p:Nat×Option (Bool×Nat×List (List PV))) k=>k p.1) E.wo fun wo =>
 appK rb E.fb fun x=>appK x wb fun fb=>appK ro E.fo fun y=>appK y wo fun fo=>k ⟨wb,fb,wo,fo⟩
theorem z3h (E:Eff) (k:Fp→Prop):keysK E k=k (fpOf E):=by
 unfold keysK
 simp only [zhr _ (fun p:Nat×List PV=>p.1) (fun _ _=>rfl),zhr _ (fun p:Nat×Bool×Nat×List (List PV)=>p.1) (fun _ _=>rfl),zhr _ (fun p:Nat×Option (Bool×Nat×List (List PV))=>p.1) (fun _ _=>rfl),zcp]
 rfl
noncomputable def zpt (P:Program) (ops os:List Oper):Nat→List Fp→CSt→(CSt→Prop)→Prop :=
 @List.rec Oper (fun _=>Nat→List Fp→CSt→(CSt→Prop)→Prop) (fun _ _ c k=>k c) (fun o _ R j acc c k=>stepK P ops c o fun c E=>keysK E fun fp=>okK (fpNew ops j fp acc (j - 1)) (zm8 c o.dst E fun c=>R (j+1) (fp :: acc) c k)) os
theorem zso (P:Program) (ops:List Oper) (o:Oper) (os:List Oper) (j:Nat) (acc:List Fp) (c:CSt) (k:CSt→Prop):zpt P ops (o :: os) j acc c k=stepK P ops c o fun c E=>keysK E fun fp=>okK (fpNew ops j fp acc (j - 1)) (zm8 c o.dst E fun c=>zpt P ops os (j+1) (fp :: acc) c k):=rfl
theorem zl8 {ops:List Oper}{j:Nat}{b:Fp}:∀ {acc:List Fp}{n:Nat},fpNew ops j b acc n=true→∀ m a,acc[m]?=some a→m≤n→zmg a b=true→preB ops (n - m) j=true
 | [],n,_,m,a,h,_,_=>by simp at h
 | x :: acc,n,h,0,a,ha,_,hp=>by
  simp at ha;subst ha
  simp only [fpNew,hp,cond_true,Bool.and_eq_true] at h
  simpa using h.1
 | x :: acc,n,h,m+1,a,ha,hle,hp=>by
  simp only [fpNew,Bool.and_eq_true] at h
  simp at ha
  have:=zl8 h.2 m a ha (by omega) hp
  rwa [show n - 1 - m=n - (m+1) by omega] at this
theorem zjs {P : Program} {ops : Array Oper} : ∀ {os : List Oper} {i : Nat} {acc : List Fp} {c : CSt} {k : CSt → Prop}, (∀ j : Nat, (ops.toList.drop i)[j]? = os[j]?) → acc.length = i → zpt P ops.toList os i acc c k →
    ∃ Es c',RunL P ops os i c.st Es c'.st∧k c'∧(∀ m E,Es[m]?=some E→(∀ m' a,acc[m']?=some a→zmg a (fpOf E)=true→preB ops.toList (i - 1 - m') (i+m)=true)∧∀ m' E',m' < m→Es[m']?=some E'→zmg (fpOf E') (fpOf E)=true→preB ops.toList (i+m') (i+m)=true)
 | [],i,acc,c,k,_,_,h=>⟨[],c,⟨rfl,rfl⟩,h,fun m E hm=>by simp at hm⟩
 | o :: os,i,acc,c,k,hd,hl,h=>by
  rw [zso] at h
  have ho:ops[i]?=some o:=by have:=hd 0;simpa using this
  obtain ⟨E,h1,h2,h3⟩:=zkg ho h
  rw [z3h] at h3
  obtain ⟨hf,h3⟩:=za8 h3
  rw [zp5] at h3
  obtain ⟨Es,c',h4,h5,h6⟩:=zjs (i:=i+1) (fun j=>by have:=hd (j+1);simp only [List.getElem?_drop,List.getElem?_cons_succ] at this ⊢;rw [← this];congr 1;omega) (by simp [hl]) h3
  rw [ztn] at h4
  refine ⟨E :: Es,c',⟨E,Es,rfl,h1,h2,h4⟩,h5,?_⟩
  intro m E' hm
  cases m with
  | zero =>
   simp at hm;subst hm
   refine ⟨fun m' a ha hp=>?_,fun m' _ hlt=>by omega⟩
   have hlt:=(List.getElem?_eq_some_iff.1 ha).1
   have:=zl8 hf m' a ha (by omega) hp
   simpa using this
  | succ m =>
   simp at hm
   obtain ⟨g1,g2⟩:=h6 m E' hm
   refine ⟨fun m' a ha hp=>?_,fun m' E'' hlt he hp=>?_⟩
   ·have:=g1 (m'+1) a (by simpa using ha) hp
    have hlt:=(List.getElem?_eq_some_iff.1 ha).1
    rwa [show i+1 - 1 - (m'+1)=i - 1 - m' by omega,show i+1+m=i+(m+1) by omega] at this
   ·cases m' with
    | zero =>
     simp at he;subst he
     have:=g1 0 (fpOf E) (by simp) hp
     rwa [show i+1 - 1 - 0=i+0 by omega,show i+1+m=i+(m+1) by omega] at this
    | succ m' =>
     simp at he
     have:=g2 m' E'' (by omega) he hp
     rwa [show i+1+m'=i+(m'+1) by omega,show i+1+m=i+(m+1) by omega] at this
theorem RunL.len {P:Program}{ops:Array Oper}:∀ {os:List Oper}{i:Nat}{s:St}{Es:List Eff}{s':St},RunL P ops os i s Es s'→Es.length=os.length
 | [],i,s,Es,s',h=>by obtain ⟨rfl,_⟩:=h;rfl
 | o :: os,i,s,Es,s',h=>by
  obtain ⟨E,r,rfl,_,_,h3⟩:=h
  simp [RunL.len h3]
structure Tri (P:Program) (code:Code) (Q:Exit→CSt→Prop) (c:CSt):Prop where
 run:∀ (w0:World) (X:Nat→Prop) (S0:Base) (M:Mem) (a:Act) (w:World),Rel w0 X S0 M c.st a w→code.wp P (fun e a' w'=>∃ c' M',Rel w0 X S0 M' c'.st a' w'∧Q e c') a w
def seqQ (B:CSt→(Exit→CSt→Prop)→Prop) (Q:Exit→CSt→Prop) (e:Exit) (c:CSt):Prop :=
 match e with
 | .normal=>B c Q
 | .exit i=>Q (.exit i) c
 | .goto i=>Q (.goto i) c
 | .ret=>Q .ret c
 | .panic ch=>Q (.panic ch) c
 | .outgrown=>Q .outgrown c
def zlh (id:Nat) (Q:Exit→CSt→Prop) (e:Exit) (c:CSt):Prop :=
 match e with
 | .exit i=>bif Nat.beq i id then Q .normal c else Q (.exit i) c
 | .normal=>Q .normal c
 | .goto i=>Q (.goto i) c
 | .ret=>Q .ret c
 | .panic ch=>Q (.panic ch) c
 | .outgrown=>Q .outgrown c
def condK (x:Operand) (A B:CSt→(Exit→CSt→Prop)→Prop) (c:CSt) (Q:Exit→CSt→Prop):Prop :=
 evK c.tm x fun p=>match p with
  | .sc (.bool t)=>zuc t fun t=>match t with
   | true=>A c Q
   | false=>B c Q
  | .ub φ=>(φ→A c Q)∧B c Q
  | _=>False
noncomputable def regK (P:Program) (ops:Array Oper) (draw:Bool) (c:CSt) (Q:Exit→CSt→Prop):Prop :=
 match draw with
 | false=>prunK P ops.toList ops.toList c fun c=>Q .normal c
 | true=>zpt P ops.toList ops.toList 0 [] c fun c=>Q .normal c
noncomputable def pwp (P:Program) (code:Code):CSt→(Exit→CSt→Prop)→Prop :=
 @Code.rec (fun _=>CSt→(Exit→CSt→Prop)→Prop)
  (fun c Q=>Q .normal c)
  (fun _ ops draw c Q=>regK P ops draw c Q)
  (fun _ _ A B c Q=>A c (seqQ B Q))
  (fun x _ _ A B c Q=>condK x A B c Q)
  (fun id _ A c Q=>A c (zlh id Q))
  (fun body _ c Q=>Tri P (.loop body) Q c)
  (fun _ _ _ _ _ _ _ _=>False)
  (fun id c Q=>Q (.exit id) c)
  (fun _ _ _ _=>False)
  (fun _ _ _=>False)
  (fun _ _ _=>False)
  (fun c Q=>Q .ret c)
  (fun _ _ _=>False)
  code
def zb0:Code→Bool
 | .region _ ops true=>tmpOk ops
 | .seq a b=>zb0 a && zb0 b
 | .cond _ a b=>zb0 a && zb0 b
 | .block _ b=>zb0 b
 | .loop b=>zb0 b
 | _=>true
theorem zb2 {P:Program} (hm:P.follows .mixedOrders=true):∀ (code:Code) (c:CSt) (Q:Exit→CSt→Prop),zb0 code=true→pwp P code c Q→Tri P code Q c
 | .skip,c,Q,_,h=>⟨fun w0 X S0 M a w hr=>wp_skip ⟨c,M,hr,h⟩⟩
 | .region id ops false,c,Q,_,h=>by
  refine ⟨?_⟩
  intro w0 X S0 M a w hr
  have h:prunK P ops.toList ops.toList c fun c=>Q .normal c:=h
  obtain ⟨Es,c',h1,h2⟩:=zkh (i:=0) (fun j=>by simp) h
  refine wp_region ?_
  rw [List.range_eq_range']
  have:=RunL.seq (Q:=fun e a' w'=>∃ c' M',Rel w0 X S0 M' c'.st a' w'∧Q e c') (i:=0) (by simp) h1 (fun M a w hr=>⟨c',M,hr,h2⟩) M a w hr
  simpa using this
 | .region id ops true,c,Q,hok,h=>by
  refine ⟨?_⟩
  intro w0 X S0 M a w hr
  have h:zpt P ops.toList ops.toList 0 [] c fun c=>Q .normal c:=h
  simp only [zb0] at hok
  obtain ⟨Es,c',h1,h2,h3⟩:=zjs (i:=0) (fun j=>by simp) rfl h
  have hlen:=h1.len
  obtain ⟨g1,g2⟩:=RunL.sOf (P:=P) (ops:=ops) c.st Es c'.st ops.size 0 c.st (by simp) rfl (by simpa using h1)
  refine z32 ops (fun j=>Es.getD j skipE) c.st hm (zvg hok) (fun j o ho=>g1 j o (Nat.zero_le _) ho) ?_ ?_ hr
  ·intro i j hij hj hc
   rcases hc with hc | hc
   ·exact zvl hok hij hj hc
   ·have hp:=zxv (Es:=fun j=>Es.getD j skipE) hc
    have hi':i < Es.length:=by rw [hlen];simp;omega
    have hj':j < Es.length:=by rw [hlen];simpa using hj
    have e1:Es.getD i skipE=Es[i]:=by simp [hi']
    have e2:Es.getD j skipE=Es[j]:=by simp [hj']
    simp only [e1,e2] at hp
    have:=(h3 j Es[j] (by simp [hj'])).2 i Es[i] hij (by simp [hi']) hp
    exact zmn (by simpa using this)
  ·intro M' a' w' hr'
   rw [← g2] at hr'
   exact ⟨c',M',hr',h2⟩
 | .seq x y,c,Q,hok,h=>by
  refine ⟨?_⟩
  intro w0 X S0 M a w hr
  simp only [zb0,Bool.and_eq_true] at hok
  have h:pwp P x c (seqQ (pwp P y) Q):=h
  refine wp_seq (wp_mono ((zb2 hm x c _ hok.1 h).run w0 X S0 M a w hr) ?_)
  rintro e a' w' ⟨c',M',hr',hq⟩
  cases e with
  | normal=>exact (zb2 hm y c' Q hok.2 hq).run w0 X S0 M' a' w' hr'
  | exit i=>exact ⟨c',M',hr',hq⟩
  | goto i=>exact ⟨c',M',hr',hq⟩
  | ret=>exact ⟨c',M',hr',hq⟩
  | panic ch=>exact ⟨c',M',hr',hq⟩
  | outgrown=>exact ⟨c',M',hr',hq⟩
 | .cond x a b,c,Q,hok,h=>by
  refine ⟨?_⟩
  intro w0 X S0 M ac w hr
  simp only [zb0,Bool.and_eq_true] at hok
  have h:condK x (pwp P a) (pwp P b) c Q:=h
  unfold condK at h
  rw [za5] at h
  split at h
  ·rename_i t ht
   rw [zir] at h
   have hv:=hr.eval x
   have ht':aev c.st.tmps x=.sc (.bool t):=ht
   rw [ht'] at hv
   simp only [RV] at hv
   refine wp_cond (t:=t) hv ?_
   cases t
   ·exact (zb2 hm b c Q hok.2 h).run w0 X S0 M ac w hr
   ·exact (zb2 hm a c Q hok.1 h).run w0 X S0 M ac w hr
  ·rename_i φ ht
   have hv:=hr.eval x
   have ht':aev c.st.tmps x=.ub φ:=ht
   rw [ht'] at hv
   simp only [RV] at hv
   obtain ⟨t,hv,hφ⟩:=hv
   refine wp_cond (t:=t) hv ?_
   cases t
   ·exact (zb2 hm b c Q hok.2 h.2).run w0 X S0 M ac w hr
   ·exact (zb2 hm a c Q hok.1 (h.1 (hφ rfl))).run w0 X S0 M ac w hr
  ·exact h.elim
 | .block id body,c,Q,hok,h=>by
  refine ⟨?_⟩
  intro w0 X S0 M a w hr
  simp only [zb0] at hok
  have h:pwp P body c (zlh id Q):=h
  refine wp_block (wp_mono ((zb2 hm body c _ hok h).run w0 X S0 M a w hr) ?_)
  rintro e a' w' ⟨c',M',hr',hq⟩
  cases e with
  | exit i =>
   simp only [Exit.inBlock]
   by_cases hi:i=id
   ·subst hi
    rw [if_pos rfl]
    simp only [zlh,Nat.beq_refl,cond_true] at hq
    exact ⟨c',M',hr',hq⟩
   ·rw [if_neg hi]
    simp only [zlh,zbj hi,cond_false] at hq
    exact ⟨c',M',hr',hq⟩
  | normal=>exact ⟨c',M',hr',hq⟩
  | goto i=>exact ⟨c',M',hr',hq⟩
  | ret=>exact ⟨c',M',hr',hq⟩
  | panic ch=>exact ⟨c',M',hr',hq⟩
  | outgrown=>exact ⟨c',M',hr',hq⟩
 | .loop body,c,Q,_,h=>h
 | .exit id,c,Q,_,h=>⟨fun w0 X S0 M a w hr=>wp_exit ⟨c,M,hr,h⟩⟩
 | .ret,c,Q,_,h=>⟨fun w0 X S0 M a w hr=>wp_ret ⟨c,M,hr,h⟩⟩
 | .rangeFunc ..,c,Q,_,h=>h.elim
 | .scope _,c,Q,_,h=>h.elim
 | .label _,c,Q,_,h=>h.elim
 | .goto _,c,Q,_,h=>h.elim
 | .refuse _,c,Q,_,h=>h.elim
def Wk (c c':CSt):Prop:=∀ (w0:World) (X:Nat→Prop) (S0:Base) (M:Mem) (a:Act) (w:World),Rel w0 X S0 M c.st a w→∃ M',Rel w0 X S0 M' c'.st a w
theorem Wk.refl (c:CSt):Wk c c:=fun _ _ _ M _ _ h=>⟨M,h⟩
def loopQ (Q:Exit→CSt→Prop) (N:CSt→Prop) (e:Exit) (c:CSt):Prop :=
 match e with
 | .normal=>N c
 | .exit i=>Q (.exit i) c
 | .goto i=>Q (.goto i) c
 | .ret=>Q .ret c
 | .panic ch=>Q (.panic ch) c
 | .outgrown=>Q .outgrown c
noncomputable def zxj (P:Program) (body:Code) (Q:Exit→CSt→Prop) (n:Nat):CSt→Prop :=
 @Nat.rec (fun _=>CSt→Prop) (fun _=>False) (fun _ R c=>pwp P body c (loopQ Q R)) n
theorem zby {P:Program} (hm:P.follows .mixedOrders=true) {body:Code}{Q:Exit→CSt→Prop}{c:CSt} (hok:zb0 body=true) (n:Nat) (h:zxj P body Q n c):Tri P (.loop body) Q c:=by
 refine ⟨?_⟩
 intro w0 X S0 M a w hr fb k cs
 have key:∀ n c,zxj P body Q n c→∀ M a w,Rel w0 X S0 M c.st a w→∃ e a' w',(∃ c' M',Rel w0 X S0 M' c'.st a' w'∧Q e c')∧Arrives P (lone (fb.at a (.code body :: .inLoop body :: k)) cs w) fb k cs e a' w':=by
  intro n
  induction n with
  | zero=>intro c h;exact h.elim
  | succ n ih =>
   intro c h M a w hr
   obtain ⟨e,a₁,w₁,⟨c1,M1,hr1,hq⟩,harr⟩:=(zb2 hm body c _ hok h).run w0 X S0 M a w hr fb (.inLoop body :: k) cs
   cases e with
   | normal =>
    obtain ⟨e₂,a₂,w₂,hq₂,harr₂⟩:=ih c1 hq M1 a₁ w₁ hr1
    exact ⟨e₂,a₂,w₂,hq₂,.of_steps (Steps.trans harr (.one step_inLoop)) harr₂⟩
   | exit id=>exact ⟨_,a₁,w₁,⟨c1,M1,hr1,hq⟩,.pass (x:=.inLoop body) rfl (fun _ _=>.inl (by simp)) harr⟩
   | goto l=>exact ⟨_,a₁,w₁,⟨c1,M1,hr1,hq⟩,.pass (x:=.inLoop body) rfl (fun _ _=>.inl (by simp)) harr⟩
   | ret=>exact ⟨_,a₁,w₁,⟨c1,M1,hr1,hq⟩,.pass (x:=.inLoop body) rfl (fun _ _=>.inl (by simp)) harr⟩
   | panic ch=>exact ⟨_,a₁,w₁,⟨c1,M1,hr1,hq⟩,.pass (x:=.inLoop body) rfl (fun _ _=>.inl (by simp)) harr⟩
   | outgrown=>exact ⟨_,a₁,w₁,⟨c1,M1,hr1,hq⟩,.pass (x:=.inLoop body) rfl (fun _ _=>.inl (by simp)) harr⟩
 obtain ⟨e,a',w',hq,harr⟩:=key n c h M a w hr
 exact ⟨e,a',w',hq,.of_steps (.one step_loop) harr⟩
mutual
def kbOk (kb:List Nat):PV→Bool
 | .pt k _=>kb.contains k
 | .bs k _ _=>kb.contains k
 | .ag ps=>kbOkL kb ps
 | .tu ps=>kbOkL kb ps
 | .cl _ ps=>kbOkL kb ps
 | .cm _ ps=>kbOkL kb ps
 | .ow ..=>false
 | .eo ..=>false
 | .ls ..=>false
 | .lp ..=>false
 | .fs ..=>false
 | _=>true
def kbOkL (kb:List Nat):List PV→Bool
 | []=>true
 | p :: ps=>kbOk kb p && kbOkL kb ps
end
mutual
def WkV (kb:List Nat) (rn:List (Nat×Nat)) (fz:List (Nat×Bool×Nat×List (List PV))):PV→PV→Prop
 | _,.bad=>True
 | p,.ub φ=>p=.ub φ
 | p,.nn kd=>p=.nn kd
 | p,.ls sz rows=>p=.ls sz rows∧(rows.all (kbOkL kb))=true
 | _,.lp ..=>False
 | _,.fs ..=>False
 | p,.sc v=>p=.sc v
 | p,.sl sz rows=>p=.sl sz rows∨(p=.nl∧rows=[])∨∃ k lo len b all,p=.ow k lo len∧(k,b,sz,all) ∈ fz∧lo+len≤all.length∧rows=(all.drop lo).take len
 | p,.nl=>p=.nl
 | p,.pt k off=>k ∈ kb∧p=.pt k off
 | p,.bs k off len=>k ∈ kb∧p=.bs k off len
 | p,.ow k lo len=>∃ k0,lkA rn k=some k0∧p=.ow k0 lo len
 | p,.ep sfx=>p=.ep sfx
 | _,.eo _ _ _=>False
 | p,.ag qs=>∃ ps,p=.ag ps∧WkL kb rn fz ps qs
 | p,.tu qs=>∃ ps,p=.tu ps∧WkL kb rn fz ps qs
 | p,.cl f qs=>∃ ps,p=.cl f ps∧WkL kb rn fz ps qs
 | p,.cm f qs=>∃ ps,p=.cm f ps∧WkL kb rn fz ps qs
def WkL (kb:List Nat) (rn:List (Nat×Nat)) (fz:List (Nat×Bool×Nat×List (List PV))):List PV→List PV→Prop
 | ps,[]=>ps=[]
 | ps,q :: qs=>∃ p r,ps=p :: r∧WkV kb rn fz p q∧WkL kb rn fz r qs
end
def Mem.ren (M:Mem) (kb:List Nat) (rn:List (Nat×Nat)):Mem:=⟨M.st,fun k=>if k ∈ kb then M.bx k else none,fun k=>(lkA rn k).bind M.ob,M.nw⟩
theorem zqg (M:Mem) (kb:List Nat) (rn:List (Nat×Nat)):(M.ren kb rn).cl=M.cl:=rfl
structure FzOk (M:Mem) (w:World) (fz:List (Nat×Bool×Nat×List (List PV))):Prop where
 ok:∀ k b sz all,(k,b,sz,all) ∈ fz→∀ L,M.ob k=some L→L.sz=sz∧((L.nil=true∧all=[])∨(L.nil=false∧M.st L.b∧∃ cs E,w.heap[L.b]?=some (.cells cs E (0,0))∧RVR M.cl w sz all cs.toList))
mutual
theorem zv6 {M:Mem}{w:World}{kb:List Nat} (rn:List (Nat×Nat)):∀ (p:PV) (v:Value),kbOk kb p=true→RV M w p v→RV (M.ren kb rn) w p v
 | .sc x,v,_,hv=>by simpa [RV] using hv
 | .ag ps,v,h,hv=>by
  simp only [RV] at hv ⊢
  obtain ⟨cs,e,r⟩:=hv
  exact ⟨cs,e,zdz rn ps _ (by simpa [kbOk] using h) r⟩
 | .tu ps,v,h,hv=>by
  simp only [RV] at hv ⊢
  obtain ⟨cs,e,r⟩:=hv
  exact ⟨cs,e,zdz rn ps _ (by simpa [kbOk] using h) r⟩
 | .cl f ps,v,h,hv=>by
  simp only [RV] at hv ⊢
  obtain ⟨cs,e,r⟩:=hv
  exact ⟨cs,e,zdz rn ps _ (by simpa [kbOk] using h) r⟩
 | .cm f ps,v,h,hv=>by
  simp only [RV] at hv ⊢
  obtain ⟨cs,e,r⟩:=hv
  exact ⟨cs,e,zdz rn ps _ (by simpa [kbOk] using h) r⟩
 | .sl sz rows,v,_,hv=>by simp only [RV,zqg] at hv ⊢;exact hv
 | .nl,v,_,hv=>by simpa [RV] using hv
 | .ow ..,v,h,_=>by simp [kbOk] at h
 | .eo ..,v,h,_=>by simp [kbOk] at h
 | .ls ..,v,h,_=>by simp [kbOk] at h
 | .lp ..,v,h,_=>by simp [kbOk] at h
 | .fs ..,v,h,_=>by simp [kbOk] at h
 | .pt k off,v,h,hv=>by
  simp only [RV] at hv ⊢
  obtain ⟨b,hb,r⟩:=hv
  have hk:k ∈ kb:=by simpa [kbOk] using h
  exact ⟨b,by show (if k ∈ kb then M.bx k else none)=_;rw [if_pos hk];exact hb,r⟩
 | .bs k off len,v,h,hv=>by
  simp only [RV] at hv ⊢
  obtain ⟨b,hb,r⟩:=hv
  have hk:k ∈ kb:=by simpa [kbOk] using h
  exact ⟨b,by show (if k ∈ kb then M.bx k else none)=_;rw [if_pos hk];exact hb,r⟩
 | .ep sfx,v,_,hv=>by simp only [RV,zqg] at hv ⊢;exact hv
 | .ub φ,v,_,hv=>by simp only [RV] at hv ⊢;exact hv
 | .nn kd,v,_,hv=>by simp only [RV] at hv ⊢;exact hv
 | .bad,v,_,_=>by simp [RV]
theorem zdz {M:Mem}{w:World}{kb:List Nat} (rn:List (Nat×Nat)):∀ (ps:List PV) (cs:List Value),kbOkL kb ps=true→RVL M w ps cs→RVL (M.ren kb rn) w ps cs
 | [],cs,_,hv=>by simpa [RVL] using hv
 | p :: ps,cs,h,hv=>by
  simp only [RVL] at hv ⊢
  simp only [kbOkL,Bool.and_eq_true] at h
  obtain ⟨c,r,e,h1,h2⟩:=hv
  exact ⟨c,r,e,zv6 rn p c h.1 h1,zdz rn ps r h.2 h2⟩
end
theorem zlo {M:Mem}{w:World}{kb:List Nat} (rn:List (Nat×Nat)) (sz:Nat):∀ (rows:List (List PV)) (cs:List Value),(rows.all (kbOkL kb))=true→RVR M w sz rows cs→RVR (M.ren kb rn) w sz rows cs
 | [],cs,_,hv=>by simp [RVR]
 | r :: rs,cs,h,hv=>by
  simp only [RVR] at hv ⊢
  simp only [List.all_cons,Bool.and_eq_true] at h
  obtain ⟨c1,c2,e,hl,h1,h2⟩:=hv
  exact ⟨c1,c2,e,hl,zdz rn r c1 h.1 h1,zlo rn sz rs c2 h.2 h2⟩
mutual
theorem WkV.sound {M:Mem}{w:World}{kb:List Nat}{rn:List (Nat×Nat)}{fz:List (Nat×Bool×Nat×List (List PV))} (hf:FzOk M w fz):∀ (q p:PV) (v:Value),WkV kb rn fz p q→RV M w p v→RV (M.ren kb rn) w q v
 | .bad,p,v,_,_=>by simp [RV]
 | .ub φ,p,v,h,hv=>by simp only [WkV] at h;subst h;simp only [RV] at hv ⊢;exact hv
 | .nn kd,p,v,h,hv=>by simp only [WkV] at h;subst h;simp only [RV] at hv ⊢;exact hv
 | .ls sz rows,p,v,h,hv=>by
  simp only [WkV] at h
  obtain ⟨rfl,hk⟩:=h
  simp only [RV] at hv ⊢
  obtain ⟨b,cs,e,hs,hc,hr⟩:=hv
  exact ⟨b,cs,e,hs,hc,zlo rn sz rows cs hk hr⟩
 | .lp ..,p,v,h,hv=>by simp [WkV] at h
 | .fs ..,p,v,h,hv=>by simp [WkV] at h
 | .sc x,p,v,h,hv=>by simp only [WkV] at h;subst h;simpa [RV] using hv
 | .sl sz rows,p,v,h,hv=>by
  simp only [WkV] at h
  rcases h with rfl | ⟨rfl,rfl⟩ | ⟨k,lo,len,b,all,rfl,hm,hle,rfl⟩
  ·simp only [RV,zqg] at hv ⊢;exact hv
  ·simp only [RV] at hv ⊢
   obtain ⟨a,rfl⟩:=hv
   exact ⟨a,0,0,rfl,rfl,Nat.le_refl _,by simp⟩
  ·simp only [RV,zqg] at hv ⊢
   obtain ⟨L,hL,hcase⟩:=hv
   obtain ⟨hLs,hob⟩:=hf.ok k b sz all hm L hL
   have hlen:((all.drop lo).take len).length=len:=by simp;omega
   rcases hcase with ⟨hn,rfl,xa,rfl⟩ | ⟨hn,hcap,xa,rfl,hxa⟩
   ·exact ⟨xa,0,0,rfl,by simp,Nat.le_refl _,.inl (by simp)⟩
   ·refine ⟨xa,len,_,rfl,hlen.symm,by omega,?_⟩
    by_cases h0:len=0
    ·left;subst h0;simp
    ·right
     rcases hob with ⟨e,_⟩ | ⟨_,hst,cs,E,hh,hR⟩
     ·rw [hn] at e;cases e
     ·have hc:Cells w L.b (0+lo * sz) (cs.toList.drop (lo * sz)):=(Cells.of_block hh).drop (lo * sz)
      rw [Nat.zero_add] at hc
      exact ⟨L.b,lo * sz,cs.toList.drop (lo * sz),by rw [hxa (by omega),hLs],hst,hc,RVR.takeRows len (RVR.dropRows lo hR)⟩
 | .nl,p,v,h,hv=>by simp only [WkV] at h;subst h;simpa [RV] using hv
 | .pt k off,p,v,h,hv=>by
  simp only [WkV] at h
  obtain ⟨hk,rfl⟩:=h
  simp only [RV] at hv ⊢
  obtain ⟨b,hb,r⟩:=hv
  exact ⟨b,by show (if k ∈ kb then M.bx k else none)=_;rw [if_pos hk];exact hb,r⟩
 | .bs k off len,p,v,h,hv=>by
  simp only [WkV] at h
  obtain ⟨hk,rfl⟩:=h
  simp only [RV] at hv ⊢
  obtain ⟨b,hb,r⟩:=hv
  exact ⟨b,by show (if k ∈ kb then M.bx k else none)=_;rw [if_pos hk];exact hb,r⟩
 | .ow k lo len,p,v,h,hv=>by
  simp only [WkV] at h
  obtain ⟨k0,hk,rfl⟩:=h
  simp only [RV] at hv ⊢
  obtain ⟨L,hL,r⟩:=hv
  exact ⟨L,by show (lkA rn k).bind M.ob=_;rw [hk];exact hL,r⟩
 | .ep sfx,p,v,h,hv=>by simp only [WkV] at h;subst h;simp only [RV,zqg] at hv ⊢;exact hv
 | .eo _ _ _,p,v,h,hv=>by simp [WkV] at h
 | .ag qs,p,v,h,hv=>by
  simp only [WkV] at h
  obtain ⟨ps,rfl,h⟩:=h
  simp only [RV] at hv ⊢
  obtain ⟨cs,e,r⟩:=hv
  exact ⟨cs,e,WkL.sound hf qs ps _ h r⟩
 | .tu qs,p,v,h,hv=>by
  simp only [WkV] at h
  obtain ⟨ps,rfl,h⟩:=h
  simp only [RV] at hv ⊢
  obtain ⟨cs,e,r⟩:=hv
  exact ⟨cs,e,WkL.sound hf qs ps _ h r⟩
 | .cl f qs,p,v,h,hv=>by
  simp only [WkV] at h
  obtain ⟨ps,rfl,h⟩:=h
  simp only [RV] at hv ⊢
  obtain ⟨cs,e,r⟩:=hv
  exact ⟨cs,e,WkL.sound hf qs ps _ h r⟩
 | .cm f qs,p,v,h,hv=>by
  simp only [WkV] at h
  obtain ⟨ps,rfl,h⟩:=h
  simp only [RV] at hv ⊢
  obtain ⟨cs,e,r⟩:=hv
  exact ⟨cs,e,WkL.sound hf qs ps _ h r⟩
theorem WkL.sound {M:Mem}{w:World}{kb:List Nat}{rn:List (Nat×Nat)}{fz:List (Nat×Bool×Nat×List (List PV))} (hf:FzOk M w fz):∀ (qs ps:List PV) (cs:List Value),WkL kb rn fz ps qs→RVL M w ps cs→RVL (M.ren kb rn) w qs cs
 | [],ps,cs,h,hv=>by simp only [WkL] at h;subst h;simpa [RVL] using hv
 | q :: qs,ps,cs,h,hv=>by
  simp only [WkL] at h
  obtain ⟨p,r,rfl,h1,h2⟩:=h
  simp only [RVL] at hv ⊢
  obtain ⟨c,rr,e,h3,h4⟩:=hv
  exact ⟨c,rr,e,WkV.sound hf q p c h1 h3,WkL.sound hf qs r rr h2 h4⟩
end
theorem WkL.length {kb:List Nat}{rn:List (Nat×Nat)}{fz:List (Nat×Bool×Nat×List (List PV))}:∀ (qs ps:List PV),WkL kb rn fz ps qs→ps.length=qs.length
 | [],ps,h=>by simp only [WkL] at h;simp [h]
 | q :: qs,ps,h=>by
  simp only [WkL] at h
  obtain ⟨p,r,rfl,_,h2⟩:=h
  simp [WkL.length qs r h2]
theorem WkL.get {kb:List Nat}{rn:List (Nat×Nat)}{fz:List (Nat×Bool×Nat×List (List PV))}:∀ (qs ps:List PV) (t:Nat),WkL kb rn fz ps qs→WkV kb rn fz (ps.getD t .bad) (qs.getD t .bad)
 | [],ps,t,h=>by simp [WkV]
 | q :: qs,ps,0,h=>by
  simp only [WkL] at h
  obtain ⟨p,r,rfl,h1,_⟩:=h
  simpa using h1
 | q :: qs,ps,t+1,h=>by
  simp only [WkL] at h
  obtain ⟨p,r,rfl,_,h2⟩:=h
  simpa using WkL.get qs r t h2
structure RnOk (c:CSt) (fz:List (Nat×Bool×Nat×List (List PV))) (rn:List (Nat×Nat)) (ob':List (Nat×Option (Bool×Nat×List (List PV)))):Prop where
 fzn:∀ q ∈ fz,lkA c.ob q.1=some (some q.2)
 to:∀ k o,lkA ob' k=some o→o=none∨∃ k0 q,lkA rn k=some k0∧o=some q∧lkA c.ob k0=some (some q)∧∀ x ∈ fz,x.1 ≠ k0
 from_:∀ k k0,lkA rn k=some k0→∃ o,lkA ob' k=some o
 inj:∀ k k' k0,lkA rn k=some k0→lkA rn k'=some k0→k=k'
theorem HRel.ren {w0 : World} {X : Nat → Prop} {S0 : Base} {M : Mem} {c : CSt} {w : World} {fz : List (Nat × Bool × Nat × List (List PV))} {rn : List (Nat × Nat)} {bx' : List (Nat × List PV)} {ob' : List (Nat × Option (Bool × Nat × List (List PV)))} (h : HRel w0 X S0 M (lkA c.bx) (lkA c.ob) w)
    (hpb:∀ k b,S0.pb k=some b→k ∈ bx'.map (·.1)) (hpo:∀ k L,S0.po k=some L→lkA rn k=some k) (hrn:RnOk c fz rn ob') (hbx:∀ k ls',lkA bx' k=some ls'→∃ ls,lkA c.bx k=some ls∧WkL (bx'.map (·.1)) rn fz ls ls') :
    ∃ M1,M.Le M1 w w∧FzOk M1 w fz∧HRel w0 X S0 (M1.ren (bx'.map (·.1)) rn) (lkA bx') (lkA ob') w:=by
 obtain ⟨M1,h1,hle1,hob1,hbx1,hst1⟩:=h.freezeAll fz hrn.fzn
 have hupd:∀ k,(∀ x ∈ fz,x.1 ≠ k)→upd (lkA c.ob) (zbt fz) k=lkA c.ob k:=by
  intro k hk
  rw [zc2]
  intro hm
  simp only [zbt,List.map_map,List.mem_map] at hm
  obtain ⟨x,hx,e⟩:=hm
  exact hk x hx e
 have hF:FzOk M1 w fz:=by
  refine ⟨?_⟩
  intro k b sz all hm L hL
  obtain ⟨hLs,hc⟩:=h.obj' (hrn.fzn _ hm) (by rw [← hob1];exact hL)
  refine ⟨hLs,?_⟩
  rcases hc with hc | ⟨hn,_,_,cs,E,hh,_,_,_,hR⟩
  ·exact .inl hc
  ·exact .inr ⟨hn,hst1 _ hm L (by rw [← hob1];exact hL) hn,cs,E,hh,RVR.mono hle1.cl _ _ _ hR⟩
 have hkey:∀ k b,(M1.ren (bx'.map (·.1)) rn).bx k=some b→M1.bx k=some b∧k ∈ bx'.map (·.1):=by
  intro k b hk
  have hk':(if k ∈ bx'.map (·.1) then M1.bx k else none)=some b:=hk
  by_cases hm:k ∈ bx'.map (·.1)
  ·rw [if_pos hm] at hk';exact ⟨hk',hm⟩
  ·rw [if_neg hm] at hk';cases hk'
 have hmem:∀ k,k ∈ bx'.map (·.1)→∃ ls,lkA bx' k=some ls:=by
  intro k
  clear hbx hkey hpb hpo
  induction bx' with
  | nil=>intro hm;simp at hm
  | cons p r ih =>
   obtain ⟨j,u⟩:=p
   intro hm
   simp only [lkA]
   by_cases e:j=k
   ·subst e;exact ⟨u,by simp⟩
   ·rw [zbj e]
    simp only [cond_false]
    refine ih ?_
    simp only [List.map_cons,List.mem_cons] at hm
    rcases hm with hm | hm
    ·exact absurd hm.symm e
    ·exact hm
 have hobr:∀ k L,(M1.ren (bx'.map (·.1)) rn).ob k=some L→∃ k0,lkA rn k=some k0∧M1.ob k0=some L:=by
  intro k L hk
  have hk':(lkA rn k).bind M1.ob=some L:=hk
  cases hr:lkA rn k with
  | none=>rw [hr] at hk';cases hk'
  | some k0=>rw [hr] at hk';exact ⟨k0,rfl,hk'⟩
 have hlive:∀ k q,lkA ob' k=some (some q)→∃ k0,lkA rn k=some k0∧upd (lkA c.ob) (zbt fz) k0=some (some q):=by
  intro k q hk
  rcases hrn.to k _ hk with e0 | ⟨k0,q',e1,e2,e3,e4⟩
  ·cases e0
  cases e2
  exact ⟨k0,e1,by rw [hupd k0 e4];exact e3⟩
 have hown:∀ b,Own w0 X M1 b→Own w0 X (M1.ren (bx'.map (·.1)) rn) b:=fun b h=>h
 refine ⟨M1,hle1,hF,{ os:=h1.os,tape:=h1.tape,out:=h1.out,size:=h1.size,kept:=h1.kept,stlt:=h1.stlt,stok:=h1.stok,box:=?_,boxKey:=?_,obj:=?_,objKey:=?_,boxNe:=?_,objNe:=?_,boxObj:=?_,pinB:=?_,pinO:=?_,nwok:=h1.nwok,c00:=h1.c00 }⟩
 ·intro k ls' hk
  obtain ⟨ls,e1,e2⟩:=hbx k ls' hk
  obtain ⟨b,T,cs,g1,g2,g3,g4⟩:=h1.box k ls e1
  refine ⟨b,T,cs,?_,g2,g3,WkL.sound hF ls' ls _ e2 g4⟩
  show (if k ∈ bx'.map (·.1) then M1.bx k else none)=_
  have:k ∈ bx'.map (·.1):=by
   clear hbx hkey hmem hobr hlive hown e2 hrn h1 g1 hpb hpo
   induction bx' with
   | nil=>simp [lkA] at hk
   | cons p r ih =>
    obtain ⟨j,u⟩:=p
    simp only [lkA] at hk
    by_cases e:j=k
    ·simp [e]
    ·rw [zbj e] at hk
     simp only [cond_false] at hk
     simp only [List.map_cons,List.mem_cons]
     exact .inr (ih hk)
  rw [if_pos this];exact g1
 ·intro k b hk
  obtain ⟨_,hm⟩:=hkey k b hk
  exact hmem k hm
 ·intro k fz' sz rows hk
  obtain ⟨k0,e1,e2⟩:=hlive k _ hk
  obtain ⟨L,g1,g2,g3⟩:=h1.obj k0 fz' sz rows e2
  exact ⟨L,by show (lkA rn k).bind M1.ob=_;rw [e1];exact g1,g2,g3⟩
 ·intro k L hk
  obtain ⟨k0,e1,_⟩:=hobr k L hk
  exact hrn.from_ k k0 e1
 ·intro k k' b hk hk'
  exact h1.boxNe k k' b (hkey k b hk).1 (hkey k' b hk').1
 ·intro k k' o o' L L' hk hk' hL hL' hn hn' hb
  obtain ⟨k0,e1,e2⟩:=hlive k _ hk
  obtain ⟨k0',e1',e2'⟩:=hlive k' _ hk'
  obtain ⟨x,f1,f2⟩:=hobr k L hL
  obtain ⟨x',f1',f2'⟩:=hobr k' L' hL'
  rw [e1] at f1;cases f1
  rw [e1'] at f1';cases f1'
  have:=h1.objNe k0 k0' o o' L L' e2 e2' f2 f2' hn hn' hb
  subst this
  exact hrn.inj k k' k0 e1 e1'
 ·intro k k' b o L hk hk' hL hn
  obtain ⟨k0',e1',e2'⟩:=hlive k' _ hk'
  obtain ⟨x',f1',f2'⟩:=hobr k' L hL
  rw [e1'] at f1';cases f1'
  exact h1.boxObj k k0' b o L (hkey k b hk).1 e2' f2' hn
 ·intro k b hk
  show (if k ∈ bx'.map (·.1) then M1.bx k else none)=_
  rw [if_pos (hpb k b hk),hbx1];exact h.pinB k b hk
 ·intro k L hk
  show (lkA rn k).bind M1.ob=_
  rw [hpo k L hk]
  show M1.ob k=_
  rw [hob1];exact h.pinO k L hk
def pinOk (bx:List (Nat×List PV)) (ob:List (Nat×Option (Bool×Nat×List (List PV)))) (kb:List Nat) (rn:List (Nat×Nat)):Bool :=
 (bx.all fun p=>!Nat.ble 9990 p.1 || kb.any fun k=>Nat.beq k p.1) && ob.all fun p=>!Nat.ble 9990 p.1 || match lkA rn p.1 with | some k0=>Nat.beq k0 p.1 | none=>false
theorem z06 {α:Type}:∀ {l:List (Nat×α)}{k:Nat}{v:α},lkA l k=some v→(k,v) ∈ l
 | [],k,v,h=>by simp [lkA] at h
 | (j,u) :: r,k,v,h=>by
  simp only [lkA] at h
  by_cases e:j=k
  ·subst e;simp at h;simp [h]
  ·rw [zbj e] at h;exact List.mem_cons_of_mem _ (z06 h)
theorem wk_of {c c':CSt} (fz:List (Nat×Bool×Nat×List (List PV))) (rn:List (Nat×Nat)) (hrn:RnOk c fz rn c'.ob) (hbx:∀ k ls',lkA c'.bx k=some ls'→∃ ls,lkA c.bx k=some ls∧WkL (c'.bx.map (·.1)) rn fz ls ls') (htm:WkL (c'.bx.map (·.1)) rn fz c.tm c'.tm) (hpin:pinOk c.bx c.ob (c'.bx.map (·.1)) rn=true):Wk c c':=by
 intro w0 X S0 M a w hr
 unfold pinOk at hpin
 rw [Bool.and_eq_true,List.all_eq_true,List.all_eq_true] at hpin
 obtain ⟨M1,hle,hF,hnew⟩:=HRel.ren (c:=c) (bx':=c'.bx) (ob':=c'.ob) hr.toHRel (fun k b hk=>by
  obtain ⟨ls,hl⟩:=hr.boxKey k b (hr.pinB k b hk)
  have:=hpin.1 _ (z06 hl)
  have hbig:=S0.hb k b hk
  rw [show Nat.ble 9990 k=true from Nat.ble_eq_true_of_le hbig] at this
  simp only [Bool.not_true,Bool.false_or,List.any_eq_true] at this
  obtain ⟨j,hj,e⟩:=this
  have e:j=k:=by simpa using e
  rw [← e];exact hj) (fun k L hk=>by
  obtain ⟨o,hl⟩:=hr.objKey k L (hr.pinO k L hk)
  have:=hpin.2 _ (z06 hl)
  have hbig:=S0.ho k L hk
  rw [show Nat.ble 9990 k=true from Nat.ble_eq_true_of_le hbig] at this
  simp only [Bool.not_true,Bool.false_or] at this
  cases hr2:lkA rn k with
  | none=>rw [hr2] at this;simp at this
  | some k0 =>
   rw [hr2] at this
   have e:k0=k:=by simpa using this
   rw [e]) hrn hbx
 refine ⟨_,hnew,hr.dfr,?_,?_⟩
 ·have:=WkL.length _ _ htm
  show c'.tm.length=_
  rw [← this];exact hr.len
 ·intro t
  exact WkV.sound hF _ _ _ (WkL.get _ _ t htm) (RV.mono hle _ _ (hr.tmp t))
def zg5 (P:Program) (c:CSt):List ResultVar→(List PV→Prop)→Prop
 | [],k=>k []
 | .tmp t :: rs,k=>lkK .bad c.tm t fun p=>zg5 P c rs fun ps=>k (p :: ps)
 | .cell a t :: rs,k=>lkK .bad c.tm a fun p=>match p with
  | .pt key off=>match lkA c.bx key with
   | some ls=>dropK off ls fun sfx=>ldK P t sfx fun v=>zg5 P c rs fun ps=>k (v :: ps)
   | none=>False
  | _=>False
def zf2 (P:Program) (c:CSt) (rs:List ResultVar) (k:PV→Prop):Prop :=
 zg5 P c rs fun ps=>match ps with
  | [p]=>k p
  | ps=>k (.tu ps)
def osL (n:Nat):List (Nat×List (List PV))→List (Nat×Option (Bool×Nat×List (List PV)))
 | []=>[]
 | (sz,rows) :: os=>(n,some (false,sz,rows)) :: osL (n+1) os
theorem znz:∀ (os:List (Nat×List (List PV))) (n k:Nat),lkA (osL n os) k=if n≤k then (os[k - n]?).map (fun q=>some (false,q.1,q.2)) else none
 | [],n,k=>by simp [osL,lkA]
 | (sz,rows) :: os,n,k=>by
  simp only [osL,lkA]
  by_cases e:n=k
  ·subst e;simp
  ·rw [zbj e]
   simp only [cond_false]
   rw [znz os (n+1) k]
   by_cases hle:n≤k
   ·rw [if_pos hle,if_pos (by omega),show k - n=(k - (n+1))+1 by omega];simp
   ·rw [if_neg hle,if_neg (by omega)]
structure ExitOk (c:CSt) (p r:PV) (os:List (Nat×List (List PV))):Prop where
 ok:(∃ fz rn,RnOk c fz rn (osL 0 os)∧WkV [] rn fz p r)∨(p=.nl∧∃ sz,r=.ow 0 0 0∧os=[(sz,[])])
def exitQ (P:Program) (rs:List ResultVar) (r:PV) (os:List (Nat×List (List PV))) (e:Exit) (c:CSt):Prop :=
 match e with
 | .ret=>zf2 P c rs fun p=>ExitOk c p r os
 | .normal=>zf2 P c rs fun p=>ExitOk c p r os
 | _=>False
theorem zd3 {P : Program} {w0 : World} {X : Nat → Prop} {S0 : Base} {M : Mem} {c : CSt} {a : Act} {w : World} (hr : Rel w0 X S0 M c.st a w) (F : ResultVar → Sem Value) (hF1 : ∀ t, F (.tmp t) = pure (a.tmps.getD t undef)) (hF2 : ∀ ad t, F (.cell ad t) = do loadVar t (← asAddr (a.tmps.getD ad undef))) :
    ∀ {rs:List ResultVar}{k:List PV→Prop},zg5 P c rs k→∃ ps vs,RVL M w ps vs∧(rs.mapM F).run P w=.ok vs w∧k ps
 | [],k,h=>⟨[],[],by simp [RVL],by simp,h⟩
 | .tmp t :: rs,k,h=>by
  simp only [zg5,zni] at h
  obtain ⟨ps,vs,h1,h2,h3⟩:=zd3 hr F hF1 hF2 h
  refine ⟨_,_,by simp only [RVL];exact ⟨_,vs,rfl,hr.tmp t,h1⟩,?_,h3⟩
  rw [List.mapM_cons]
  simp only [hF1,Sem.run_bind,Sem.run_pure,Result.andThen_ok,h2]
 | .cell ad t :: rs,k,h=>by
  simp only [zg5,zni] at h
  split at h
  ·rename_i key off hx
   split at h
   ·rename_i ls hk
    rw [zdq] at h
    obtain ⟨d,inf,p,g1,g2,g3,h⟩:=zep h
    obtain ⟨ps,vs,h1,h2,h3⟩:=zd3 hr F hF1 hF2 h
    have hv:=hr.tmp ad
    have hx':c.st.tmps.getD ad .bad=.pt key off:=hx
    rw [hx'] at hv
    simp only [RV] at hv
    obtain ⟨b,hb,hv⟩:=hv
    obtain ⟨_,T,cs,hh,hcs⟩:=hr.toHRel.box' hk hb
    have hc:Cells w b (0+off) (cs.toList.drop off):=(Cells.of_block hh).drop off
    rw [Nat.zero_add] at hc
    obtain ⟨v,h4,h5⟩:=zfe (P:=P) g1 g2 hc (hcs.drop off) g3
    refine ⟨_,_,by simp only [RVL];exact ⟨v,vs,rfl,h5,h1⟩,?_,h3⟩
    rw [List.mapM_cons]
    have ea:(asAddr (.pointer (some ⟨b,off,none⟩))).run P w=.ok ⟨b,off,none⟩ w:=rfl
    simp only [hF2,hv,Sem.run_bind,Sem.run_pure,Result.andThen_ok,ea,h4,h2]
   ·exact h.elim
  ·exact h.elim
theorem zgu {P : Program} {fn : Func} {w0 : World} {st : Nat → Prop} {M : Mem} {c : CSt} {a : Act} {w : World} {r : PV} {os : List (Nat × List (List PV))} (hr : Rel w0 (fun _ => False) (Base.of st) M c.st a w) (h : zf2 P c fn.results.toList fun p => ExitOk c p r os) :
    ∃ v,(results fn a.tmps).run P w=.ok v w∧∃ M',RV M' w r v∧HRel w0 (fun _=>False) (Base.of st) M' (fun _=>none) (osMap os) w:=by
 unfold zf2 at h
 obtain ⟨F,hF,hF1,hF2⟩:∃ F:ResultVar→Sem Value,results fn a.tmps=(do let vs ← fn.results.mapM F;pure (if h:vs.size=1 then vs[0] else .tuple vs))∧(∀ t,F (.tmp t)=pure (a.tmps.getD t undef))∧(∀ ad t,F (.cell ad t)=do loadVar t (← asAddr (a.tmps.getD ad undef))):=⟨_,rfl,fun _=>rfl,fun _ _=>rfl⟩
 obtain ⟨ps,vs,h1,h2,h3⟩:=zd3 hr F hF1 hF2 h
 have hlen:=h1.length
 have hres:(results fn a.tmps).run P w=.ok (if h:vs.length=1 then vs[0] else .tuple vs.toArray) w:=by
  rw [hF,Array.mapM_eq_mapM_toList]
  simp only [Sem.run_bind,Sem.run_map,h2]
  simp
 have fin:∀ p,ExitOk c p r os→∀ v,RV M w p v→∃ M',RV M' w r v∧HRel w0 (fun _=>False) (Base.of st) M' (fun _=>none) (osMap os) w:=by
  rintro p ⟨hok⟩ v hv
  rcases hok with ⟨fz,rn,hrn,hwk⟩ | ⟨rfl,sz,rfl,rfl⟩
  case inr =>
   obtain ⟨M1,hle,hF,hnew⟩:=HRel.ren (c:=c) (fz:=[]) (rn:=[]) (bx':=[]) (ob':=[]) hr.toHRel (fun _ _ h=>by cases h) (fun _ _ h=>by cases h) ⟨by simp,by simp [lkA],by simp [lkA],by simp [lkA]⟩ (by simp [lkA])
   obtain ⟨M2,h2,hle2,hob2⟩:=hnew.addObj (k:=0) (by simp [lkA]) ⟨0,sz,0,true⟩ (rows:=[]) (.inl ⟨rfl,rfl⟩) (fun _ _ _ h=>by cases h) (fun _ _ _ _ _ _ h=>by cases h)
   refine ⟨M2,?_,?_⟩
   ·simp only [RV] at hv ⊢
    obtain ⟨ad,hv⟩:=hv
    exact ⟨_,hob2,.inl ⟨rfl,rfl,ad,hv⟩⟩
   ·have e1 : upd (lkA ([] : List (Nat × Option (Bool × Nat × List (List PV))))) [(0, some (false, sz, []))] = osMap [(sz, [])] := by
      funext k
      rw [zaz]
      by_cases hk:k=0
      ·subst hk;rfl
      ·rw [if_neg hk]
       cases k with
       | zero=>exact absurd rfl hk
       | succ k=>simp [lkA,osMap]
    have e2:(lkA ([]:List (Nat×List PV)))=fun _=>none:=by funext k;rfl
    rw [← e1,← e2]
    exact h2
  obtain ⟨M1,hle,hF,hnew⟩:=HRel.ren (c:=c) (bx':=[]) (ob':=osL 0 os) hr.toHRel (fun _ _ h=>by cases h) (fun _ _ h=>by cases h) hrn (by simp [lkA])
  refine ⟨_,WkV.sound hF _ _ _ hwk (RV.mono hle _ _ hv),?_⟩
  have e1:lkA (osL 0 os)=osMap os:=by
   funext k
   rw [znz]
   simp only [Nat.zero_le,if_true,Nat.sub_zero,osMap]
   cases os[k]?<;>rfl
  have e2:(lkA ([]:List (Nat×List PV)))=fun _=>none:=by funext k;rfl
  rw [e1,e2] at hnew
  exact hnew
 split at h3
 ·rename_i p
  simp only [RVL] at h1
  obtain ⟨v,rr,rfl,h4,rfl⟩:=h1
  refine ⟨v,by rw [hres];simp,fin p h3 v h4⟩
 ·rename_i ps hne
  have hl1:vs.length ≠ 1:=by
   rw [hlen]
   intro e
   obtain ⟨p,rfl⟩:=List.length_eq_one_iff.1 e
   exact hne p rfl
  refine ⟨.tuple vs.toArray,by rw [hres,dif_neg hl1],fin _ h3 _ ?_⟩
  simp only [RV]
  exact ⟨vs.toArray,rfl,by simpa using h1⟩
theorem zb4 {P : Program} (hm : P.follows .mixedOrders = true) {f : Nat} {fn : Func} {code : Code} {args : List PV} {r : PV} {os : List (Nat × List (List PV))} (hf : P.funcs[f]? = some fn) (hb : fn.body = some code) (hname : (fn.name == "runtime.NumGoroutine") = false) (hok : zb0 code = true)
    (h:pwp P code ⟨args++List.replicate (fn.ntmps - args.length) .bad,[],[]⟩ (exitQ P fn.results.toList r os)):Ctr P f args r os:=by
 refine ⟨?_⟩
 intro w st vs hst hvs
 left
 refine ⟨by simp [callFunc,hf,hb];simpa using hname,?_⟩
 refine calls_of_wp hf hb ?_
 have hlen:=hvs.length
 have hrel:Rel w (fun _=>False) (Base.of st) (zbp st) (CSt.st ⟨args++List.replicate (fn.ntmps - args.length) .bad,[],[]⟩) { tmps:=vs.toArray++Array.replicate (fn.ntmps - vs.toArray.size) undef,defers:=[] } w:=by
  refine ⟨{ os:=rfl,tape:=rfl,out:=rfl,size:=Nat.le_refl _,kept:=fun _ _ _=>rfl,stlt:=hst,stok:=fun b hb=>.inl hb,box:=?_,boxKey:=?_,obj:=?_,objKey:=?_,boxNe:=?_,objNe:=?_,boxObj:=?_,pinB:=?_,pinO:=?_,nwok:=(fun _ h=>h.elim),c00:=⟨fun _ h=>.inl h,fun _ h=>h.elim⟩ },rfl,?_,?_⟩
  ·intro k ls hk;cases hk
  ·intro k b hk;cases hk
  ·intro k a b c hk;cases hk
  ·intro k L hk;cases hk
  ·intro k k' b hk;cases hk
  ·intro k k' o o' L L' hk;cases hk
  ·intro k k' b o L hk;cases hk
  ·intro k b hk;cases hk
  ·intro k b hk;cases hk
  ·simp [CSt.st,hlen]
  ·intro t
   simp only [CSt.st]
   rw [List.getD_eq_getElem?_getD,Array.getD_eq_getD_getElem?,List.getElem?_append,Array.getElem?_append]
   by_cases ht:t < args.length
   ·rw [if_pos ht,if_pos (by simp;omega)]
    obtain ⟨c,hc,hv⟩:=hvs.get t (p:=args[t]) (by simp [ht])
    simp [ht,hc]
    exact hv
   ·rw [if_neg ht]
    rw [List.getElem?_replicate]
    split<;>simp [RV]
 refine wp_mono ((zb2 hm code _ _ hok h).run w (fun _=>False) (Base.of st) (zbp st) _ w hrel) ?_
 rintro e a' w' ⟨c',M',hr',hq⟩
 cases e with
 | ret =>
  obtain ⟨v,h1,M'',h2,h3⟩:=zgu (fn:=fn) hr' hq
  exact ⟨hr'.dfr,v,h1,v,M'',rfl,h2,h3⟩
 | normal =>
  obtain ⟨v,h1,M'',h2,h3⟩:=zgu (fn:=fn) hr' hq
  exact ⟨hr'.dfr,v,h1,v,M'',rfl,h2,h3⟩
 | exit i=>exact hq.elim
 | goto i=>exact hq.elim
 | panic ch=>exact hq.elim
 | outgrown=>exact hq.elim
end Go.Pv
