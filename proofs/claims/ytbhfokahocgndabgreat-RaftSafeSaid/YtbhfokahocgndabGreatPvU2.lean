import Derived.Test.YtbhfokahocgndabGreatPvU
/-
  Calls that answer new memory: what they are shown stays the caller's own, what they answer nobody else holds. Generic over the program.
-/
set_option linter.unusedSimpArgs false
set_option linter.unusedVariables false
namespace Go.Pv
def isSc:PV→Bool
 | .sc _=>true
 | _=>false
def ScR (rows:List (List PV)):Prop:=∀ r ∈ rows,r.all isSc=true
theorem RVL.sc {M M':Mem}{w w':World}:∀ {ps:List PV}{cs:List Value},ps.all isSc=true→RVL M w ps cs→RVL M' w' ps cs
 | [],cs,_,h=>by simpa [RVL] using h
 | p :: ps,cs,hp,h=>by
  simp only [List.all_cons,Bool.and_eq_true] at hp
  simp only [RVL] at h ⊢
  obtain ⟨c,r,e,h1,h2⟩:=h
  refine ⟨c,r,e,?_,RVL.sc hp.2 h2⟩
  cases p<;>simp [isSc] at hp
  simpa [RV] using h1
theorem RVR.sc {M M':Mem}{w w':World}{sz:Nat}:∀ {rows:List (List PV)}{cs:List Value},ScR rows→RVR M w sz rows cs→RVR M' w' sz rows cs
 | [],cs,_,_=>by simp [RVR]
 | r :: rs,cs,hp,h=>by
  simp only [RVR] at h ⊢
  obtain ⟨c1,c2,e,hl,h1,h2⟩:=h
  exact ⟨c1,c2,e,hl,RVL.sc (hp r (by simp)) h1,RVR.sc (fun x hx=>hp x (by simp [hx])) h2⟩
def Mem.un (M:Mem):Mem:=⟨fun b=>M.st b∨M.nw b,M.bx,M.ob,fun _=>False⟩
mutual
def unf:PV→PV
 | .fs sz rows=>.sl sz rows
 | .ag ps=>.ag (unfL ps)
 | .tu ps=>.tu (unfL ps)
 | .cl f ps=>.cl f (unfL ps)
 | .cm f ps=>.cm f (unfL ps)
 | .sc v=>.sc v
 | .sl sz rows=>.sl sz rows
 | .nl=>.nl
 | .ow k lo len=>.ow k lo len
 | .pt k off=>.pt k off
 | .ep sfx=>.ep sfx
 | .eo k i off=>.eo k i off
 | .ub φ=>.ub φ
 | .nn kd=>.nn kd
 | .bs k off len=>.bs k off len
 | .ls ..=>.bad
 | .lp ..=>.bad
 | .bad=>.bad
def unfL:List PV→List PV
 | []=>[]
 | p :: ps=>unf p :: unfL ps
end
theorem un_cl (M:Mem) (w:World):M.cl.Le M.un.cl w w:=⟨fun _ h=>.inl h,(fun _ _ h=>by cases h),(fun _ _ h=>by cases h),(fun _ _=>rfl),(fun _ h=>h.elim),(fun _ h=>h.elim)⟩
theorem cf_un (M:Mem) (w:World):M.cf.Le M.un.cl w w:=⟨fun _ h=>.inr h,(fun _ _ h=>by cases h),(fun _ _ h=>by cases h),(fun _ _=>rfl),(fun _ h=>h.elim),(fun _ h=>h.elim)⟩
mutual
theorem RV.unf {M:Mem}{w:World}:∀ (p:PV) (v:Value),RV M w p v→RV M.un w (Pv.unf p) v
 | .fs sz rows,v,hv=>by
  simp only [RV,Pv.unf] at hv ⊢
  obtain ⟨a,n,c,e,hn,hc,r⟩:=hv
  refine ⟨a,n,c,e,hn,hc,?_⟩
  rcases r with r | ⟨b,off,cs,ha,hs,hcl,hr⟩
  ·exact .inl r
  ·exact .inr ⟨b,off,cs,ha,.inr hs,hcl,RVR.mono (cf_un M w) sz rows _ hr⟩
 | .ag ps,v,hv=>by
  simp only [RV,Pv.unf] at hv ⊢
  obtain ⟨cs,e,r⟩:=hv
  exact ⟨cs,e,RVL.unf ps _ r⟩
 | .tu ps,v,hv=>by
  simp only [RV,Pv.unf] at hv ⊢
  obtain ⟨cs,e,r⟩:=hv
  exact ⟨cs,e,RVL.unf ps _ r⟩
 | .cl f ps,v,hv=>by
  simp only [RV,Pv.unf] at hv ⊢
  obtain ⟨cs,e,r⟩:=hv
  exact ⟨cs,e,RVL.unf ps _ r⟩
 | .cm f ps,v,hv=>by
  simp only [RV,Pv.unf] at hv ⊢
  obtain ⟨cs,e,r⟩:=hv
  exact ⟨cs,e,RVL.unf ps _ r⟩
 | .sc x,v,hv=>by simpa [RV,Pv.unf] using hv
 | .sl sz rows,v,hv=>by
  simp only [RV,Pv.unf] at hv ⊢
  obtain ⟨a,n,c,e,hn,hc,r⟩:=hv
  refine ⟨a,n,c,e,hn,hc,?_⟩
  rcases r with r | ⟨b,off,cs,ha,hs,hcl,hr⟩
  ·exact .inl r
  ·exact .inr ⟨b,off,cs,ha,.inl hs,hcl,RVR.mono (un_cl M w) sz rows _ hr⟩
 | .nl,v,hv=>by simpa [RV,Pv.unf] using hv
 | .ow k lo len,v,hv=>by simp only [RV,Pv.unf] at hv ⊢;exact hv
 | .pt k off,v,hv=>by simp only [RV,Pv.unf] at hv ⊢;exact hv
 | .bs k off len,v,hv=>by simp only [RV,Pv.unf] at hv ⊢;exact hv
 | .ep sfx,v,hv=>by
  simp only [RV,Pv.unf] at hv ⊢
  obtain ⟨b,off,cs,e,hs,hcl,hr⟩:=hv
  exact ⟨b,off,cs,e,.inl hs,hcl,RVL.mono (un_cl M w) sfx _ hr⟩
 | .eo k i off,v,hv=>by simp only [RV,Pv.unf] at hv ⊢;exact hv
 | .ub φ,v,hv=>by simp only [RV,Pv.unf] at hv ⊢;exact hv
 | .nn kd,v,hv=>by simp only [RV,Pv.unf] at hv ⊢;exact hv
 | .ls ..,v,hv=>by simp [RV,Pv.unf]
 | .lp ..,v,hv=>by simp [RV,Pv.unf]
 | .bad,v,hv=>by simp [RV,Pv.unf]
theorem RVL.unf {M:Mem}{w:World}:∀ (ps:List PV) (cs:List Value),RVL M w ps cs→RVL M.un w (unfL ps) cs
 | [],cs,hv=>by simpa [RVL,unfL] using hv
 | p :: ps,cs,hv=>by
  simp only [RVL,unfL] at hv ⊢
  obtain ⟨c,r,e,h1,h2⟩:=hv
  exact ⟨c,r,e,RV.unf p c h1,RVL.unf ps r h2⟩
end
section
variable {w0:World}{X:Nat→Prop}{S0:Base}{M:Mem}{B:BMap}{O:OMap}{w:World}
theorem HRel.un (h:HRel w0 X S0 M B O w):HRel w0 X S0 M.un (fun k=>(B k).map unfL) O w where
 os:=h.os
 tape:=h.tape
 out:=h.out
 size:=h.size
 kept:=h.kept
 stlt:=h.snlt
 stok:=fun b hb=>hb.elim (h.stok b) fun x=>.inr (h.nwok b x).2.1
 box:=fun k ls hk=>by
  cases hB:B k with
  | none=>rw [hB] at hk;cases hk
  | some l =>
   rw [hB] at hk;cases hk
   obtain ⟨b,T,cs,h1,h2,h3,h4⟩:=h.box k l hB
   exact ⟨b,T,cs,h1,⟨h2.1,fun hs=>h2.2 (hs.resolve_right id)⟩,h3,RVL.unf _ _ h4⟩
 boxKey:=fun k b hk=>by
  obtain ⟨ls,hl⟩:=h.boxKey k b hk
  exact ⟨unfL ls,by rw [hl];rfl⟩
 obj:=fun k fz sz rows hk=>by
  obtain ⟨L,h1,h2,h3⟩:=h.obj k fz sz rows hk
  refine ⟨L,h1,h2,?_⟩
  rcases h3 with h3 | ⟨h3,hf,ho,c,E,h5,h6,h7,h8,h9⟩
  ·exact .inl h3
  ·exact .inr ⟨h3,fun e=>.inl (hf e),fun e=>⟨(ho e).1,fun hs=>(ho e).2 (hs.resolve_right id)⟩,c,E,h5,h6,h7,h8,RVR.mono (un_cl M w) _ _ _ h9⟩
 objKey:=h.objKey
 boxNe:=h.boxNe
 objNe:=h.objNe
 boxObj:=h.boxObj
 pinB:=h.pinB
 pinO:=h.pinO
 nwok:=fun _ hb=>hb.elim
 c00:=⟨fun b hb=>hb.elim (h.c00.1 b) fun x=>.inr (h.c00.2 b x),fun _ hb=>hb.elim⟩
theorem HRel.addNw' (h : HRel w0 X S0 M B O w) {w' : World} (h' : HRel w0 X S0 M B O w') (hle0 : M.Le M w w') {N : Nat → Prop} (hN : ∀ b, N b → b < w'.heap.size ∧ (w.heap.size ≤ b ∨ M.nw b)) (hN0 : ∀ b, N b → C00 w' b) :
    HRel w0 X S0 ⟨M.st,M.bx,M.ob,fun b=>M.nw b∨N b⟩ B O w'∧M.Le ⟨M.st,M.bx,M.ob,fun b=>M.nw b∨N b⟩ w w':=by
 have hle:M.Le ⟨M.st,M.bx,M.ob,fun b=>M.nw b∨N b⟩ w' w':=⟨fun _ h=>h,fun _ _ h=>h,fun _ _ h=>h,fun _ _=>rfl,fun _ h=>.inl h,fun _ _=>rfl⟩
 refine ⟨{ os:=h'.os,tape:=h'.tape,out:=h'.out,size:=h'.size,kept:=h'.kept,stlt:=h'.stlt,stok:=h'.stok,box:=?_,boxKey:=h'.boxKey,obj:=?_,objKey:=h'.objKey,boxNe:=h'.boxNe,objNe:=h'.objNe,boxObj:=h'.boxObj,pinB:=h'.pinB,pinO:=h'.pinO,nwok:=?_,c00:=⟨h'.c00.1,fun b hb=>hb.elim (h'.c00.2 b) (hN0 b)⟩ },hle0.trans hle⟩
 ·intro k ls hk
  obtain ⟨b,T,cs,h1,h2,h3,h4⟩:=h.box k ls hk
  obtain ⟨b',T',cs',g1,g2,g3,g4⟩:=h'.box k ls hk
  rw [h1] at g1;cases g1
  refine ⟨b,T',cs',h1,⟨g2.1,?_⟩,g3,RVL.mono hle _ _ g4⟩
  rintro (hs | hs | hs)
  ·exact g2.2 (.inl hs)
  ·exact g2.2 (.inr hs)
  ·rcases (hN b hs).2 with x | x
   ·have:=zag h3;omega
   ·exact g2.2 (.inr x)
 ·intro k fz sz rows hk
  obtain ⟨L,h1,h2,h3⟩:=h.obj k fz sz rows hk
  obtain ⟨_,g3⟩:=h'.obj' hk h1
  refine ⟨L,h1,h2,?_⟩
  rcases h3 with h3 | ⟨h3,_,ho,_,_,h5,_⟩
  ·exact .inl h3
  ·rcases g3 with ⟨e,_⟩ | ⟨_,gf,go,c,E,g5,g6,g7,g8,g9⟩
   ·rw [h3] at e;cases e
   refine .inr ⟨h3,gf,fun e=>⟨(go e).1,?_⟩,c,E,g5,g6,g7,g8,RVR.mono hle.cl _ _ _ g9⟩
   rintro (hs | hs | hs)
   ·exact (ho e).2 (.inl hs)
   ·exact (ho e).2 (.inr hs)
   ·rcases (hN _ hs).2 with x | x
    ·have:=zag h5;omega
    ·exact (ho e).2 (.inr x)
 ·rintro b (hb | hb)
  ·exact h'.nwok b hb
  ·obtain ⟨a1,a2⟩:=hN b hb
   rcases a2 with a2 | a2
   ·exact ⟨a1,.inl (Nat.le_trans h.size a2),fun hs=>by have:=h.stlt b hs;omega⟩
   ·exact h'.nwok b a2
theorem HRel.addNw (h : HRel w0 X S0 M B O w) {w' : World} (ho : w'.os = w.os) (ht : w'.tape = w.tape) (hu : w'.output = w.output) (hz : w.heap.size ≤ w'.heap.size) (hh : ∀ b, b < w.heap.size → w'.heap[b]? = w.heap[b]?) {N : Nat → Prop} (hN : ∀ b, N b → b < w'.heap.size ∧ (w.heap.size ≤ b ∨ M.nw b)) (hN0 : ∀ b, N b → C00 w' b) :
    HRel w0 X S0 ⟨M.st,M.bx,M.ob,fun b=>M.nw b∨N b⟩ B O w'∧M.Le ⟨M.st,M.bx,M.ob,fun b=>M.nw b∨N b⟩ w w' :=
 have hle0:M.Le M w w':=⟨fun _ h=>h,fun _ _ h=>h,fun _ _ h=>h,fun b hb=>hh b (h.stlt b hb),fun _ h=>h,fun b hb=>hh b (h.nwok b hb).1⟩
 h.addNw' (h.world hle0 ho ht hu hz hh) hle0 hN hN0
end
mutual
def scOw:PV→Bool
 | .sc _=>true
 | .nl=>true
 | .ow _ _ _=>true
 | .ag ps=>scOwL ps
 | .tu ps=>scOwL ps
 | _=>false
def scOwL:List PV→Bool
 | []=>true
 | p :: ps=>scOw p && scOwL ps
end
mutual
theorem RV.bare {M:Mem}{st nw:Nat→Prop}{bx:Nat→Option Nat}{w:World}:∀ (p:PV) (v:Value),scOw p=true→RV M w p v→RV ⟨st,bx,M.ob,nw⟩ w p v
 | .sc x,v,_,hv=>by simpa [RV] using hv
 | .nl,v,_,hv=>by simpa [RV] using hv
 | .ow k lo len,v,_,hv=>by simp only [RV] at hv ⊢;exact hv
 | .ag ps,v,h,hv=>by
  simp only [RV,scOw] at hv h ⊢
  obtain ⟨cs,e,r⟩:=hv
  exact ⟨cs,e,RVL.bare ps _ h r⟩
 | .tu ps,v,h,hv=>by
  simp only [RV,scOw] at hv h ⊢
  obtain ⟨cs,e,r⟩:=hv
  exact ⟨cs,e,RVL.bare ps _ h r⟩
 | .cl ..,v,h,_=>by simp [scOw] at h
 | .cm ..,v,h,_=>by simp [scOw] at h
 | .sl ..,v,h,_=>by simp [scOw] at h
 | .pt ..,v,h,_=>by simp [scOw] at h
 | .ep ..,v,h,_=>by simp [scOw] at h
 | .eo ..,v,h,_=>by simp [scOw] at h
 | .ub ..,v,h,_=>by simp [scOw] at h
 | .nn ..,v,h,_=>by simp [scOw] at h
 | .bs ..,v,h,_=>by simp [scOw] at h
 | .ls ..,v,h,_=>by simp [scOw] at h
 | .lp ..,v,h,_=>by simp [scOw] at h
 | .fs ..,v,h,_=>by simp [scOw] at h
 | .bad,v,h,_=>by simp [scOw] at h
theorem RVL.bare {M:Mem}{st nw:Nat→Prop}{bx:Nat→Option Nat}{w:World}:∀ (ps:List PV) (cs:List Value),scOwL ps=true→RVL M w ps cs→RVL ⟨st,bx,M.ob,nw⟩ w ps cs
 | [],cs,_,hv=>by simpa [RVL] using hv
 | p :: ps,cs,h,hv=>by
  simp only [scOwL,Bool.and_eq_true] at h
  simp only [RVL] at hv ⊢
  obtain ⟨c,r,e,h1,h2⟩:=hv
  exact ⟨c,r,e,RV.bare p c h.1 h1,RVL.bare ps r h.2 h2⟩
end
theorem zvd {os:List (Nat×List (List PV))}{k:Nat}{fz:Bool}{sz:Nat}{rows:List (List PV)} (h:osMap os k=some (some (fz,sz,rows))):fz=false∧os[k]?=some (sz,rows):=by
 unfold osMap at h
 cases hq:os[k]? with
 | none=>rw [hq] at h;cases h
 | some q=>rw [hq] at h;simp only [Option.some.injEq,Prod.mk.injEq] at h;obtain ⟨rfl,rfl,rfl⟩:=h;exact ⟨rfl,rfl⟩
theorem HRel.bare {w w' : World} {S1 : Nat → Prop} {M' : Mem} {os : List (Nat × List (List PV))} (h : HRel w (fun _ => False) (Base.of S1) M' (fun _ => none) (osMap os) w') (hos : ∀ q ∈ os, ScR q.2) :
    HRel w (fun _=>False) (Base.of fun _=>False) ⟨fun _=>False,fun _=>none,M'.ob,fun _=>False⟩ (fun _=>none) (osMap os) w' where
 os:=h.os
 tape:=h.tape
 out:=h.out
 size:=h.size
 kept:=h.kept
 stlt:=fun _ h=>h.elim
 stok:=fun _ h=>h.elim
 box:=fun k ls hk=>by cases hk
 boxKey:=fun k b hk=>by cases hk
 obj:=fun k fz sz rows hk=>by
  obtain ⟨L,h1,h2,h3⟩:=h.obj k fz sz rows hk
  obtain ⟨e0,hq⟩:=zvd hk
  refine ⟨L,h1,h2,?_⟩
  rcases h3 with h3 | ⟨h3,hf,ho,c,E,h5,h6,h7,h8,h9⟩
  ·exact .inl h3
  ·exact .inr ⟨h3,(fun e=>by rw [e0] at e;cases e),fun e=>⟨(ho e).1,fun hs=>hs.elim id id⟩,c,E,h5,h6,h7,h8,RVR.sc (hos _ (List.mem_of_getElem? hq)) h9⟩
 objKey:=h.objKey
 boxNe:=fun _ _ _ hk=>by cases hk
 objNe:=h.objNe
 boxObj:=fun _ _ _ _ _ hk=>by cases hk
 pinB:=fun _ _ hk=>by cases hk
 pinO:=fun _ _ hk=>by cases hk
 nwok:=fun _ h=>h.elim
 c00:=⟨fun _ h=>h.elim,fun _ h=>h.elim⟩
theorem z2x {P : Program} {o : Oper} {ts : List PV} {c : Call} {f n : Nat} {ps qs : List PV} {r : PV} {os : List (Nat × List (List PV))} {ro : List (Nat × Bool × Nat × List (List PV))} (ho : o.op = .call c) (hc : callee ts c.callee c.args.toList = some (f, ps)) (hres : ResL [] ro (unfL ps) qs) (hspec : Ctr P f qs r os)
    (hsc:scOw r=true) (hos:∀ q ∈ os,ScR q.2):OpSem P o ⟨shift n r,[],ro,[],(List.range os.length).map (n+·),[],zcs n os⟩ ts:=by
 intro w0 X S0 M s a w Q K hr hl hs hk
 obtain ⟨vs,hvs,hrun⟩:=zdc (P:=P) hr ho hl hc
 have hu:=hr.toHRel.un
 have hq:=ResL.sound hu (rb:=[]) (by simp) hs.2.1 _ qs vs hres (RVL.unf _ _ hvs)
 have hS:=hspec.run w (shown M.un [] ro) vs (zj0 hu (rb:=[]) (by simp) hs.2.1) hq
 unfold Oper.wp
 rw [hrun]
 have hfree:∀ k,n≤k→k < n+os.length→s.O k=none:=fun k h1 h2=>hs.2.2.2 k (List.mem_map.2 ⟨k - n,List.mem_range.2 (by omega),by omega⟩)
 have fin:∀ e w',(∃ v M',e=Ending.returned v∧RV M' w' r v∧HRel w (fun _=>False) (Base.of (shown M.un [] ro)) M' (fun _=>none) (osMap os) w')→∃ v,e=.returned v∧K (a.put o.dst v) w':=by
  rintro e w' ⟨v,M',he,hrv,hrel⟩
  obtain ⟨M'',hm,hle,hsh⟩:=hr.toHRel.merge (hrel.bare hos) (fun _ h=>h.elim) n hfree
  refine ⟨v,he,hk M'' _ _ ?_⟩
  have hr':Rel w0 X S0 M'' ⟨s.tmps,s.B,upd s.O (zcs n os)⟩ a w':=⟨hm,hr.dfr,hr.len,fun t=>RV.mono hle _ _ (hr.tmp t)⟩
  have:=zbq hr' o.dst (RV.shift hsh r v (RV.bare r v hsc hrv))
  simpa [St.apply,zbv] using this
 rcases hS with ⟨h1,h2⟩ | ⟨v,w',h1,h2⟩
 ·rw [h1,Oper.upon_enter]
  refine h2.mono ?_
  intro e w' he
  obtain ⟨v,rfl,hK⟩:=fin e w' he
  exact hK
 ·rw [h1,Oper.upon_value]
  obtain ⟨v',e,hK⟩:=fin _ w' h2
  cases e
  exact hK
structure CtrN (P:Program) (f:Nat) (args:List PV) (r:PV):Prop where
 run:∀ (w:World) (st:Nat→Prop) (vs:List Value),(∀ b,st b→b < w.heap.size)→RVL (zbp st) w args vs →
  Runs P f vs.toArray w fun e w'=>∃ v M',e=.returned v∧RV M' w' r v∧HRel w (fun _=>False) (Base.of fun _=>False) M' (fun _=>none) (osMap []) w'
mutual
def OwSl (os:List (Nat×List (List PV))):PV→PV→Prop
 | .sc v,q=>q=.sc v
 | .nl,q=>q=.nl
 | .ow k lo len,q=>∃ sz rows,os[k]?=some (sz,rows)∧lo=0∧len=rows.length∧q=.sl sz rows
 | .ag ps,q=>∃ qs,q=.ag qs∧OwSlL os ps qs
 | .tu ps,q=>∃ qs,q=.tu qs∧OwSlL os ps qs
 | _,_=>False
def OwSlL (os:List (Nat×List (List PV))):List PV→List PV→Prop
 | [],qs=>qs=[]
 | p :: ps,qs=>∃ q r,qs=q :: r∧OwSl os p q∧OwSlL os ps r
end
section
variable {os:List (Nat×List (List PV))}{w w':World}{S1:Nat→Prop}{M':Mem}
def newB (M':Mem) (os:List (Nat×List (List PV))) (b:Nat):Prop:=∃ k q L,os[k]?=some q∧M'.ob k=some L∧L.nil=false∧L.b=b
mutual
theorem OwSl.sound (h:HRel w (fun _=>False) (Base.of S1) M' (fun _=>none) (osMap os) w') (hos:∀ q ∈ os,ScR q.2):∀ (p q:PV) (v:Value),OwSl os p q→RV M' w' p v→RV (zbp (newB M' os)) w' q v
 | .sc x,q,v,hr,hv=>by simp only [OwSl] at hr;subst hr;simpa [RV] using hv
 | .nl,q,v,hr,hv=>by simp only [OwSl] at hr;subst hr;simpa [RV] using hv
 | .ow k lo len,q,v,hr,hv=>by
  simp only [OwSl] at hr
  obtain ⟨sz,rows,hk,rfl,rfl,rfl⟩:=hr
  simp only [RV] at hv ⊢
  obtain ⟨L,hL,hc⟩:=hv
  obtain ⟨hs,ho⟩:=h.obj' (k:=k) (fz:=false) (sz:=sz) (rows:=rows) (by simp [osMap,hk]) hL
  rcases hc with ⟨hn,hl,a,rfl⟩ | ⟨hn,hcap,a,rfl,ha⟩
  ·have:rows=[]:=List.eq_nil_of_length_eq_zero hl
   subst this
   exact ⟨a,0,0,rfl,rfl,Nat.le_refl _,.inl rfl⟩
  ·refine ⟨a,_,_,rfl,rfl,by omega,?_⟩
   rcases ho with ⟨e,_⟩ | ⟨_,_,_,cs,E,hh,hsz,hlen,hm,hR⟩
   ·rw [hn] at e;cases e
   ·by_cases h0:rows=[]
    ·exact .inl h0
    ·have:0 < rows.length:=List.length_pos_iff.2 h0
     exact .inr ⟨L.b,0,cs.toList,by rw [ha (by omega)];simp,⟨k,_,L,hk,hL,hn,rfl⟩,Cells.of_block hh,RVR.sc (hos _ (List.mem_of_getElem? hk)) hR⟩
 | .ag ps,q,v,hr,hv=>by
  simp only [OwSl] at hr
  obtain ⟨qs,rfl,hr⟩:=hr
  simp only [RV] at hv ⊢
  obtain ⟨cs,e,r⟩:=hv
  exact ⟨cs,e,OwSlL.sound h hos ps qs _ hr r⟩
 | .tu ps,q,v,hr,hv=>by
  simp only [OwSl] at hr
  obtain ⟨qs,rfl,hr⟩:=hr
  simp only [RV] at hv ⊢
  obtain ⟨cs,e,r⟩:=hv
  exact ⟨cs,e,OwSlL.sound h hos ps qs _ hr r⟩
 | .cl ..,q,v,h,_=>by simp [OwSl] at h
 | .cm ..,q,v,h,_=>by simp [OwSl] at h
 | .sl ..,q,v,h,_=>by simp [OwSl] at h
 | .pt ..,q,v,h,_=>by simp [OwSl] at h
 | .ep ..,q,v,h,_=>by simp [OwSl] at h
 | .eo ..,q,v,h,_=>by simp [OwSl] at h
 | .ub ..,q,v,h,_=>by simp [OwSl] at h
 | .nn ..,q,v,h,_=>by simp [OwSl] at h
 | .bs ..,q,v,h,_=>by simp [OwSl] at h
 | .ls ..,q,v,h,_=>by simp [OwSl] at h
 | .lp ..,q,v,h,_=>by simp [OwSl] at h
 | .fs ..,q,v,h,_=>by simp [OwSl] at h
 | .bad,q,v,h,_=>by simp [OwSl] at h
theorem OwSlL.sound (h:HRel w (fun _=>False) (Base.of S1) M' (fun _=>none) (osMap os) w') (hos:∀ q ∈ os,ScR q.2):∀ (ps qs:List PV) (cs:List Value),OwSlL os ps qs→RVL M' w' ps cs→RVL (zbp (newB M' os)) w' qs cs
 | [],qs,cs,hr,hv=>by simp only [OwSlL] at hr;subst hr;simpa [RVL] using hv
 | p :: ps,qs,cs,hr,hv=>by
  simp only [OwSlL] at hr
  obtain ⟨q,r,rfl,h1,h2⟩:=hr
  simp only [RVL] at hv ⊢
  obtain ⟨c,t,e,g1,g2⟩:=hv
  exact ⟨c,t,e,OwSl.sound h hos p q c h1 g1,OwSlL.sound h hos ps r t h2 g2⟩
end
end
theorem Ctr.toN {P:Program}{f:Nat}{args:List PV}{r r':PV}{os:List (Nat×List (List PV))} (h:Ctr P f args r os) (hos:∀ q ∈ os,ScR q.2) (hr:OwSl os r r'):CtrN P f args r':=by
 refine ⟨fun w st vs hst hv=>?_⟩
 have fin:∀ e w',(∃ v M',e=Ending.returned v∧RV M' w' r v∧HRel w (fun _=>False) (Base.of st) M' (fun _=>none) (osMap os) w')→∃ v M',e=Ending.returned v∧RV M' w' r' v∧HRel w (fun _=>False) (Base.of fun _=>False) M' (fun _=>none) (osMap []) w':=by
  rintro e w' ⟨v,M',he,hrv,hrel⟩
  have hblk:∀ b,newB M' os b→b < w'.heap.size∧w.heap.size≤b:=by
   rintro b ⟨k,q,L,hk,hL,hn,rfl⟩
   obtain ⟨_,ho⟩:=hrel.obj' (k:=k) (fz:=false) (sz:=q.1) (rows:=q.2) (by simp [osMap,hk]) hL
   rcases ho with ⟨e,_⟩ | ⟨_,_,ho,cs,E,hh,_⟩
   ·rw [hn] at e;cases e
   ·exact ⟨zag hh,(ho rfl).1.resolve_right id⟩
  refine ⟨v,zbp (newB M' os),he,OwSl.sound hrel hos r r' v hr hrv,{ os:=hrel.os,tape:=hrel.tape,out:=hrel.out,size:=hrel.size,kept:=hrel.kept,stlt:=fun b hb=>(hblk b hb).1,stok:=fun b hb=>.inr (.inl (hblk b hb).2),box:=?_,boxKey:=?_,obj:=?_,objKey:=?_,boxNe:=?_,objNe:=?_,boxObj:=?_,pinB:=?_,pinO:=?_,nwok:=(fun _ h=>h.elim),c00:=⟨fun b hb=>.inr (by
   obtain ⟨k,q,L,hk,hL,hn,rfl⟩:=hb
   obtain ⟨_,ho⟩:=hrel.obj' (k:=k) (fz:=false) (sz:=q.1) (rows:=q.2) (by simp [osMap,hk]) hL
   rcases ho with ⟨e,_⟩ | ⟨_,_,_,cs,E,hh,_⟩
   ·rw [hn] at e;cases e
   ·exact ⟨cs,E,hh⟩),fun _ h=>h.elim⟩ }⟩
  ·intro k ls hk;cases hk
  ·intro k b hk;cases hk
  ·intro k fz sz rows hk;simp [osMap] at hk
  ·intro k L hk;cases hk
  ·intro k k' b hk;cases hk
  ·intro k k' o o' L L' hk;simp [osMap] at hk
  ·intro k k' b o L hk;cases hk
  ·intro k b hk;cases hk
  ·intro k b hk;cases hk
 rcases h.run w st vs hst hv with ⟨h1,h2⟩ | ⟨v,w',h1,h2⟩
 ·exact .inl ⟨h1,h2.mono fun e w' hh=>fin e w' hh⟩
 ·exact .inr ⟨v,w',h1,fin _ _ h2⟩
mutual
def fsP:PV→PV
 | .sl sz rows=>.fs sz rows
 | .ag ps=>.ag (fsL ps)
 | .tu ps=>.tu (fsL ps)
 | .sc v=>.sc v
 | .nl=>.nl
 | _=>.bad
def fsL:List PV→List PV
 | []=>[]
 | p :: ps=>fsP p :: fsL ps
end
mutual
theorem RV.fs {M M':Mem}{w:World} (hst:∀ b,M'.st b→M.nw b):∀ (p:PV) (v:Value),RV M' w p v→RV M w (fsP p) v
 | .sl sz rows,v,hv=>by
  simp only [RV,fsP] at hv ⊢
  obtain ⟨a,n,c,e,hn,hc,r⟩:=hv
  refine ⟨a,n,c,e,hn,hc,?_⟩
  rcases r with r | ⟨b,off,cs,ha,hs,hcl,hr⟩
  ·exact .inl r
  ·exact .inr ⟨b,off,cs,ha,hst b hs,hcl,RVR.mono (M:=M'.cl) (M':=M.cf) ⟨hst,(fun _ _ h=>by cases h),(fun _ _ h=>by cases h),(fun _ _=>rfl),(fun _ h=>h.elim),(fun _ h=>h.elim)⟩ sz rows _ hr⟩
 | .ag ps,v,hv=>by
  simp only [RV,fsP] at hv ⊢
  obtain ⟨cs,e,r⟩:=hv
  exact ⟨cs,e,RVL.fs hst ps _ r⟩
 | .tu ps,v,hv=>by
  simp only [RV,fsP] at hv ⊢
  obtain ⟨cs,e,r⟩:=hv
  exact ⟨cs,e,RVL.fs hst ps _ r⟩
 | .sc x,v,hv=>by simpa [RV,fsP] using hv
 | .nl,v,hv=>by simpa [RV,fsP] using hv
 | .ow ..,v,_=>by simp [RV,fsP]
 | .cl ..,v,_=>by simp [RV,fsP]
 | .cm ..,v,_=>by simp [RV,fsP]
 | .pt ..,v,_=>by simp [RV,fsP]
 | .ep ..,v,_=>by simp [RV,fsP]
 | .eo ..,v,_=>by simp [RV,fsP]
 | .ub ..,v,_=>by simp [RV,fsP]
 | .nn ..,v,_=>by simp [RV,fsP]
 | .bs ..,v,_=>by simp [RV,fsP]
 | .ls ..,v,_=>by simp [RV,fsP]
 | .lp ..,v,_=>by simp [RV,fsP]
 | .fs ..,v,_=>by simp [RV,fsP]
 | .bad,v,_=>by simp [RV,fsP]
theorem RVL.fs {M M':Mem}{w:World} (hst:∀ b,M'.st b→M.nw b):∀ (ps:List PV) (cs:List Value),RVL M' w ps cs→RVL M w (fsL ps) cs
 | [],cs,hv=>by simpa [RVL,fsL] using hv
 | p :: ps,cs,hv=>by
  simp only [RVL,fsL] at hv ⊢
  obtain ⟨c,r,e,h1,h2⟩:=hv
  exact ⟨c,r,e,RV.fs hst p c h1,RVL.fs hst ps r h2⟩
end
theorem zz7 {P : Program} {o : Oper} {ts : List PV} {c : Call} {f : Nat} {ps qs : List PV} {r : PV} {ro : List (Nat × Bool × Nat × List (List PV))} (ho : o.op = .call c) (hc : callee ts c.callee c.args.toList = some (f, ps)) (hres : ResL [] ro (unfL ps) qs) (hspec : CtrN P f qs r) :
    OpSem P o ⟨fsP r,[],ro,[],[],[],[]⟩ ts:=by
 intro w0 X S0 M s a w Q K hr hl hs hk
 obtain ⟨vs,hvs,hrun⟩:=zdc (P:=P) hr ho hl hc
 have hu:=hr.toHRel.un
 have hq:=ResL.sound hu (rb:=[]) (by simp) hs.2.1 _ qs vs hres (RVL.unf _ _ hvs)
 have hS:=hspec.run w (shown M.un [] ro) vs (zj0 hu (rb:=[]) (by simp) hs.2.1) hq
 unfold Oper.wp
 rw [hrun]
 have fin:∀ e w',(∃ v M',e=Ending.returned v∧RV M' w' r v∧HRel w (fun _=>False) (Base.of fun _=>False) M' (fun _=>none) (osMap []) w')→∃ v,e=.returned v∧K (a.put o.dst v) w':=by
  rintro e w' ⟨v,M',he,hrv,hrel⟩
  obtain ⟨hm,hle⟩:=hr.toHRel.addNw hrel.os hrel.tape hrel.out hrel.size (fun b hb=>hrel.kept b hb fun x=>x) (N:=M'.st) (fun b hb=>⟨hrel.stlt b hb,.inl (by
   rcases hrel.stok b hb with h | h | h
   ·exact h.elim
   ·exact h
   ·exact h.elim)⟩) (fun b hb=>(hrel.c00.1 b hb).resolve_left fun x=>x)
  refine ⟨v,he,hk ⟨M.st,M.bx,M.ob,fun b=>M.nw b∨M'.st b⟩ _ _ ?_⟩
  have hr':Rel w0 X S0 ⟨M.st,M.bx,M.ob,fun b=>M.nw b∨M'.st b⟩ ⟨s.tmps,s.B,s.O⟩ a w':=⟨hm,hr.dfr,hr.len,fun t=>RV.mono hle _ _ (hr.tmp t)⟩
  have:=zbq hr' o.dst (RV.fs (M:=⟨M.st,M.bx,M.ob,fun b=>M.nw b∨M'.st b⟩) (fun b hb=>.inr hb) r v hrv)
  simpa [St.apply,zbv] using this
 rcases hS with ⟨h1,h2⟩ | ⟨v,w',h1,h2⟩
 ·rw [h1,Oper.upon_enter]
  refine h2.mono ?_
  intro e w' he
  obtain ⟨v,rfl,hK⟩:=fin e w' he
  exact hK
 ·rw [h1,Oper.upon_value]
  obtain ⟨v',e,hK⟩:=fin _ w' h2
  cases e
  exact hK
def lent (M:Mem) (ki:List (Nat×Nat)) (b:Nat):Prop:=∃ kk K L,lkA ki kk=some K∧M.ob K=some L∧L.nil=false∧L.b=b
def lentM (M:Mem) (ki:List (Nat×Nat)):Mem:=⟨M.nw,fun _=>none,fun kk=>(lkA ki kk).bind M.ob,fun _=>False⟩
mutual
def ResN (ki:List (Nat×Nat)):PV→PV→Prop
 | .sc v,q=>q=.sc v
 | .nl,q=>q=.nl
 | .fs sz rows,q=>q=.sl sz rows
 | .ow k lo len,q=>∃ kk,lkA ki kk=some k∧q=.ow kk lo len
 | .ag ps,q=>∃ qs,q=.ag qs∧ResNL ki ps qs
 | .tu ps,q=>∃ qs,q=.tu qs∧ResNL ki ps qs
 | _,_=>False
def ResNL (ki:List (Nat×Nat)):List PV→List PV→Prop
 | [],qs=>qs=[]
 | p :: ps,qs=>∃ q r,qs=q :: r∧ResN ki p q∧ResNL ki ps r
end
mutual
theorem ResN.sound {M:Mem}{w:World}{ki:List (Nat×Nat)}:∀ (p q:PV) (v:Value),ResN ki p q→RV M w p v→RV (lentM M ki) w q v
 | .sc x,q,v,hr,hv=>by simp only [ResN] at hr;subst hr;simpa [RV] using hv
 | .nl,q,v,hr,hv=>by simp only [ResN] at hr;subst hr;simpa [RV] using hv
 | .fs sz rows,q,v,hr,hv=>by simp only [ResN] at hr;subst hr;simp only [RV] at hv ⊢;exact hv
 | .ow k lo len,q,v,hr,hv=>by
  simp only [ResN] at hr
  obtain ⟨kk,hk,rfl⟩:=hr
  simp only [RV] at hv ⊢
  obtain ⟨L,hL,h⟩:=hv
  exact ⟨L,by show (lkA ki kk).bind M.ob=_;rw [hk];exact hL,h⟩
 | .ag ps,q,v,hr,hv=>by
  simp only [ResN] at hr
  obtain ⟨qs,rfl,hr⟩:=hr
  simp only [RV] at hv ⊢
  obtain ⟨cs,e,r⟩:=hv
  exact ⟨cs,e,ResNL.sound ps qs _ hr r⟩
 | .tu ps,q,v,hr,hv=>by
  simp only [ResN] at hr
  obtain ⟨qs,rfl,hr⟩:=hr
  simp only [RV] at hv ⊢
  obtain ⟨cs,e,r⟩:=hv
  exact ⟨cs,e,ResNL.sound ps qs _ hr r⟩
 | .cl ..,q,v,h,_=>by simp [ResN] at h
 | .cm ..,q,v,h,_=>by simp [ResN] at h
 | .sl ..,q,v,h,_=>by simp [ResN] at h
 | .pt ..,q,v,h,_=>by simp [ResN] at h
 | .ep ..,q,v,h,_=>by simp [ResN] at h
 | .eo ..,q,v,h,_=>by simp [ResN] at h
 | .ub ..,q,v,h,_=>by simp [ResN] at h
 | .nn ..,q,v,h,_=>by simp [ResN] at h
 | .bs ..,q,v,h,_=>by simp [ResN] at h
 | .ls ..,q,v,h,_=>by simp [ResN] at h
 | .lp ..,q,v,h,_=>by simp [ResN] at h
 | .bad,q,v,h,_=>by simp [ResN] at h
theorem ResNL.sound {M:Mem}{w:World}{ki:List (Nat×Nat)}:∀ (ps qs:List PV) (cs:List Value),ResNL ki ps qs→RVL M w ps cs→RVL (lentM M ki) w qs cs
 | [],qs,cs,hr,hv=>by simp only [ResNL] at hr;subst hr;simpa [RVL] using hv
 | p :: ps,qs,cs,hr,hv=>by
  simp only [ResNL] at hr
  obtain ⟨q,r,rfl,h1,h2⟩:=hr
  simp only [RVL] at hv ⊢
  obtain ⟨c,t,e,g1,g2⟩:=hv
  exact ⟨c,t,e,ResN.sound p q c h1 g1,ResNL.sound ps r t h2 g2⟩
end
theorem z4j {P : Program} {o : Oper} {ts : List PV} {c : Call} {f : Nat} {ps qs : List PV} {r : PV} {ob : List (Nat × Option (Bool × Nat × List (List PV)))} {ki : List (Nat × Nat)} {rs : List (Nat × Bool × Nat × List (List PV))}
    (ho:o.op=.call c) (hc:callee ts c.callee c.args.toList=some (f,ps)) (hres:ResNL ki ps qs) (hspec:CtrE P f qs [] ob r [] ob) (hone:oneB ki=true) (hbig:(ki.all fun p=>Nat.ble 9990 p.1)=true)
    (hob1:∀ kk o,lkA ob kk=some o→∃ K sz rows,lkA ki kk=some K∧(K,false,sz,rows) ∈ rs∧o=some (false,sz,rows)) (hob2:∀ kk K,lkA ki kk=some K→∃ o,lkA ob kk=some o) (hsc:∀ q ∈ rs,ScR q.2.2.2) :
    OpSem P o ⟨fsP r,[],rs,[],[],[],[]⟩ ts:=by
 intro w0 X S0 M s a w Q K hr hl hs hk
 obtain ⟨vs,hvs,hrun⟩:=zdc (P:=P) hr ho hl hc
 have h:=hr.toHRel
 have hlk:∀ kk L,(lentM M ki).ob kk=some L→∃ K,lkA ki kk=some K∧M.ob K=some L:=by
  intro kk L hx
  have hx':(lkA ki kk).bind M.ob=some L:=hx
  cases e:lkA ki kk with
  | none=>rw [e] at hx';cases hx'
  | some K=>rw [e] at hx';exact ⟨K,rfl,hx'⟩
 have hlive:∀ kk K,lkA ki kk=some K→∃ sz rows,lkA ob kk=some (some (false,sz,rows))∧s.O K=some (some (false,sz,rows))∧ScR rows:=by
  intro kk K hx
  obtain ⟨o,h1⟩:=hob2 kk K hx
  obtain ⟨K',sz,rows,h2,h3,rfl⟩:=hob1 kk o h1
  rw [hx] at h2;cases h2
  exact ⟨sz,rows,h1,hs.2.1 _ h3,hsc _ h3⟩
 have hinj:=zos hone
 have hbig':∀ kk K,lkA ki kk=some K→9990≤kk:=by
  intro kk K hx
  rw [List.all_eq_true] at hbig
  exact Nat.le_of_ble_eq_true (hbig _ (zbl hx))
 have hlow:∀ b,lent M ki b→Own w0 X M b∧b < w.heap.size:=by
  rintro b ⟨kk,K,L,h1,h2,h3,rfl⟩
  obtain ⟨sz,rows,g1,g2,g3⟩:=hlive kk K h1
  obtain ⟨_,hc⟩:=h.obj' g2 h2
  rcases hc with ⟨e,_⟩ | ⟨_,_,ho,cs,E,hh,_⟩
  ·rw [h3] at e;cases e
  ·exact ⟨ho rfl,zag hh⟩
 have hstart:HRel w (lent M ki) (zgk (lentM M ki)) (lentM M ki) (lkA []) (lkA ob) w:=by
  refine { os:=rfl,tape:=rfl,out:=rfl,size:=Nat.le_refl _,kept:=fun _ _ _=>rfl,stlt:=fun b hb=>(h.nwok b hb).1,stok:=fun b hb=>.inl hb,box:=?_,boxKey:=?_,obj:=?_,objKey:=?_,boxNe:=?_,objNe:=?_,boxObj:=?_,pinB:=?_,pinO:=?_,nwok:=(fun _ h=>h.elim),c00:=⟨fun _ h=>.inl h,fun _ h=>h.elim⟩ }
  ·intro k ls hk;simp [lkA] at hk
  ·intro k b hk;cases hk
  ·intro kk fz sz rows hk
   obtain ⟨K,sz',rows',h1,h2,h3⟩:=hob1 kk _ hk
   cases h3
   obtain ⟨L,g1,g2,g3⟩:=h.obj K _ _ _ (hs.2.1 _ h2)
   refine ⟨L,by show (lkA ki kk).bind M.ob=_;rw [h1];exact g1,g2,?_⟩
   rcases g3 with g3 | ⟨g3,hf,ho,c,E,h5,h6,h7,h8,h9⟩
   ·exact .inl g3
   ·exact .inr ⟨g3,(fun e=>by cases e),fun _=>⟨.inr ⟨kk,K,L,h1,g1,g3,rfl⟩,fun hx=>(ho rfl).2 (.inr (hx.resolve_right id))⟩,c,E,h5,h6,h7,h8,RVR.sc (hsc _ h2) h9⟩
  ·intro kk L hk
   obtain ⟨K,h1,_⟩:=hlk kk L hk
   exact hob2 kk K h1
  ·intro k k' b hk;cases hk
  ·intro kk kk' o o' L L' hk hk' hL hL' hnl hnl' heq
   obtain ⟨K,h1,h2⟩:=hlk kk L hL
   obtain ⟨K',h3,h4⟩:=hlk kk' L' hL'
   obtain ⟨sz,rows,_,h5,_⟩:=hlive kk K h1
   obtain ⟨sz',rows',_,h6,_⟩:=hlive kk' K' h3
   have:=h.objNe K K' _ _ L L' h5 h6 h2 h4 hnl hnl' heq
   subst this
   exact hinj kk kk' K h1 h3
  ·intro k k' b o L hk;cases hk
  ·intro k b hk
   have hk':(if 9990≤k then none else none)=some b:=hk
   by_cases e:9990≤k
   ·rw [if_pos e] at hk';cases hk'
   ·rw [if_neg e] at hk';cases hk'
  ·intro k L hk
   have hk':(if 9990≤k then (lentM M ki).ob k else none)=some L:=hk
   by_cases e:9990≤k
   ·rw [if_pos e] at hk';exact hk'
   ·rw [if_neg e] at hk';cases hk'
 have hS:=hspec.run w (lent M ki) (lentM M ki) vs hstart (ResNL.sound ps qs vs hres hvs)
 unfold Oper.wp
 rw [hrun]
 have fin:∀ e w',(∃ v M',e=Ending.returned v∧RV M' w' r v∧HRel w (lent M ki) (zgk (lentM M ki)) M' (lkA []) (lkA ob) w')→∃ v,e=.returned v∧K (a.put o.dst v) w':=by
  rintro e w' ⟨v,M',he,hrv,hrel⟩
  have hpin:∀ kk K L,lkA ki kk=some K→M.ob K=some L→M'.ob kk=some L:=by
   intro kk K L h1 h2
   refine hrel.pinO kk L ?_
   show (if 9990≤kk then (lkA ki kk).bind M.ob else none)=some L
   rw [if_pos (hbig' kk K h1),h1];exact h2
  have hns:∀ b,lent M ki b→¬ M'.st b:=by
   rintro b ⟨kk,K,L,h1,h2,h3,rfl⟩ hx
   obtain ⟨sz,rows,g1,g2,g3⟩:=hlive kk K h1
   obtain ⟨_,ho⟩:=hrel.obj' g1 (hpin kk K L h1 h2)
   rcases ho with ⟨e,_⟩ | ⟨_,_,ho,_⟩
   ·rw [h3] at e;cases e
   ·exact (ho rfl).2 (.inl hx)
  have hst':∀ b,M'.st b→w.heap.size≤b∨M.nw b:=by
   intro b hb
   rcases hrel.stok b hb with x | x | x
   ·exact .inr x
   ·exact .inl x
   ·exact absurd hb (hns b x)
  have hold:∀ b,b < w.heap.size→¬ lent M ki b→w'.heap[b]?=w.heap[b]?:=fun b h1 h2=>hrel.kept b h1 h2
  have hle:M.Le M w w':=⟨fun _ h=>h,fun _ _ h=>h,fun _ _ h=>h,fun b hb=>hold b (h.stlt b hb) (fun x=>(hlow b x).1.2 (.inl hb)),fun _ h=>h,fun b hb=>hold b (h.nwok b hb).1 (fun x=>(hlow b x).1.2 (.inr hb))⟩
  have h1:HRel w0 X S0 M s.B s.O w':=by
   refine { os:=hrel.os.trans h.os,tape:=hrel.tape.trans h.tape,out:=hrel.out.trans h.out,size:=Nat.le_trans h.size hrel.size,kept:=?_,stlt:=fun b hb=>Nat.lt_of_lt_of_le (h.stlt b hb) hrel.size,stok:=h.stok,box:=?_,boxKey:=h.boxKey,obj:=?_,objKey:=h.objKey,boxNe:=h.boxNe,objNe:=h.objNe,boxObj:=h.boxObj,pinB:=h.pinB,pinO:=h.pinO,nwok:=fun b hb=>⟨Nat.lt_of_lt_of_le (h.nwok b hb).1 hrel.size,(h.nwok b hb).2⟩,c00:=zkl h.c00 hle (fun _ x=>x) (fun _ x=>x) }
   ·intro b hb hX
    rw [hold b (Nat.lt_of_lt_of_le hb h.size) (fun x=>by
     rcases (hlow b x).1.1 with y | y
     ·omega
     ·exact hX y)]
    exact h.kept b hb hX
   ·intro k ls hx
    obtain ⟨b,T,cs,g1,g2,g3,g4⟩:=h.box k ls hx
    refine ⟨b,T,cs,g1,g2,?_,RVL.mono hle _ _ g4⟩
    rw [hold b (zag g3) ?_];exact g3
    rintro ⟨kk,K,L,e1,e2,e3,e4⟩
    obtain ⟨sz,rows,_,f2,_⟩:=hlive kk K e1
    exact h.boxObj k K b _ L g1 f2 e2 e3 e4.symm
   ·intro k fz sz rows hx
    obtain ⟨L,a1,a2,a3⟩:=h.obj k fz sz rows hx
    refine ⟨L,a1,a2,?_⟩
    rcases a3 with a3 | ⟨a3,hf,ho,c,E,h5,h6,h7,h8,h9⟩
    ·exact .inl a3
    ·by_cases hK:∃ kk,lkA ki kk=some k
     ·obtain ⟨kk,hkk⟩:=hK
      obtain ⟨sz',rows',g1,g2,g3⟩:=hlive kk k hkk
      rw [hx] at g2;cases g2
      obtain ⟨_,ho'⟩:=hrel.obj' g1 (hpin kk k L hkk a1)
      rcases ho' with ⟨e,_⟩ | ⟨_,_,_,c',E',b5,b6,b7,b8,b9⟩
      ·rw [a3] at e;cases e
      ·exact .inr ⟨a3,hf,ho,c',E',b5,b6,b7,b8,RVR.sc g3 b9⟩
     ·refine .inr ⟨a3,hf,ho,c,E,?_,h6,h7,h8,RVR.mono hle.cl _ _ _ h9⟩
      rw [hold L.b (zag h5) ?_];exact h5
      rintro ⟨kk,K,L',e1,e2,e3,e4⟩
      obtain ⟨sz',rows',_,f2,_⟩:=hlive kk K e1
      cases fz with
      | true=>exact (hlow L.b ⟨kk,K,L',e1,e2,e3,e4⟩).1.2 (.inl (hf rfl))
      | false =>
       have:=h.objNe K k _ _ L' L f2 hx e2 a1 e3 a3 e4
       subst this
       exact hK ⟨kk,e1⟩
  obtain ⟨hm,hle2⟩:=h.addNw' h1 hle (N:=M'.st) (fun b hb=>⟨hrel.stlt b hb,hst' b hb⟩) (fun b hb=>(hrel.c00.1 b hb).elim (fun x=>C00.of (hle.nsame b x) (h.c00.2 b x)) id)
  refine ⟨v,he,hk ⟨M.st,M.bx,M.ob,fun b=>M.nw b∨M'.st b⟩ _ _ ?_⟩
  have hr':Rel w0 X S0 ⟨M.st,M.bx,M.ob,fun b=>M.nw b∨M'.st b⟩ ⟨s.tmps,s.B,s.O⟩ a w':=⟨hm,hr.dfr,hr.len,fun t=>RV.mono hle2 _ _ (hr.tmp t)⟩
  have:=zbq hr' o.dst (RV.fs (M:=⟨M.st,M.bx,M.ob,fun b=>M.nw b∨M'.st b⟩) (fun b hb=>.inr hb) r v hrv)
  simpa [St.apply,zbv] using this
 rcases hS with ⟨h1,h2⟩ | ⟨v,w',h1,h2⟩
 ·rw [h1,Oper.upon_enter]
  refine h2.mono ?_
  intro e w' he
  obtain ⟨v,rfl,hK⟩:=fin e w' he
  exact hK
 ·rw [h1,Oper.upon_value]
  obtain ⟨v',e,hK⟩:=fin _ w' h2
  cases e
  exact hK
theorem zzy {M:Mem}{w:World}:∀ (n:Nat) (cs:List Value),cs.length=n→RVL M w (List.replicate n .bad) cs
 | 0,cs,h=>by simp only [List.replicate_zero,RVL];exact List.eq_nil_of_length_eq_zero h
 | n+1,[],h=>by simp at h
 | n+1,c :: cs,h=>by
  simp only [List.replicate_succ,RVL]
  exact ⟨c,cs,rfl,by simp [RV],zzy n cs (by simpa using h)⟩
theorem zzh {M:Mem}{w:World} (sz:Nat):∀ (n:Nat) (cs:List Value),cs.length=n * sz→RVR M w sz (List.replicate n (List.replicate sz .bad)) cs
 | 0,cs,h=>by simp [RVR]
 | n+1,cs,h=>by
  simp only [List.replicate_succ,RVR]
  have hl:cs.length=sz+n * sz:=by rw [h,Nat.add_mul,Nat.one_mul,Nat.add_comm]
  exact ⟨cs.take sz,cs.drop sz,by simp,by simp,zzy sz _ (by simp;omega),zzh sz n _ (by simp;omega)⟩
theorem z15 {M : Mem} {w : World} {sz lo len : Nat} {rows : List (List PV)} {cs ds : List Value} (h : RVR M w sz rows cs) (hd : ds.length = len * sz) (hle : lo + len ≤ rows.length) :
    RVR M w sz (rows.take lo++List.replicate len (List.replicate sz .bad)++rows.drop (lo+len)) (cs.take (lo * sz)++ds++cs.drop ((lo+len) * sz)):=by
 obtain ⟨hlen,_⟩:=RVR.exact h
 have h1:=RVR.takeRows lo h
 obtain ⟨a1,a2⟩:=RVR.exact h1
 have e1:(rows.take lo).length=lo:=by simp;omega
 rw [e1] at a1 a2
 have h2:=zzh (M:=M) (w:=w) sz len ds hd
 have h3:=RVR.dropRows (lo+len) h
 refine RVR.append (RVR.append a2 (by rw [e1,List.length_take];omega) h2) ?_ h3
 simp only [List.length_append,List.length_replicate,e1,List.length_take,hd,Nat.add_mul]
 omega
theorem zl9 {z:Array Value}{n:Nat} (h:∀ v ∈ z.toList,v.oneCell'=true):∀ v ∈ (Builtin.zeroCells z n).toList,v.oneCell'=true:=by
 intro v hv
 unfold Builtin.zeroCells at hv
 simp only [Array.toList_map,Array.toList_range,List.mem_map,List.mem_range] at hv
 obtain ⟨i,hi,rfl⟩:=hv
 have hpos:0 < z.size:=by
  apply Nat.pos_of_ne_zero
  intro e;rw [e] at hi;omega
 have hlt:=Nat.mod_lt i hpos
 rw [getElem!_pos z (i % z.size) hlt]
 exact h _ (by simp)
theorem z2z {P : Program} {o : Oper} {ts : List PV} {x : Operand} {t e : TypeId} {inf : TypeInfo} {z : Value} {k lo len sz : Nat} {all : List (List PV)} (ho : o.op = .call ⟨.builtin .clear, #[x], #[t]⟩) (ht : P.underlying t = some (.slice e)) (hi : P.info? e = some inf) (hz : inf.zero = some z)
    (hzs:z.cells.size=inf.size) (hz1:(z.cells.toList.map zleaf).all leaf1=true) (hx:aev ts x=.ow k lo len) (hsz:inf.size=sz) (hle:lo+len≤all.length) :
    OpSem P o ⟨.tu [],[],[(k,false,sz,all)],[],[],[],[(k,some (false,sz,all.take lo++List.replicate len (List.replicate sz .bad)++all.drop (lo+len)))]⟩ ts:=by
 intro w0 X S0 M s a w Q K hr hl hs hk
 rw [ho] at hl
 have h2:=ev_of hr hl (x:=x) (by simp [Op.operands,Call.operands]) hx
 simp only [RV] at h2
 obtain ⟨L,hL,hcase⟩:=h2
 have hO:=hs.2.1 (k,false,sz,all) (by simp)
 obtain ⟨hLs,hc⟩:=hr.toHRel.obj' hO hL
 unfold Oper.wp
 have put:∀ (w':World),HRel w0 X S0 M s.B (upd s.O [(k,some (false,sz,all.take lo++List.replicate len (List.replicate sz .bad)++all.drop (lo+len)))]) w'→M.Le M w w'→K (a.put o.dst (.tuple #[])) w':=by
  intro w' hnew hle'
  refine hk M _ _ ?_
  have hr':Rel w0 X S0 M ⟨s.tmps,s.B,upd s.O [(k,some (false,sz,all.take lo++List.replicate len (List.replicate sz .bad)++all.drop (lo+len)))]⟩ a w':=⟨hnew,hr.dfr,hr.len,fun t=>RV.mono hle' _ _ (hr.tmp t)⟩
  have:=zbq hr' o.dst (p:=.tu []) (v:=.tuple #[]) (by simp only [RV];exact ⟨#[],rfl,by simp [RVL]⟩)
  simpa [St.apply,zbv] using this
 have stay:len=0→K (a.put o.dst (.tuple #[])) w:=by
  intro e
  refine put w ?_ (Mem.Le.refl M w)
  have e2:upd s.O [(k,some (false,sz,all.take lo++List.replicate len (List.replicate sz .bad)++all.drop (lo+len)))]=s.O:=by
   funext j
   rw [zaz]
   by_cases ej:j=k
   ·subst ej
    rw [if_pos rfl,hO,e];simp
   ·rw [if_neg ej]
  rw [e2];exact hr.toHRel
 by_cases h0:len=0
 ·have hv : ∃ ad c, a.eval x = .slice ad 0 c := by
    rcases hcase with ⟨_,_,ad,hv⟩ | ⟨_,_,ad,hv,_⟩
    ·exact ⟨ad,0,hv⟩
    ·exact ⟨ad,_,by rw [h0] at hv;exact hv⟩
  obtain ⟨ad,c,hv⟩:=hv
  have hex:(execOp a.eval o).run P w=.ok (.value (.tuple #[])) w:=by
   cases ad<;>simp [execOp,ho,resolve,invoke,builtin,Builtin.clear_,run_underlying ht,hv,Result.andThen]
  rw [hex,Oper.upon_value]
  exact stay h0
 ·rcases hcase with ⟨_,e,_⟩ | ⟨hn,hcap,ad,hv,had⟩
  ·exact absurd e h0
  ·rcases hc with ⟨e,_⟩ | ⟨_,_,_,cs,E,hh,hcs,hlen0,_,hR⟩
   ·rw [hn] at e;cases e
   have had:=had (by omega)
   have hzl:∀ v ∈ (Builtin.zeroCells z.cells len).toList,v.oneCell'=true:=zl9 (zcu hz1 (zcy (M:=M) (w:=w) z.cells.toList))
   have hzn:(Builtin.zeroCells z.cells len).toList.length=len * sz:=by simp [Builtin.zeroCells,hzs,hsz]
   have hmul:lo * sz+len * sz≤L.cap * sz:=by rw [← Nat.add_mul];exact Nat.mul_le_mul_right _ hcap
   have hrun:=run_storeCells_at P L.b (lo * sz) E (Builtin.zeroCells z.cells len).toList 0 cs w hh (by rw [Nat.add_zero,hzn,hcs];exact hmul) hzl
   simp only [Nat.add_zero] at hrun
   have hex:(execOp a.eval o).run P w=.ok (.value (.tuple #[])) (w.setRow L.b (cs.toList.take (lo * sz)++(Builtin.zeroCells z.cells len).toList++cs.toList.drop (lo * sz+(Builtin.zeroCells z.cells len).toList.length)).toArray):=by
    obtain ⟨len',rfl⟩:∃ n,len=n+1:=⟨len - 1,by omega⟩
    simp only [execOp,ho,resolve,invoke,builtin,Builtin.clear_,List.map_cons,List.map_nil]
    simp [run_underlying ht,hv,had,hLs,zeroValue,typeInfo,hi,hz,Result.andThen]
    simp at hrun
    rw [hrun]
   rw [hex,Oper.upon_value]
   obtain ⟨hnew,hle'⟩:=hr.toHRel.setObj (rows':=all.take lo++List.replicate len (List.replicate sz .bad)++all.drop (lo+len)) (cs':=(cs.toList.take (lo * sz)++(Builtin.zeroCells z.cells len).toList++cs.toList.drop (lo * sz+(Builtin.zeroCells z.cells len).toList.length)).toArray) hO hL hn hh
    (by
     rw [List.size_toArray,List.length_append,List.length_append,hzn,List.length_take,List.length_drop,Array.length_toList,hcs]
     omega)
    (by simp only [List.length_append,List.length_take,List.length_replicate,List.length_drop];omega)
    (by rw [hzn,← Nat.add_mul];exact z15 hR hzn hle)
   exact put _ hnew hle'
end Go.Pv
