import Derived.Test.YtbhfokahocgndabGreatPvG
/-
  Contracts of functions, and calls. Generic over the program.
-/
set_option linter.unusedSimpArgs false
set_option linter.unusedVariables false
namespace Go.Pv
def zbp (st:Nat→Prop):Mem:=⟨st,fun _=>none,fun _=>none,fun _=>False⟩
def osMap (os:List (Nat×List (List PV))):OMap:=fun k=>match os[k]? with
 | some (sz,rows)=>some (some (false,sz,rows))
 | none=>none
def Runs (P:Program) (f:FuncId) (vs:Array Value) (w:World) (R:Ending→World→Prop):Prop :=
 ((callFunc f vs).run P w=.ok (.enter f vs) w∧Calls P f vs w R)∨∃ v w',(callFunc f vs).run P w=.ok (.value v) w'∧R (.returned v) w'
structure Ctr (P:Program) (f:Nat) (args:List PV) (r:PV) (os:List (Nat×List (List PV))):Prop where
 run:∀ (w:World) (st:Nat→Prop) (vs:List Value),(∀ b,st b→b < w.heap.size)→RVL (zbp st) w args vs →
  Runs P f vs.toArray w fun e w'=>∃ v M',e=.returned v∧RV M' w' r v∧HRel w (fun _=>False) (Base.of st) M' (fun _=>none) (osMap os) w'
mutual
def shift (n:Nat):PV→PV
 | .ag ps=>.ag (zgf n ps)
 | .tu ps=>.tu (zgf n ps)
 | .ow k lo len=>.ow (n+k) lo len
 | .eo k i off=>.eo (n+k) i off
 | .cl f caps=>.cl f (zgf n caps)
 | .cm f caps=>.cm f (zgf n caps)
 | .sc v=>.sc v
 | .sl sz rows=>.sl sz rows
 | .nl=>.nl
 | .pt k off=>.pt k off
 | .bs k off len=>.bs k off len
 | .ep sfx=>.ep sfx
 | .ub φ=>.ub φ
 | .nn kd=>.nn kd
 | .ls ..=>.bad
 | .lp ..=>.bad
 | .fs ..=>.bad
 | .bad=>.bad
def zgf (n:Nat):List PV→List PV
 | []=>[]
 | p :: ps=>shift n p :: zgf n ps
end
structure ShiftOk (n:Nat) (M M':Mem):Prop where
 st:∀ b,M.st b→M'.st b
 bx:∀ k b,M.bx k=some b→M'.bx k=some b
 ob:∀ k L,M.ob k=some L→M'.ob (n+k)=some L
theorem ShiftOk.le {n:Nat}{M M':Mem} (h:ShiftOk n M M') (w:World):M.cl.Le M'.cl w w:=⟨h.st,(fun _ _ h=>by cases h),(fun _ _ h=>by cases h),(fun _ _=>rfl),(fun _ h=>h.elim),(fun _ h=>h.elim)⟩
mutual
theorem RV.shift {n:Nat}{M M':Mem}{w:World} (h:ShiftOk n M M'):∀ (p:PV) (v:Value),RV M w p v→RV M' w (Pv.shift n p) v
 | .sc x,v,hv=>by simpa [RV,Pv.shift] using hv
 | .ag ps,v,hv=>by
  simp only [RV,Pv.shift] at hv ⊢
  obtain ⟨cs,e,r⟩:=hv
  exact ⟨cs,e,RVL.shift h ps _ r⟩
 | .tu ps,v,hv=>by
  simp only [RV,Pv.shift] at hv ⊢
  obtain ⟨cs,e,r⟩:=hv
  exact ⟨cs,e,RVL.shift h ps _ r⟩
 | .sl sz rows,v,hv=>by
  simp only [RV,Pv.shift] at hv ⊢
  obtain ⟨a,m,c,e,hn,hc,r⟩:=hv
  refine ⟨a,m,c,e,hn,hc,?_⟩
  rcases r with r | ⟨b,off,cs,ha,hs,hcl,hr⟩
  ·exact .inl r
  ·exact .inr ⟨b,off,cs,ha,h.st b hs,hcl,RVR.mono (h.le w) sz rows _ hr⟩
 | .nl,v,hv=>by simpa [RV,Pv.shift] using hv
 | .ow k lo len,v,hv=>by
  simp only [RV,Pv.shift] at hv ⊢
  obtain ⟨L,hL,r⟩:=hv
  exact ⟨L,h.ob k L hL,r⟩
 | .pt k off,v,hv=>by
  simp only [RV,Pv.shift] at hv ⊢
  obtain ⟨b,hb,r⟩:=hv
  exact ⟨b,h.bx k b hb,r⟩
 | .bs k off len,v,hv=>by
  simp only [RV,Pv.shift] at hv ⊢
  obtain ⟨b,hb,r⟩:=hv
  exact ⟨b,h.bx k b hb,r⟩
 | .ep sfx,v,hv=>by
  simp only [RV,Pv.shift] at hv ⊢
  obtain ⟨b,off,cs,e,hs,hcl,hr⟩:=hv
  exact ⟨b,off,cs,e,h.st b hs,hcl,RVL.mono (h.le w) sfx _ hr⟩
 | .eo k i off,v,hv=>by
  simp only [RV,Pv.shift] at hv ⊢
  obtain ⟨L,hL,r⟩:=hv
  exact ⟨L,h.ob k L hL,r⟩
 | .cl f caps,v,hv=>by
  simp only [RV,Pv.shift] at hv ⊢
  obtain ⟨cs,e,r⟩:=hv
  exact ⟨cs,e,RVL.shift h caps _ r⟩
 | .cm f caps,v,hv=>by
  simp only [RV,Pv.shift] at hv ⊢
  obtain ⟨cs,e,r⟩:=hv
  exact ⟨cs,e,RVL.shift h caps _ r⟩
 | .ub φ,v,hv=>by simp only [RV,Pv.shift] at hv ⊢;exact hv
 | .nn kd,v,hv=>by simp only [RV,Pv.shift] at hv ⊢;exact hv
 | .ls ..,v,hv=>by simp [RV,Pv.shift]
 | .lp ..,v,hv=>by simp [RV,Pv.shift]
 | .fs ..,v,hv=>by simp [RV,Pv.shift]
 | .bad,v,hv=>by simp [RV,Pv.shift]
theorem RVL.shift {n:Nat}{M M':Mem}{w:World} (h:ShiftOk n M M'):∀ (ps:List PV) (cs:List Value),RVL M w ps cs→RVL M' w (zgf n ps) cs
 | [],cs,hv=>by simpa [RVL,zgf] using hv
 | p :: ps,cs,hv=>by
  simp only [RVL,zgf] at hv ⊢
  obtain ⟨c,r,e,h1,h2⟩:=hv
  exact ⟨c,r,e,RV.shift h p c h1,RVL.shift h ps r h2⟩
end
def zcs (n:Nat):List (Nat×List (List PV))→List (Nat×Option (Bool×Nat×List (List PV)))
 | []=>[]
 | (sz,rows) :: os=>(n,some (false,sz,rows)) :: zcs (n+1) os
theorem zpx (n:Nat):∀ (os:List (Nat×List (List PV))) (k:Nat),(zcs n os).find? (fun p=>p.1 == k)=if n≤k then (os[k - n]?).map (fun q=>(k,some (false,q.1,q.2))) else none:=by
 intro os
 induction os generalizing n with
 | nil=>intro k;simp [zcs]
 | cons q os ih =>
  intro k
  obtain ⟨sz,rows⟩:=q
  simp only [zcs,List.find?_cons]
  by_cases e:n=k
  ·subst e;simp
  ·have:(n == k)=false:=by simp [e]
   rw [this,ih]
   by_cases hle:n≤k
   ·rw [if_pos hle,if_pos (by omega)]
    have:k - n=(k - (n+1))+1:=by omega
    rw [this];simp
   ·rw [if_neg hle,if_neg (by omega)]
theorem zhj (O:OMap) (n:Nat) (os:List (Nat×List (List PV))) (k:Nat):upd O (zcs n os) k=if n≤k∧k < n+os.length then (os[k - n]?).map (fun q=>some (false,q.1,q.2)) else O k:=by
 unfold upd
 rw [zpx]
 by_cases h1:n≤k
 ·rw [if_pos h1]
  by_cases h2:k < n+os.length
  ·rw [if_pos ⟨h1,h2⟩]
   cases hq:os[k - n]? with
   | none=>rw [List.getElem?_eq_none_iff] at hq;omega
   | some q=>simp
  ·rw [if_neg (fun h=>h2 h.2),List.getElem?_eq_none (by omega)]
   simp
 ·rw [if_neg h1,if_neg (fun h=>h1 h.1)]
theorem HRel.merge {w0 : World} {X : Nat → Prop} {S0 : Base} {M M' : Mem} {B : BMap} {O : OMap} {w w' : World} {os : List (Nat × List (List PV))} (h : HRel w0 X S0 M B O w) {S1 : Nat → Prop} (h' : HRel w (fun _ => False) (Base.of S1) M' (fun _ => none) (osMap os) w') (hst1 : ∀ b, S1 b → M.st b)
    (n:Nat) (hn:∀ k,n≤k→k < n+os.length→O k=none) :
    ∃ M'',HRel w0 X S0 M'' B (upd O (zcs n os)) w'∧M.Le M'' w w'∧ShiftOk n M' M'':=by
 have hst:∀ b,M'.st b→M.st b∨w.heap.size≤b:=by
  intro b hb
  rcases h'.stok b hb with h1 | h1 | h1
  ·exact .inl (hst1 b h1)
  ·exact .inr h1
  ·exact h1.elim
 have hbx':∀ k,M'.bx k=none:=by
  intro k
  cases hx:M'.bx k with
  | none=>rfl
  | some b=>obtain ⟨ls,hl⟩:=h'.boxKey k b hx;cases hl
 have hob':∀ k L,M'.ob k=some L→k < os.length:=by
  intro k L hk
  obtain ⟨o,ho⟩:=h'.objKey k L hk
  unfold osMap at ho
  cases hq:os[k]? with
  | none=>rw [hq] at ho;cases ho
  | some q=>exact (List.getElem?_eq_some_iff.1 hq).1
 let M'':Mem:=⟨fun b=>M.st b∨M'.st b,M.bx,fun k=>if n≤k∧k < n+os.length then M'.ob (k - n) else M.ob k,M.nw⟩
 have hold:∀ b,b < w.heap.size→w'.heap[b]?=w.heap[b]?:=fun b hb=>h'.kept b hb (fun x=>x)
 have hMn:∀ k,n≤k→k < n+os.length→M.ob k=none:=fun k h1 h2=>h.ob_none (hn k h1 h2)
 have hob:∀ k L,M.ob k=some L→M''.ob k=some L:=by
  intro k L hk
  show (if n≤k∧k < n+os.length then M'.ob (k - n) else M.ob k)=some L
  rw [if_neg (fun hh=>by rw [hMn k hh.1 hh.2] at hk;cases hk)];exact hk
 have hle:M.Le M'' w w':=⟨fun _ h=>.inl h,fun _ _ h=>h,hob,fun b hb=>hold b (h.stlt b hb),fun _ h=>h,fun b hb=>hold b (h.nwok b hb).1⟩
 have hsh:ShiftOk n M' M'':=⟨fun _ h=>.inr h,(fun k b hk=>by rw [hbx'] at hk;cases hk),fun k L hk=>by
  show (if n≤n+k∧n+k < n+os.length then M'.ob (n+k - n) else M.ob (n+k))=some L
  rw [if_pos ⟨by omega,by have:=hob' k L hk;omega⟩,Nat.add_sub_cancel_left];exact hk⟩
 have hown:∀ b,b < w.heap.size→Own w0 X M b→Own w0 X M'' b:=fun b hb ⟨h1,h2⟩=>⟨h1,fun hs=>by
  rcases hs with (hs | hs) | hs
  ·exact h2 (.inl hs)
  ·rcases hst b hs with hs | hs
   ·exact h2 (.inl hs)
   ·omega
  ·exact h2 (.inr hs)⟩
 have hinv:∀ k L,M''.ob k=some L→(n≤k∧k < n+os.length∧M'.ob (k - n)=some L)∨(¬ (n≤k∧k < n+os.length)∧M.ob k=some L):=by
  intro k L hk
  have hk':(if n≤k∧k < n+os.length then M'.ob (k - n) else M.ob k)=some L:=hk
  by_cases hh:n≤k∧k < n+os.length
  ·rw [if_pos hh] at hk';exact .inl ⟨hh.1,hh.2,hk'⟩
  ·rw [if_neg hh] at hk';exact .inr ⟨hh,hk'⟩
 have hnwok:∀ b,M.nw b→b < w'.heap.size∧(w0.heap.size≤b∨X b)∧¬ (M.st b∨M'.st b):=fun b hb=>⟨Nat.lt_of_lt_of_le (h.nwok b hb).1 h'.size,(h.nwok b hb).2.1,fun hs=>by
  rcases hs with hs | hs
  ·exact (h.nwok b hb).2.2 hs
  ·rcases hst b hs with hs | hs
   ·exact (h.nwok b hb).2.2 hs
   ·have:=(h.nwok b hb).1;omega⟩
 have hnewlt:∀ k fz sz rows L,osMap os k=some (some (fz,sz,rows))→M'.ob k=some L→L.nil=false→w.heap.size≤L.b:=by
  intro k fz sz rows L hk hL hnil
  obtain ⟨_,hc⟩:=h'.obj' hk hL
  rcases hc with ⟨e,_⟩ | ⟨_,hf,ho,_⟩
  ·rw [hnil] at e;cases e
  ·have hfz : fz = false := by
     unfold osMap at hk
     cases hq:os[k]? with
     | none=>rw [hq] at hk;cases hk
     | some q=>rw [hq] at hk;simp at hk;exact hk.1
   have:=(ho hfz).1
   rcases this with this | this
   ·exact this
   ·exact this.elim
 have hnewO:∀ k fz sz rows,n≤k→k < n+os.length→upd O (zcs n os) k=some (some (fz,sz,rows))→osMap os (k - n)=some (some (fz,sz,rows)):=by
  intro k fz sz rows h1 h2 hk
  rw [zhj,if_pos ⟨h1,h2⟩] at hk
  unfold osMap
  cases hq:os[k - n]? with
  | none=>rw [hq] at hk;cases hk
  | some q =>
   rw [hq] at hk
   simp only [Option.map_some,Option.some.injEq,Prod.mk.injEq] at hk
   obtain ⟨rfl,rfl,rfl⟩:=hk
   rfl
 have hliveO:∀ k o,¬ (n≤k∧k < n+os.length)→upd O (zcs n os) k=o→O k=o:=by
  intro k o hh hk
  rw [zhj,if_neg hh] at hk;exact hk
 have hlt_old:∀ k q L,O k=some (some (false,q))→M.ob k=some L→L.nil=false→L.b < w.heap.size:=by
  intro k q L hk hL hnil
  obtain ⟨_,hc⟩:=h.obj' (fz:=false) (sz:=q.1) (rows:=q.2) hk hL
  rcases hc with ⟨e,_⟩ | ⟨_,_,_,cs,E,hc,_⟩
  ·rw [hnil] at e;cases e
  ·exact zag hc
 refine ⟨M'',{ os:=h'.os.trans h.os,tape:=h'.tape.trans h.tape,out:=h'.out.trans h.out,size:=Nat.le_trans h.size h'.size,kept:=?_,stlt:=?_,stok:=(fun b hb=>by rcases hb with hb | hb;exact h.stok b hb;rcases hst b hb with hb | hb;exact h.stok b hb;exact .inr (.inl (Nat.le_trans h.size hb))),box:=?_,boxKey:=h.boxKey,obj:=?_,objKey:=?_,boxNe:=h.boxNe,objNe:=?_,boxObj:=?_,pinB:=fun k b hk=>hle.bx k b (h.pinB k b hk),pinO:=fun k L hk=>hle.ob k L (h.pinO k L hk),nwok:=hnwok,c00:=⟨fun b hb=>by
  rcases hb with hb | hb
  ·exact (h.c00.1 b hb).imp id (C00.of (hold b (h.stlt b hb)))
  ·rcases h'.c00.1 b hb with x | x
   ·exact (h.c00.1 b (hst1 b x)).imp id (C00.of (hold b (h.stlt b (hst1 b x))))
   ·exact .inr x,fun b hb=>C00.of (hold b (h.nwok b hb).1) (h.c00.2 b hb)⟩ },hle,hsh⟩
 ·intro b hb hX
  rw [hold b (Nat.lt_of_lt_of_le hb h.size)]
  exact h.kept b hb hX
 ·intro b hb
  rcases hb with hb | hb
  ·exact Nat.lt_of_lt_of_le (h.stlt b hb) h'.size
  ·exact h'.stlt b hb
 ·intro j lj hj
  obtain ⟨b',T',cs'',h1,h2,h3,h4⟩:=h.box j lj hj
  exact ⟨b',T',cs'',h1,hown _ (zag h3) h2,by rw [hold _ (zag h3)];exact h3,RVL.mono hle _ _ h4⟩
 ·intro j fz sz rows hj
  by_cases hh:n≤j∧j < n+os.length
  ·have hj':=hnewO j fz sz rows hh.1 hh.2 hj
   obtain ⟨L,h1,h2,h3⟩:=h'.obj (j - n) fz sz rows hj'
   refine ⟨L,by show (if n≤j∧j < n+os.length then M'.ob (j - n) else M.ob j)=_;rw [if_pos hh];exact h1,h2,?_⟩
   rcases h3 with h3 | ⟨h3,hf,ho,c,E,h5,h6,h7,h8,h9⟩
   ·exact .inl h3
   ·refine .inr ⟨h3,fun e=>.inr (hf e),fun e=>⟨.inl ?_,?_⟩,c,E,h5,h6,h7,h8,RVR.mono (hsh.le w') _ _ _ h9⟩
    ·have:=hnewlt _ _ _ _ _ hj' h1 h3
     exact Nat.le_trans h.size this
    ·rintro ((hs | hs) | hs)
     ·have:=h.stlt _ hs
      have:=hnewlt _ _ _ _ _ hj' h1 h3
      omega
     ·exact (ho e).2 (.inl hs)
     ·have:=(h.nwok _ hs).1
      have:=hnewlt _ _ _ _ _ hj' h1 h3
      omega
  ·have hj':=hliveO j _ hh hj
   obtain ⟨L,h1,h2,h3⟩:=h.obj j fz sz rows hj'
   refine ⟨L,hob _ _ h1,h2,?_⟩
   rcases h3 with h3 | ⟨h3,hf,ho,c,E,h5,h6,h7,h8,h9⟩
   ·exact .inl h3
   ·exact .inr ⟨h3,fun e=>.inl (hf e),fun e=>hown _ (zag h5) (ho e),c,E,by rw [hold _ (zag h5)];exact h5,h6,h7,h8,RVR.mono hle.cl _ _ _ h9⟩
 ·intro j L hj
  rw [zhj]
  rcases hinv j L hj with ⟨h1,h2,_⟩ | ⟨hh,hm⟩
  ·rw [if_pos ⟨h1,h2⟩]
   cases hq:os[j - n]? with
   | none=>rw [List.getElem?_eq_none_iff] at hq;omega
   | some q=>exact ⟨_,rfl⟩
  ·rw [if_neg hh];exact h.objKey j L hm
 ·intro i j o o' Li Lj hi hj hLi hLj hni hnj heq
  rcases hinv i Li hLi with ⟨a1,a2,a3⟩ | ⟨ah,am⟩
  ·have hi':=hnewO i false o.1 o.2 a1 a2 hi
   have:=hnewlt _ _ _ _ _ hi' a3 hni
   rcases hinv j Lj hLj with ⟨b1,b2,b3⟩ | ⟨bh,bm⟩
   ·have hj':=hnewO j false o'.1 o'.2 b1 b2 hj
    have:=h'.objNe (i - n) (j - n) _ _ Li Lj hi' hj' a3 b3 hni hnj heq
    omega
   ·have:=hlt_old j o' Lj (hliveO j _ bh hj) bm hnj
    omega
  ·have:=hlt_old i o Li (hliveO i _ ah hi) am hni
   rcases hinv j Lj hLj with ⟨b1,b2,b3⟩ | ⟨bh,bm⟩
   ·have hj':=hnewO j false o'.1 o'.2 b1 b2 hj
    have:=hnewlt _ _ _ _ _ hj' b3 hnj
    omega
   ·exact h.objNe i j o o' Li Lj (hliveO i _ ah hi) (hliveO j _ bh hj) am bm hni hnj heq
 ·intro i j b o L hi hj hL hnil
  obtain ⟨ls,hls⟩:=h.boxKey i b hi
  obtain ⟨_,T,cs,hc,_⟩:=h.box' hls hi
  have:=zag hc
  rcases hinv j L hL with ⟨b1,b2,b3⟩ | ⟨bh,bm⟩
  ·have hj':=hnewO j false o.1 o.2 b1 b2 hj
   have:=hnewlt _ _ _ _ _ hj' b3 hnil
   omega
  ·exact h.boxObj i j b o L hi (hliveO j _ bh hj) bm hnil
mutual
def Res (rb:List (Nat×List PV)) (ro:List (Nat×Bool×Nat×List (List PV))):PV→PV→Prop
 | .ow k lo len,q=>∃ fz sz all,(k,fz,sz,all) ∈ ro∧lo+len≤all.length∧q=.sl sz ((all.drop lo).take len)
 | .pt k off,q=>∃ ls,(k,ls) ∈ rb∧zec ls=true∧q=.ep (ls.drop off)
 | .ag ps,q=>∃ qs,q=.ag qs∧ResL rb ro ps qs
 | .tu ps,q=>∃ qs,q=.tu qs∧ResL rb ro ps qs
 | .cl f caps,q=>∃ qs,q=.cl f qs∧ResL rb ro caps qs
 | .cm f caps,q=>∃ qs,q=.cm f qs∧ResL rb ro caps qs
 | .sc v,q=>q=.sc v
 | .sl sz rows,q=>q=.sl sz rows
 | .nl,q=>q=.nl
 | .ep sfx,q=>q=.ep sfx
 | .eo ..,_=>False
 | .bs ..,_=>False
 | .ub φ,q=>q=.ub φ
 | .nn kd,q=>q=.nn kd
 | .ls sz rows,q=>∃ rows',q=.sl sz rows'∧ResR rb ro rows rows'
 | .lp ..,_=>False
 | .fs ..,_=>False
 | .bad,q=>q=.bad
def ResL (rb:List (Nat×List PV)) (ro:List (Nat×Bool×Nat×List (List PV))):List PV→List PV→Prop
 | [],qs=>qs=[]
 | p :: ps,qs=>∃ q r,qs=q :: r∧Res rb ro p q∧ResL rb ro ps r
def ResR (rb:List (Nat×List PV)) (ro:List (Nat×Bool×Nat×List (List PV))):List (List PV)→List (List PV)→Prop
 | [],qs=>qs=[]
 | p :: ps,qs=>∃ q r,qs=q :: r∧ResL rb ro p q∧ResR rb ro ps r
end
theorem ResL.len {rb:List (Nat×List PV)}{ro:List (Nat×Bool×Nat×List (List PV))}:∀ {ps qs:List PV},ResL rb ro ps qs→qs.length=ps.length
 | [],qs,h=>by simp only [ResL] at h;simp [h]
 | p :: ps,qs,h=>by
  simp only [ResL] at h
  obtain ⟨q,r,rfl,_,h2⟩:=h
  simp [ResL.len h2]
theorem ResR.len {rb:List (Nat×List PV)}{ro:List (Nat×Bool×Nat×List (List PV))}:∀ {ps qs:List (List PV)},ResR rb ro ps qs→qs.length=ps.length
 | [],qs,h=>by simp only [ResR] at h;simp [h]
 | p :: ps,qs,h=>by
  simp only [ResR] at h
  obtain ⟨q,r,rfl,_,h2⟩:=h
  simp [ResR.len h2]
def shown (M:Mem) (rb:List (Nat×List PV)) (ro:List (Nat×Bool×Nat×List (List PV))) (b:Nat):Prop :=
 M.st b∨(∃ q ∈ rb,M.bx q.1=some b)∨∃ q ∈ ro,∃ L,M.ob q.1=some L∧L.nil=false∧L.b=b
theorem zj0 {w0:World}{X:Nat→Prop}{S0:Base}{M:Mem}{B:BMap}{O:OMap}{w:World}{rb:List (Nat×List PV)}{ro:List (Nat×Bool×Nat×List (List PV))} (h:HRel w0 X S0 M B O w) (hb:∀ q ∈ rb,B q.1=some q.2) (ho:∀ q ∈ ro,O q.1=some (some q.2)):∀ b,shown M rb ro b→b < w.heap.size:=by
 rintro b (h1 | ⟨q,hq,h2⟩ | ⟨q,hq,L,h2,h3,rfl⟩)
 ·exact h.stlt b h1
 ·obtain ⟨_,T,cs,hc,_⟩:=h.box' (hb q hq) h2
  exact zag hc
 ·obtain ⟨_,hc⟩:=h.obj' (fz:=q.2.1) (sz:=q.2.2.1) (rows:=q.2.2.2) (ho q hq) h2
  rcases hc with ⟨e,_⟩ | ⟨_,_,_,cs,E,hc,_⟩
  ·rw [h3] at e;cases e
  ·exact zag hc
theorem zn1 (M:Mem) (rb:List (Nat×List PV)) (ro:List (Nat×Bool×Nat×List (List PV))) (w:World):M.cl.Le (zbp (shown M rb ro)).cl w w:=⟨fun _ h=>Or.inl h,(fun _ _ h=>by cases h),(fun _ _ h=>by cases h),(fun _ _=>rfl),(fun _ h=>h.elim),(fun _ h=>h.elim)⟩
mutual
theorem Res.sound {w0 : World} {X : Nat → Prop} {S0 : Base} {M : Mem} {B : BMap} {O : OMap} {w : World} {rb : List (Nat × List PV)} {ro : List (Nat × Bool × Nat × List (List PV))} (h : HRel w0 X S0 M B O w) (hb : ∀ q ∈ rb, B q.1 = some q.2) (ho : ∀ q ∈ ro, O q.1 = some (some q.2)) :
    ∀ (p q:PV) (v:Value),Res rb ro p q→RV M w p v→RV (zbp (shown M rb ro)) w q v
 | .sc x,q,v,hr,hv=>by simp only [Res] at hr;subst hr;simpa [RV] using hv
 | .ag ps,q,v,hr,hv=>by
  simp only [Res] at hr
  obtain ⟨qs,rfl,hr⟩:=hr
  simp only [RV] at hv ⊢
  obtain ⟨cs,e,r⟩:=hv
  exact ⟨cs,e,ResL.sound h hb ho ps qs _ hr r⟩
 | .tu ps,q,v,hr,hv=>by
  simp only [Res] at hr
  obtain ⟨qs,rfl,hr⟩:=hr
  simp only [RV] at hv ⊢
  obtain ⟨cs,e,r⟩:=hv
  exact ⟨cs,e,ResL.sound h hb ho ps qs _ hr r⟩
 | .cl f caps,q,v,hr,hv=>by
  simp only [Res] at hr
  obtain ⟨qs,rfl,hr⟩:=hr
  simp only [RV] at hv ⊢
  obtain ⟨cs,e,r⟩:=hv
  exact ⟨cs,e,ResL.sound h hb ho caps qs _ hr r⟩
 | .cm f caps,q,v,hr,hv=>by
  simp only [Res] at hr
  obtain ⟨qs,rfl,hr⟩:=hr
  simp only [RV] at hv ⊢
  obtain ⟨cs,e,r⟩:=hv
  exact ⟨cs,e,ResL.sound h hb ho caps qs _ hr r⟩
 | .sl sz rows,q,v,hr,hv=>by
  simp only [Res] at hr;subst hr
  simp only [RV] at hv ⊢
  obtain ⟨a,n,c,e,hn,hc,r⟩:=hv
  refine ⟨a,n,c,e,hn,hc,?_⟩
  rcases r with r | ⟨b,off,cs,ha,hs,hcl,hR⟩
  ·exact .inl r
  ·exact .inr ⟨b,off,cs,ha,.inl hs,hcl,RVR.mono (zn1 M rb ro w) _ _ _ hR⟩
 | .nl,q,v,hr,hv=>by simp only [Res] at hr;subst hr;simpa [RV] using hv
 | .ow k lo len,q,v,hr,hv=>by
  simp only [Res] at hr
  obtain ⟨fz,sz,all,hmem,hle,rfl⟩:=hr
  simp only [RV] at hv ⊢
  obtain ⟨L,hL,hcase⟩:=hv
  obtain ⟨hLs,hob⟩:=h.obj' (ho _ hmem) hL
  have hlen:((all.drop lo).take len).length=len:=by simp;omega
  rcases hcase with ⟨hn,rfl,xa,rfl⟩ | ⟨hn,hcap,xa,rfl,hxa⟩
  ·exact ⟨xa,0,0,rfl,by simp,Nat.le_refl _,.inl (by simp)⟩
  ·refine ⟨xa,len,_,rfl,hlen.symm,by omega,?_⟩
   by_cases h0:len=0
   ·left;subst h0;simp
   ·right
    rcases hob with ⟨e,_⟩ | ⟨_,_,_,cs,E,hh,hcs,_,_,hR⟩
    ·rw [hn] at e;cases e
    ·have hc:Cells w L.b (0+lo * sz) (cs.toList.drop (lo * sz)):=(Cells.of_block hh).drop (lo * sz)
     rw [Nat.zero_add] at hc
     refine ⟨L.b,lo * sz,cs.toList.drop (lo * sz),by rw [hxa (by omega),hLs],.inr (.inr ⟨_,hmem,L,hL,hn,rfl⟩),hc,?_⟩
     exact RVR.mono (zn1 M rb ro w) _ _ _ (RVR.takeRows len (RVR.dropRows lo hR))
 | .pt k off,q,v,hr,hv=>by
  simp only [Res] at hr
  obtain ⟨ls,hmem,hpl,rfl⟩:=hr
  simp only [RV] at hv ⊢
  obtain ⟨b,hbx,rfl⟩:=hv
  obtain ⟨_,T,cs,hh,hcs⟩:=h.box' (hb _ hmem) hbx
  have hc:Cells w b (0+off) (cs.toList.drop off):=(Cells.of_block hh).drop off
  rw [Nat.zero_add] at hc
  refine ⟨b,off,cs.toList.drop off,rfl,.inr (.inl ⟨_,hmem,hbx⟩),hc,?_⟩
  refine RVL.mono (zn1 M rb ro w) _ _ (RVL.drop off (RVL.toCl _ _ hpl hcs))
 | .ep sfx,q,v,hr,hv=>by
  simp only [Res] at hr;subst hr
  simp only [RV] at hv ⊢
  obtain ⟨b,off,cs,e,hs,hcl,hr⟩:=hv
  exact ⟨b,off,cs,e,.inl hs,hcl,RVL.mono (zn1 M rb ro w) _ _ hr⟩
 | .eo k i off,q,v,hr,hv=>by simp [Res] at hr
 | .bs ..,q,v,hr,hv=>by simp [Res] at hr
 | .ub φ,q,v,hr,hv=>by simp only [Res] at hr;subst hr;simp only [RV] at hv ⊢;exact hv
 | .nn kd,q,v,hr,hv=>by simp only [Res] at hr;subst hr;simp only [RV] at hv ⊢;exact hv
 | .ls sz rows,q,v,hr,hv=>by
  simp only [Res] at hr
  obtain ⟨rows',rfl,hr⟩:=hr
  simp only [RV] at hv ⊢
  obtain ⟨b,cs,e,hs,hcl,hR⟩:=hv
  exact ⟨_,_,_,e,hr.len.symm,Nat.le_refl _,.inr ⟨b,0,cs,rfl,.inl hs,hcl,ResR.sound h hb ho sz rows rows' cs hr hR⟩⟩
 | .lp ..,q,v,hr,hv=>by simp [Res] at hr
 | .fs ..,q,v,hr,hv=>by simp [Res] at hr
 | .bad,q,v,hr,hv=>by simp only [Res] at hr;subst hr;simp [RV]
theorem ResL.sound {w0 : World} {X : Nat → Prop} {S0 : Base} {M : Mem} {B : BMap} {O : OMap} {w : World} {rb : List (Nat × List PV)} {ro : List (Nat × Bool × Nat × List (List PV))} (h : HRel w0 X S0 M B O w) (hb : ∀ q ∈ rb, B q.1 = some q.2) (ho : ∀ q ∈ ro, O q.1 = some (some q.2)) :
    ∀ (ps qs:List PV) (cs:List Value),ResL rb ro ps qs→RVL M w ps cs→RVL (zbp (shown M rb ro)) w qs cs
 | [],qs,cs,hr,hv=>by simp only [ResL] at hr;subst hr;simpa [RVL] using hv
 | p :: ps,qs,cs,hr,hv=>by
  simp only [ResL] at hr
  obtain ⟨q,r,rfl,h1,h2⟩:=hr
  simp only [RVL] at hv ⊢
  obtain ⟨c,rr,e,h3,h4⟩:=hv
  exact ⟨c,rr,e,Res.sound h hb ho p q c h1 h3,ResL.sound h hb ho ps r rr h2 h4⟩
theorem ResR.sound {w0 : World} {X : Nat → Prop} {S0 : Base} {M : Mem} {B : BMap} {O : OMap} {w : World} {rb : List (Nat × List PV)} {ro : List (Nat × Bool × Nat × List (List PV))} (h : HRel w0 X S0 M B O w) (hb : ∀ q ∈ rb, B q.1 = some q.2) (ho : ∀ q ∈ ro, O q.1 = some (some q.2)) (sz : Nat) :
    ∀ (ps qs:List (List PV)) (cs:List Value),ResR rb ro ps qs→RVR M w sz ps cs→RVR (zbp (shown M rb ro)).cl w sz qs cs
 | [],qs,cs,hr,hv=>by simp only [ResR] at hr;subst hr;simp [RVR]
 | p :: ps,qs,cs,hr,hv=>by
  simp only [ResR] at hr
  obtain ⟨q,r,rfl,h1,h2⟩:=hr
  simp only [RVR] at hv ⊢
  obtain ⟨c1,c2,e,hl,h3,h4⟩:=hv
  exact ⟨c1,c2,e,h1.len.trans hl,ResL.sound h hb ho p q c1 h1 h3,ResR.sound h hb ho sz ps r c2 h2 h4⟩
end
def scal:PV→Bool
 | .sc _=>true
 | .ag ps=>ps.all fun p=>match p with | .sc _=>true | .nl=>true | _=>false
 | .tu ps=>ps.all fun p=>match p with | .sc _=>true | .nl=>true | .ag qs=>qs.all (fun q=>match q with | .sc _=>true | .nl=>true | _=>false) | _=>false
 | .nl=>true
 | _=>false
theorem RVL.scal1 {M M':Mem}{w:World}:∀ (ps:List PV) (cs:List Value),(ps.all fun p=>match p with | .sc _=>true | .nl=>true | _=>false)=true→RVL M w ps cs→RVL M' w ps cs
 | [],cs,_,hv=>by simpa [RVL] using hv
 | p :: ps,cs,hp,hv=>by
  simp only [RVL] at hv ⊢
  simp only [List.all_cons,Bool.and_eq_true] at hp
  obtain ⟨c,r,e,h1,h2⟩:=hv
  refine ⟨c,r,e,?_,RVL.scal1 ps r hp.2 h2⟩
  cases p<;>first | (simp only [RV] at h1 ⊢;exact h1) | (exact absurd hp.1 (by simp))
theorem RV.scal {M M':Mem}{w:World} (p:PV) (v:Value) (hp:Pv.scal p=true) (hv:RV M w p v):RV M' w p v:=by
 cases p with
 | sc x=>simpa [RV] using hv
 | nl=>simpa [RV] using hv
 | ag ps =>
  simp only [RV] at hv ⊢
  obtain ⟨cs,e,r⟩:=hv
  exact ⟨cs,e,RVL.scal1 ps _ (by simpa [Pv.scal] using hp) r⟩
 | tu ps =>
  simp only [RV] at hv ⊢
  obtain ⟨cs,e,r⟩:=hv
  refine ⟨cs,e,?_⟩
  unfold Pv.scal at hp
  clear e
  generalize cs.toList=l at r
  induction ps generalizing l with
  | nil=>simpa [RVL] using r
  | cons p ps ih =>
   simp only [RVL] at r ⊢
   simp only [List.all_cons,Bool.and_eq_true] at hp
   obtain ⟨c,q,e,h1,h2⟩:=r
   refine ⟨c,q,e,?_,ih hp.2 _ h2⟩
   cases p with
   | sc x=>simpa [RV] using h1
   | nl=>simpa [RV] using h1
   | ag qs =>
    simp only [RV] at h1 ⊢
    obtain ⟨ds,e',r'⟩:=h1
    exact ⟨ds,e',RVL.scal1 qs _ hp.1 r'⟩
   | _=>exact absurd hp.1 (by simp)
 | _=>simp [Pv.scal] at hp
def callee (ts:List PV) (c:Callee) (args:List Operand):Option (Nat×List PV) :=
 match c with
 | .value f=>match aev ts f with
  | .cl g caps=>some (g,args.map (aev ts)++caps)
  | .cm g caps=>some (g,caps++args.map (aev ts))
  | _=>none
 | _=>none
theorem zdc {P : Program} {w0 : World} {X : Nat → Prop} {S0 : Base} {M : Mem} {s : St} {a : Act} {w : World} {ts : List PV} {o : Oper} {c : Call} {f : Nat} {ps : List PV} (hr : Rel w0 X S0 M s a w) (ho : o.op = .call c) (hl : ∀ x ∈ o.op.operands.toList, aev s.tmps x = aev ts x) (hc : callee ts c.callee c.args.toList = some (f, ps)) :
    ∃ vs:List Value,RVL M w ps vs∧(execOp a.eval o).run P w=(callFunc f vs.toArray).run P w:=by
 unfold callee at hc
 split at hc
 ·rename_i g hg
  split at hc
  ·rename_i g' caps hcl
   cases hc
   rw [ho] at hl
   have h1:=ev_of hr hl (x:=g) (by simp [Op.operands,Call.operands,hg]) hcl
   simp only [RV] at h1
   obtain ⟨cs,hv,hcs⟩:=h1
   have hargs:=zgx hr ts c.args.toList (fun x hx=>hl x (by simp only [Op.operands,Call.operands];simp;right;simpa using hx))
   refine ⟨c.args.toList.map a.eval++cs.toList,hargs.append hcs,?_⟩
   have e:(c.args.toList.map a.eval++cs.toList).toArray=c.args.map a.eval++cs:=by apply Array.ext';simp
   rw [e]
   simp [execOp,ho,resolve,hg,hv,Deferred.ofValue,invoke]
  ·rename_i g' caps hcl
   cases hc
   rw [ho] at hl
   have h1:=ev_of hr hl (x:=g) (by simp [Op.operands,Call.operands,hg]) hcl
   simp only [RV] at h1
   obtain ⟨cs,hv,hcs⟩:=h1
   have hargs:=zgx hr ts c.args.toList (fun x hx=>hl x (by simp only [Op.operands,Call.operands];simp;right;simpa using hx))
   refine ⟨cs.toList++c.args.toList.map a.eval,hcs.append hargs,?_⟩
   have e:(cs.toList++c.args.toList.map a.eval).toArray=cs++c.args.map a.eval:=by apply Array.ext';simp
   rw [e]
   simp [execOp,ho,resolve,hg,hv,Deferred.ofValue,invoke]
  ·cases hc
 ·cases hc
theorem z2d {P : Program} {o : Oper} {ts : List PV} {c : Call} {f : Nat} {ps qs : List PV} {r : PV} {rb : List (Nat × List PV)} {ro : List (Nat × Bool × Nat × List (List PV))} (ho : o.op = .call c) (hc : callee ts c.callee c.args.toList = some (f, ps)) (hres : ResL rb ro ps qs) (hspec : Ctr P f qs r []) (hsc : scal r = true) :
    OpSem P o ⟨r,rb,ro,[],[],[],[]⟩ ts:=by
 intro w0 X S0 M s a w Q K hr hl hs hk
 obtain ⟨vs,hvs,hrun⟩:=zdc (P:=P) hr ho hl hc
 have hq:=ResL.sound hr.toHRel hs.1 hs.2.1 ps qs vs hres hvs
 have hS:=hspec.run w (shown M rb ro) vs (zj0 hr.toHRel hs.1 hs.2.1) hq
 unfold Oper.wp
 rw [hrun]
 have fin:∀ e w',(∃ v M',e=Ending.returned v∧RV M' w' r v∧HRel w (fun _=>False) (Base.of (shown M rb ro)) M' (fun _=>none) (osMap []) w')→∃ v,e=.returned v∧K (a.put o.dst v) w':=by
  rintro e w' ⟨v,M',he,hrv,hrel⟩
  refine ⟨v,he,hk M _ _ ?_⟩
  have hold:∀ b,b < w.heap.size→w'.heap[b]?=w.heap[b]?:=fun b hb=>hrel.kept b hb (fun x=>x)
  have hle:M.Le M w w':=⟨fun _ h=>h,fun _ _ h=>h,fun _ _ h=>h,fun b hb=>hold b (hr.stlt b hb),fun _ h=>h,fun b hb=>hold b (hr.nwok b hb).1⟩
  have hr':=hr.world hle hrel.os hrel.tape hrel.out hrel.size hold
  have:=zbq hr' o.dst (RV.scal r v hsc hrv)
  simpa [St.apply,zbv] using this
 rcases hS with ⟨h1,h2⟩ | ⟨v,w',h1,h2⟩
 ·rw [h1,Oper.upon_enter]
  refine h2.mono ?_
  intro e w' he
  obtain ⟨v,rfl,hK⟩:=fin e w' he
  exact hK
 ·rw [h1,Oper.upon_value]
  obtain ⟨v',e,hK⟩:=fin _ w' h2
  cases e
  exact hK
def zbt (ro:List (Nat×Bool×Nat×List (List PV))):List (Nat×Option (Bool×Nat×List (List PV))):=ro.map fun q=>(q.1,some (true,q.2.2))
theorem zs7 {α:Type} (f:Nat→Option α) (p:Nat×α) (l:List (Nat×α)):upd f (p :: l)=upd (upd f l) [p]:=by
 funext j
 obtain ⟨k,v⟩:=p
 rw [zaz]
 unfold upd
 rw [List.find?_cons]
 by_cases e:k=j
 ·subst e;simp
 ·have e':¬ j=k:=fun x=>e x.symm
  have e2:(k == j)=false:=by simp [e]
  rw [if_neg e']
  simp only [e2]
theorem HRel.freezeAll {w0 : World} {X : Nat → Prop} {S0 : Base} {M : Mem} {B : BMap} {O : OMap} {w : World} (h : HRel w0 X S0 M B O w) : ∀ (ro : List (Nat × Bool × Nat × List (List PV))), (∀ q ∈ ro, O q.1 = some (some q.2)) →
    ∃ M',HRel w0 X S0 M' B (upd O (zbt ro)) w∧M.Le M' w w∧M'.ob=M.ob∧M'.bx=M.bx∧∀ q ∈ ro,∀ L,M.ob q.1=some L→L.nil=false→M'.st L.b
 | [],_=>⟨M,by simpa [zbt,zbv] using h,Mem.Le.refl M w,rfl,rfl,by simp⟩
 | q :: ro,hro=>by
  obtain ⟨M1,h1,hle1,hob1,hbx1,hst1⟩:=HRel.freezeAll h ro (fun x hx=>hro x (by simp [hx]))
  have hq:∃ fz,upd O (zbt ro) q.1=some (some (fz,q.2.2)):=by
   unfold upd
   cases hf:(zbt ro).find? (fun p=>p.1 == q.1) with
   | none=>exact ⟨q.2.1,hro q (by simp)⟩
   | some p =>
    have hm:=List.mem_of_find?_eq_some hf
    have hk:=List.find?_some hf
    simp only [zbt,List.mem_map] at hm
    obtain ⟨x,hx,rfl⟩:=hm
    simp at hk
    have e1:=hro x (by simp [hx])
    have e2:=hro q (by simp)
    rw [hk] at e1
    rw [e1] at e2
    simp only [Option.some.injEq] at e2
    exact ⟨true,by rw [e2]⟩
  obtain ⟨fz,hq⟩:=hq
  obtain ⟨M2,h2,hle2,hob2,hbx2⟩:=h1.freeze (k:=q.1) (fz:=fz) (sz:=q.2.2.1) (rows:=q.2.2.2) hq
  refine ⟨M2,?_,hle1.trans hle2,hob2.trans hob1,hbx2.trans hbx1,?_⟩
  ·show HRel w0 X S0 M2 B (upd O ((q.1,some (true,q.2.2)) :: zbt ro)) w
   rw [zs7]
   exact h2
  ·intro x hx L hL hn
   rcases List.mem_cons.1 hx with rfl | hx
   ·obtain ⟨_,hc⟩:=h2.obj' (k:=x.1) (fz:=true) (sz:=x.2.2.1) (rows:=x.2.2.2) (L:=L) (by rw [zaz,if_pos rfl]) (by rw [hob2,hob1];exact hL)
    rcases hc with ⟨e,_⟩ | ⟨_,hf,_⟩
    ·rw [hn] at e;cases e
    ·exact hf rfl
   ·exact hle2.st _ (hst1 x hx L hL hn)
theorem z4v {P : Program} {o : Oper} {ts : List PV} {c : Call} {f n : Nat} {ps qs : List PV} {r : PV} {os : List (Nat × List (List PV))} {ro : List (Nat × Bool × Nat × List (List PV))} (ho : o.op = .call c) (hc : callee ts c.callee c.args.toList = some (f, ps)) (hres : ResL [] ro ps qs) (hspec : Ctr P f qs r os)
    (hkeys:∀ q ∈ ro,¬ (n≤q.1∧q.1 < n+os.length)) :
    OpSem P o ⟨shift n r,[],ro,[],(List.range os.length).map (n+·),[],zcs n os++zbt ro⟩ ts:=by
 intro w0 X S0 M s a w Q K hr hl hs hk
 obtain ⟨vs,hvs,hrun⟩:=zdc (P:=P) hr ho hl hc
 obtain ⟨M1,h1,hle1,hob1,hbx1,hst1⟩:=hr.toHRel.freezeAll ro hs.2.1
 have hq:=ResL.sound hr.toHRel (rb:=[]) (by simp) hs.2.1 ps qs vs hres hvs
 have hsub:∀ b,shown M [] ro b→M1.st b:=by
  rintro b (h | ⟨q,hq,_⟩ | ⟨q,hq,L,h2,h3,rfl⟩)
  ·exact hle1.st b h
  ·simp at hq
  ·exact hst1 q hq L h2 h3
 have hS:=hspec.run w (shown M [] ro) vs (zj0 hr.toHRel (rb:=[]) (by simp) hs.2.1) hq
 unfold Oper.wp
 rw [hrun]
 have hfree:∀ k,n≤k→k < n+os.length→upd s.O (zbt ro) k=none:=by
  intro k h1 h2
  rw [zc2]
  ·exact hs.2.2.2 k (List.mem_map.2 ⟨k - n,List.mem_range.2 (by omega),by omega⟩)
  ·intro hm
   simp only [zbt,List.map_map,List.mem_map] at hm
   obtain ⟨q,hq,e⟩:=hm
   simp at e
   exact hkeys q hq ⟨by omega,by omega⟩
 have fin:∀ e w',(∃ v M',e=Ending.returned v∧RV M' w' r v∧HRel w (fun _=>False) (Base.of (shown M [] ro)) M' (fun _=>none) (osMap os) w')→∃ v,e=.returned v∧K (a.put o.dst v) w':=by
  rintro e w' ⟨v,M',he,hrv,hrel⟩
  obtain ⟨M'',hm,hle,hsh⟩:=h1.merge hrel hsub n hfree
  refine ⟨v,he,hk M'' _ _ ?_⟩
  have happ:upd (upd s.O (zbt ro)) (zcs n os)=upd s.O (zcs n os++zbt ro):=by
   funext k
   unfold upd
   rw [List.find?_append]
   cases (zcs n os).find? (fun p=>p.1 == k)<;>simp
  have hr':Rel w0 X S0 M'' ⟨s.tmps,s.B,upd s.O (zcs n os++zbt ro)⟩ a w':=⟨by rw [← happ];exact hm,hr.dfr,hr.len,fun t=>RV.mono (hle1.trans hle) _ _ (hr.tmp t)⟩
  have:=zbq hr' o.dst (RV.shift hsh r v hrv)
  simpa [St.apply,zbv] using this
 rcases hS with ⟨h1,h2⟩ | ⟨v,w',h1,h2⟩
 ·rw [h1,Oper.upon_enter]
  refine h2.mono ?_
  intro e w' he
  obtain ⟨v,rfl,hK⟩:=fin e w' he
  exact hK
 ·rw [h1,Oper.upon_value]
  obtain ⟨v',e,hK⟩:=fin _ w' h2
  cases e
  exact hK
structure CSt where
 tm:List PV
 bx:List (Nat×List PV)
 ob:List (Nat×Option (Bool×Nat×List (List PV)))
def lkA {α:Type}:List (Nat×α)→Nat→Option α
 | [],_=>none
 | (j,v) :: r,k=>bif Nat.beq j k then some v else lkA r k
def CSt.st (c:CSt):St:=⟨c.tm,lkA c.bx,lkA c.ob⟩
def lkK {α:Type} (d:α):List α→Nat→(α→Prop)→Prop
 | [],_,k=>k d
 | x :: _,0,k=>k x
 | _ :: xs,n+1,k=>lkK d xs n k
theorem zni {α:Type} (d:α):∀ (l:List α) (n:Nat) (k:α→Prop),lkK d l n k=k (l.getD n d)
 | [],n,k=>by simp [lkK]
 | x :: xs,0,k=>by simp [lkK]
 | x :: xs,n+1,k=>by simp [lkK,zni d xs n k]
noncomputable def clK (vs:List Value):(List PV→Prop)→Prop :=
 @List.rec Value (fun _=>(List PV→Prop)→Prop) (fun k=>k []) (fun v _ R k=>R fun r=>match v with
  | .slice none 0 0=>k (.nl :: r)
  | v=>k (.sc v :: r)) vs
theorem clK_eq:∀ (vs:List Value) (k:List PV→Prop),clK vs k=k (vs.map cleaf)
 | [],k=>rfl
 | v :: vs,k=>by
  show clK vs (fun r=>match v with
   | .slice none 0 0=>k (.nl :: r)
   | v=>k (.sc v :: r))=_
  rw [clK_eq vs,List.map_cons]
  generalize vs.map cleaf=r
  unfold cleaf
  split
  ·rfl
  ·rename_i h
   split
   ·exact absurd rfl h
   ·rfl
noncomputable def evK (ts:List PV) (x:Operand) (k:PV→Prop):Prop :=
 match x with
 | .tmp t=>lkK .bad ts t k
 | .const v=>match v with
  | .slice none 0 0=>k .nl
  | .agg cs=>clK cs.toList fun ps=>k (.ag ps)
  | v=>k (.sc v)
 | .global g=>k (.sc (.pointer (some ⟨g,0,none⟩)))
 | .func f=>k (.cl f [])
theorem za5 (ts:List PV) (x:Operand) (k:PV→Prop):evK ts x k=k (aev ts x):=by
 cases x
 case const v =>
  simp only [evK,aev,cst]
  split
  ·rfl
  ·rw [clK_eq]
  ·rename_i h1 h2
   split
   ·exact absurd rfl h1
   ·exact absurd rfl (h2 _)
   ·rfl
 all_goals simp [evK,aev,zni]
def evLK (ts:List PV):List Operand→(List PV→Prop)→Prop
 | [],k=>k []
 | x :: xs,k=>evK ts x fun p=>evLK ts xs fun ps=>k (p :: ps)
theorem zky (ts:List PV):∀ (xs:List Operand) (k:List PV→Prop),evLK ts xs k=k (xs.map (aev ts))
 | [],k=>rfl
 | x :: xs,k=>by simp [evLK,za5,zky ts xs]
def takeK {α:Type}:Nat→List α→(List α→Prop)→Prop
 | 0,_,k=>k []
 | _+1,[],k=>k []
 | n+1,x :: xs,k=>takeK n xs fun ys=>k (x :: ys)
theorem zj8 {α:Type}:∀ (n:Nat) (l:List α) (k:List α→Prop),takeK n l k=k (l.take n)
 | 0,l,k=>by simp [takeK]
 | n+1,[],k=>by simp [takeK]
 | n+1,x :: xs,k=>by simp [takeK,zj8 n xs]
def dropK {α:Type}:Nat→List α→(List α→Prop)→Prop
 | 0,l,k=>k l
 | _+1,[],k=>k []
 | n+1,_ :: xs,k=>dropK n xs k
theorem zdq {α:Type}:∀ (n:Nat) (l:List α) (k:List α→Prop),dropK n l k=k (l.drop n)
 | 0,l,k=>by simp [dropK]
 | n+1,[],k=>by simp [dropK]
 | n+1,x :: xs,k=>by simp [dropK,zdq n xs]
def appK {α:Type}:List α→List α→(List α→Prop)→Prop
 | [],m,k=>k m
 | x :: xs,m,k=>appK xs m fun ys=>k (x :: ys)
theorem zcp {α:Type}:∀ (l m:List α) (k:List α→Prop),appK l m k=k (l++m)
 | [],m,k=>rfl
 | x :: xs,m,k=>by simp [appK,zcp xs m]
def mapK {α β:Type} (f:α→(β→Prop)→Prop):List α→(List β→Prop)→Prop
 | [],k=>k []
 | x :: xs,k=>f x fun y=>mapK f xs fun ys=>k (y :: ys)
theorem zhr {α β:Type} (f:α→(β→Prop)→Prop) (g:α→β) (h:∀ x k,f x k=k (g x)):∀ (l:List α) (k:List β→Prop),mapK f l k=k (l.map g)
 | [],k=>rfl
 | x :: xs,k=>by simp [mapK,h,zhr f g h xs]
def zgh (ls:List PV) (off:Nat) (ns:List PV) (k:List PV→Prop):Prop :=
 takeK off ls fun a=>dropK (off+ns.length) ls fun b=>appK ns b fun c=>appK a c k
theorem zfi (ls:List PV) (off:Nat) (ns:List PV) (k:List PV→Prop):zgh ls off ns k=k (splice ls off ns):=by
 simp [zgh,zj8,zdq,zcp,splice]
def setK {α:Type}:List (Nat×α)→Nat→α→(List (Nat×α)→Prop)→Prop
 | [],n,v,k=>k [(n,v)]
 | (j,u) :: r,n,v,k=>bif Nat.beq j n then k ((n,v) :: r) else setK r n v fun r'=>k ((j,u) :: r')
def setA {α:Type}:List (Nat×α)→Nat→α→List (Nat×α)
 | [],n,v=>[(n,v)]
 | (j,u) :: r,n,v=>bif Nat.beq j n then (n,v) :: r else (j,u) :: setA r n v
theorem zsv {α:Type}:∀ (l:List (Nat×α)) (n:Nat) (v:α) (k:List (Nat×α)→Prop),setK l n v k=k (setA l n v)
 | [],n,v,k=>rfl
 | (j,u) :: r,n,v,k=>by
  simp only [setK,setA]
  cases Nat.beq j n<;>simp [zsv r]
theorem zbj {i j:Nat} (h:i ≠ j):Nat.beq i j=false:=by
 cases hb:Nat.beq i j with
 | false=>rfl
 | true=>exact absurd (Nat.eq_of_beq_eq_true hb) h
theorem ze6 {α:Type}:∀ (l:List (Nat×α)) (n:Nat) (v:α) (j:Nat),lkA (setA l n v) j=if j=n then some v else lkA l j
 | [],n,v,j=>by
  simp only [setA,lkA]
  by_cases h:j=n
  ·subst h;simp
  ·have:Nat.beq n j=false:=zbj fun e=>h e.symm
   simp [this,h]
 | (i,u) :: r,n,v,j=>by
  simp only [setA]
  by_cases h1:i=n
  ·subst h1
   simp only [Nat.beq_refl,cond_true,lkA]
   by_cases h:j=i
   ·subst h;simp
   ·have:Nat.beq i j=false:=zbj fun e=>h e.symm
    simp [this,h]
  ·have hb:Nat.beq i n=false:=zbj h1
   simp only [hb,cond_false,lkA]
   by_cases h:Nat.beq i j=true
   ·have:i=j:=Nat.eq_of_beq_eq_true h
    subst this
    simp [h1]
   ·simp only [Bool.not_eq_true] at h
    simp [h,ze6 r n v j]
def setsK {α:Type} (l:List (Nat×α)):List (Nat×α)→(List (Nat×α)→Prop)→Prop
 | [],k=>k l
 | (n,v) :: us,k=>setsK l us fun l'=>setK l' n v k
def setsA {α:Type} (l:List (Nat×α)):List (Nat×α)→List (Nat×α)
 | []=>l
 | (n,v) :: us=>setA (setsA l us) n v
theorem zt3 {α:Type} (l:List (Nat×α)):∀ (us:List (Nat×α)) (k:List (Nat×α)→Prop),setsK l us k=k (setsA l us)
 | [],k=>rfl
 | (n,v) :: us,k=>by simp [setsK,setsA,zt3 l us,zsv]
theorem zpi {α:Type} (l:List (Nat×α)):∀ (us:List (Nat×α)),lkA (setsA l us)=upd (lkA l) us
 | []=>rfl
 | (n,v) :: us=>by
  funext j
  rw [zs7,zaz,← zpi l us]
  simp only [setsA,ze6]
def stK:List PV→Nat→PV→(List PV→Prop)→Prop
 | [],_,_,k=>k []
 | _ :: xs,0,v,k=>k (v :: xs)
 | x :: xs,n+1,v,k=>stK xs n v fun ys=>k (x :: ys)
theorem zje:∀ (ts:List PV) (n:Nat) (v:PV) (k:List PV→Prop),stK ts n v k=k (ts.set n v)
 | [],n,v,k=>by simp [stK]
 | x :: xs,0,v,k=>by simp [stK]
 | x :: xs,n+1,v,k=>by simp [stK,zje xs n v]
def putK (ts:List PV) (dst:Option Nat) (v:PV) (k:List PV→Prop):Prop :=
 match dst with
 | some d=>stK ts d v k
 | none=>k ts
theorem putK_eq (ts:List PV) (dst:Option Nat) (v:PV) (k:List PV→Prop):putK ts dst v k=k (setT ts dst v):=by
 cases dst<;>simp [putK,setT,zje]
def zm8 (c:CSt) (dst:Option Nat) (E:Eff) (k:CSt→Prop):Prop :=
 match c,E with
 | ⟨tm,bx,ob⟩,⟨v,_,_,_,_,wb,wo⟩=>putK tm dst v fun tm=>setsK bx wb fun bx=>setsK ob wo fun ob=>k ⟨tm,bx,ob⟩
theorem zp5 (c:CSt) (dst:Option Nat) (E:Eff) (k:CSt→Prop):zm8 c dst E k=k ⟨setT c.tm dst E.val,setsA c.bx E.wb,setsA c.ob E.wo⟩:=by
 simp [zm8,putK_eq,zt3]
theorem ztn (c:CSt) (dst:Option Nat) (E:Eff):(CSt.mk (setT c.tm dst E.val) (setsA c.bx E.wb) (setsA c.ob E.wo)).st=c.st.apply dst E:=by
 simp [CSt.st,St.apply,zpi]
def zuc (b:Bool) (k:Bool→Prop):Prop:=@Bool.rec (fun _=>Prop) (k false) (k true) b
theorem zir (b:Bool) (k:Bool→Prop):zuc b k=k b:=by cases b<;>rfl
theorem zco {b:Bool}{X Y:Prop} (h1:b=true→Y) (h2:b=false→X):@Bool.rec (fun _=>Prop) X Y b:=by
 cases b
 ·exact h2 rfl
 ·exact h1 rfl
def okK (b:Bool) (k:Prop):Prop:=match b with | true=>k | false=>False
theorem za8 {b:Bool}{k:Prop} (h:okK b k):b=true∧k:=by cases b;exact h.elim;exact ⟨rfl,h⟩
def lvK (p:PV) (k:List PV→Prop):Prop:=match p with | .ag ps=>k ps | p=>k [p]
theorem zx7 (p:PV) (k:List PV→Prop):lvK p k=k (zbm p):=by cases p<;>rfl
def ldK (P:Program) (t:TypeId) (sfx:List PV) (k:PV→Prop):Prop :=
 match P.underlying t,P.info? t with
 | some d,some ⟨_,_,n,_,_,_,_,_,_,_⟩=>match zeb d with
  | true=>okK (Nat.ble n sfx.length) (takeK n sfx fun l=>k (.ag l))
  | false=>match sfx with
   | p :: _=>k p
   | []=>False
 | _,_=>False
theorem zep {P:Program}{t:TypeId}{sfx:List PV}{k:PV→Prop} (h:ldK P t sfx k):∃ d inf p,P.underlying t=some d∧P.info? t=some inf∧zdx (zeb d) inf.size sfx=some p∧k p:=by
 unfold ldK at h
 split at h
 ·rename_i d a b n c e f g i j l h1 h2
  split at h
  ·rename_i hd
   obtain ⟨hb,hk⟩:=za8 h
   rw [zj8] at hk
   have hle:n≤sfx.length:=by simpa using hb
   exact ⟨d,_,.ag (sfx.take n),h1,h2,by simp [zdx,hd,hle],hk⟩
  ·rename_i hd
   split at h
   ·rename_i p r
    exact ⟨d,_,p,h1,h2,by simp [zdx,hd],h⟩
   ·exact h.elim
 ·exact h.elim
def fldK (P:Program) (t:TypeId) (i:Nat) (k:Nat→Prop):Prop :=
 match P.underlying t with
 | some (.struct fs)=>match fs.toList[i]? with
  | some ⟨_,ty,off,_,_,_,_⟩=>match P.info? ty with
   | some ⟨_,_,n,_,_,_,_,_,_,_⟩=>match n with | 0=>False | _+1=>k off
   | none=>False
  | none=>False
 | _=>False
theorem zv8 {P:Program}{t:TypeId}{i:Nat}{k:Nat→Prop} (h:fldK P t i k):∃ (fs:Array Field) (f:Field) (inf:TypeInfo),P.underlying t=some (.struct fs)∧fs[i]?=some f∧P.info? f.type=some inf∧inf.size ≠ 0∧k f.offset:=by
 unfold fldK at h
 split at h
 ·rename_i fs h1
  split at h
  ·rename_i a ty off b c d e h2
   split at h
   ·rename_i h3
    split at h
    ·exact h.elim
    ·exact ⟨fs,_,_,h1,by simpa using h2,h3,by simp,h⟩
   ·exact h.elim
  ·exact h.elim
 ·exact h.elim
def paddK (p:PV) (n:Nat) (k:PV→Prop):Prop :=
 match p with
 | .pt key off=>k (.pt key (off+n))
 | .ep sfx=>dropK n sfx fun s=>k (.ep s)
 | .eo key i off=>k (.eo key i (off+n))
 | _=>False
theorem zhh {p:PV}{n:Nat}{k:PV→Prop} (h:paddK p n k):∃ q,padd p n=some q∧k q:=by
 cases p with
 | pt key off=>exact ⟨_,rfl,h⟩
 | ep sfx=>simp only [paddK,zdq] at h;exact ⟨_,rfl,h⟩
 | eo key i off=>exact ⟨_,rfl,h⟩
 | _=>exact h.elim
noncomputable def fltK (op:BinOp) (a b:Nat) (k:PV→Prop):Prop :=
 match fres op a b with
 | some res=>@Option.rec Nat (fun _=>Prop) (k (.nn .f64)) (fun r=>k (.sc (.float .f64 r))) res
 | none=>False
theorem zvm {op:BinOp}{a b:Nat}{k:PV→Prop} (h:fltK op a b k):∃ res,fres op a b=some res∧k (fpv res):=by
 unfold fltK at h
 split at h
 ·rename_i res hr
  refine ⟨res,hr,?_⟩
  cases res<;>exact h
 ·exact h.elim
noncomputable def nanK (op:BinOp) (p q:PV) (k:PV→Prop):Prop :=
 okK (fnn p && fnn q && (nnB p || nnB q)) (match nres op with | some r=>k r | none=>False)
noncomputable def binK (P:Program) (op:BinOp) (t:TypeId) (p q:PV) (k:PV→Prop):Prop :=
 match p,q with
 | .sc u,.sc v=>match pbin op u v with
  | some r=>k (.sc r)
  | none=>match pdiv op u v with
   | some (r,(m,n))=>(m ≠ 0∧0≤n)∧k (.sc r)
   | none=>match op,u,v with
    | .eql,.bool a,.bool b=>P.underlying t=some .bool∧k (.sc (.bool (a == b)))
    | .neq,.bool a,.bool b=>P.underlying t=some .bool∧k (.sc (.bool (a != b)))
    | op,.float .f64 a,.float .f64 b=>fltK op a b k
    | _,_,_=>False
 | .ag xs,.ag ys=>match op with
  | .eql=>EqOk P t∧∃ r,zhe (P.fieldsOf t).toList xs ys=some r∧k (.sc (.bool r))
  | .neq=>EqOk P t∧∃ r,zhe (P.fieldsOf t).toList xs ys=some r∧k (.sc (.bool (!r)))
  | _=>False
 | p,q=>nanK op p q k
def srcK (c:CSt) (p:PV) (sz:Nat) (k:List (Nat×Bool×Nat×List (List PV))→List (List PV)→Prop):Prop :=
 match p with
 | .sl sz' rows=>sz'=sz∧k [] rows
 | .nl=>k [] []
 | .ow key lo len=>match lkA c.ob key with
  | some (some (fz,sz',all))=>(sz'=sz∧lo+len≤all.length)∧k [(key,fz,sz',all)] ((all.drop lo).take len)
  | _=>False
 | _=>False
theorem zmo {c:CSt}{p:PV}{sz:Nat}{k:List (Nat×Bool×Nat×List (List PV))→List (List PV)→Prop} (h:srcK c p sz k):∃ ro rows,srcOk p sz ro rows∧(∀ q ∈ ro,lkA c.ob q.1=some (some q.2))∧k ro rows:=by
 unfold srcK at h
 split at h
 ·obtain ⟨rfl,h⟩:=h
  exact ⟨[],_,.inl ⟨rfl,rfl⟩,by simp,h⟩
 ·exact ⟨[],[],.inr (.inl ⟨rfl,rfl,rfl⟩),by simp,h⟩
 ·rename_i key lo len
  split at h
  ·rename_i fz sz' all hk
   obtain ⟨⟨rfl,hle⟩,h⟩:=h
   exact ⟨_,_,.inr (.inr ⟨key,lo,len,fz,all,rfl,rfl,rfl,hle⟩),by simp [hk],h⟩
  ·exact h.elim
 ·exact h.elim
def resK (c:CSt) (p:PV) (k:List (Nat×List PV)→List (Nat×Bool×Nat×List (List PV))→PV→Prop):Prop :=
 match p with
 | .sc v=>k [] [] (.sc v)
 | .sl sz rows=>k [] [] (.sl sz rows)
 | .nl=>k [] [] .nl
 | .ep sfx=>k [] [] (.ep sfx)
 | .nn kd=>k [] [] (.nn kd)
 | .ow key lo len=>match lkA c.ob key with
  | some (some (fz,sz,all))=>lo+len≤all.length∧k [] [(key,fz,sz,all)] (.sl sz ((all.drop lo).take len))
  | _=>False
 | .pt key off=>match lkA c.bx key with
  | some ls=>okK (zec ls) (dropK off ls fun s=>k [(key,ls)] [] (.ep s))
  | none=>False
 | _=>False
noncomputable def resLK (c:CSt) (ps:List PV):(List (Nat×List PV)→List (Nat×Bool×Nat×List (List PV))→List PV→Prop)→Prop :=
 @List.rec PV (fun _=>(List (Nat×List PV)→List (Nat×Bool×Nat×List (List PV))→List PV→Prop)→Prop) (fun k=>k [] [] [])
  (fun p _ R k=>resK c p fun rb ro q=>R fun rb' ro' qs=>appK rb rb' fun rb''=>appK ro ro' fun ro''=>k rb'' ro'' (q :: qs)) ps
theorem zwt (c:CSt) (p:PV) (ps:List PV) (k:List (Nat×List PV)→List (Nat×Bool×Nat×List (List PV))→List PV→Prop):resLK c (p :: ps) k=resK c p fun rb ro q=>resLK c ps fun rb' ro' qs=>appK rb rb' fun rb''=>appK ro ro' fun ro''=>k rb'' ro'' (q :: qs):=rfl
noncomputable def resRK (c:CSt) (ps:List (List PV)):(List (Nat×List PV)→List (Nat×Bool×Nat×List (List PV))→List (List PV)→Prop)→Prop :=
 @List.rec (List PV) (fun _=>(List (Nat×List PV)→List (Nat×Bool×Nat×List (List PV))→List (List PV)→Prop)→Prop) (fun k=>k [] [] [])
  (fun p _ R k=>resLK c p fun rb ro q=>R fun rb' ro' qs=>appK rb rb' fun rb''=>appK ro ro' fun ro''=>k rb'' ro'' (q :: qs)) ps
theorem zv4 (c:CSt) (p:List PV) (ps:List (List PV)) (k:List (Nat×List PV)→List (Nat×Bool×Nat×List (List PV))→List (List PV)→Prop):resRK c (p :: ps) k=resLK c p fun rb ro q=>resRK c ps fun rb' ro' qs=>appK rb rb' fun rb''=>appK ro ro' fun ro''=>k rb'' ro'' (q :: qs):=rfl
noncomputable def resVK (c:CSt) (p:PV) (k:List (Nat×List PV)→List (Nat×Bool×Nat×List (List PV))→PV→Prop):Prop :=
 match p with
 | .ag ps=>resLK c ps fun rb ro qs=>k rb ro (.ag qs)
 | .cl f caps=>resLK c caps fun rb ro qs=>k rb ro (.cl f qs)
 | .cm f caps=>resLK c caps fun rb ro qs=>k rb ro (.cm f qs)
 | .ls sz rows=>resRK c rows fun rb ro qs=>k rb ro (.sl sz qs)
 | p=>resK c p k
noncomputable def resAK (c:CSt) (ps:List PV):(List (Nat×List PV)→List (Nat×Bool×Nat×List (List PV))→List PV→Prop)→Prop :=
 @List.rec PV (fun _=>(List (Nat×List PV)→List (Nat×Bool×Nat×List (List PV))→List PV→Prop)→Prop) (fun k=>k [] [] [])
  (fun p _ R k=>resVK c p fun rb ro q=>R fun rb' ro' qs=>appK rb rb' fun rb''=>appK ro ro' fun ro''=>k rb'' ro'' (q :: qs)) ps
theorem zw9 (c:CSt) (p:PV) (ps:List PV) (k:List (Nat×List PV)→List (Nat×Bool×Nat×List (List PV))→List PV→Prop):resAK c (p :: ps) k=resVK c p fun rb ro q=>resAK c ps fun rb' ro' qs=>appK rb rb' fun rb''=>appK ro ro' fun ro''=>k rb'' ro'' (q :: qs):=rfl
def OkB (c:CSt) (rb:List (Nat×List PV)):Prop:=∀ q ∈ rb,lkA c.bx q.1=some q.2
def OkO (c:CSt) (ro:List (Nat×Bool×Nat×List (List PV))):Prop:=∀ q ∈ ro,lkA c.ob q.1=some (some q.2)
mutual
theorem Res.mono {rb rb':List (Nat×List PV)}{ro ro':List (Nat×Bool×Nat×List (List PV))} (hb:∀ x ∈ rb,x ∈ rb') (ho:∀ x ∈ ro,x ∈ ro'):∀ (p q:PV),Res rb ro p q→Res rb' ro' p q
 | .ow k lo len,q,h=>by simp only [Res] at h ⊢;obtain ⟨fz,sz,all,h1,h2⟩:=h;exact ⟨fz,sz,all,ho _ h1,h2⟩
 | .pt k off,q,h=>by simp only [Res] at h ⊢;obtain ⟨ls,h1,h2⟩:=h;exact ⟨ls,hb _ h1,h2⟩
 | .ag ps,q,h=>by simp only [Res] at h ⊢;obtain ⟨qs,h1,h2⟩:=h;exact ⟨qs,h1,ResL.mono hb ho ps qs h2⟩
 | .tu ps,q,h=>by simp only [Res] at h ⊢;obtain ⟨qs,h1,h2⟩:=h;exact ⟨qs,h1,ResL.mono hb ho ps qs h2⟩
 | .cl f ps,q,h=>by simp only [Res] at h ⊢;obtain ⟨qs,h1,h2⟩:=h;exact ⟨qs,h1,ResL.mono hb ho ps qs h2⟩
 | .cm f ps,q,h=>by simp only [Res] at h ⊢;obtain ⟨qs,h1,h2⟩:=h;exact ⟨qs,h1,ResL.mono hb ho ps qs h2⟩
 | .sc v,q,h=>by simpa [Res] using h
 | .sl sz rows,q,h=>by simpa [Res] using h
 | .nl,q,h=>by simpa [Res] using h
 | .ep s,q,h=>by simpa [Res] using h
 | .eo ..,q,h=>by simp [Res] at h
 | .bs ..,q,h=>by simp [Res] at h
 | .ub φ,q,h=>by simpa only [Res] using h
 | .nn kd,q,h=>by simpa only [Res] using h
 | .ls sz rows,q,h=>by simp only [Res] at h ⊢;obtain ⟨rs,h1,h2⟩:=h;exact ⟨rs,h1,ResR.mono hb ho rows rs h2⟩
 | .lp ..,q,h=>by simp [Res] at h
 | .fs ..,q,h=>by simp [Res] at h
 | .bad,q,h=>by simpa [Res] using h
theorem ResL.mono {rb rb':List (Nat×List PV)}{ro ro':List (Nat×Bool×Nat×List (List PV))} (hb:∀ x ∈ rb,x ∈ rb') (ho:∀ x ∈ ro,x ∈ ro'):∀ (ps qs:List PV),ResL rb ro ps qs→ResL rb' ro' ps qs
 | [],qs,h=>by simpa [ResL] using h
 | p :: ps,qs,h=>by
  simp only [ResL] at h ⊢
  obtain ⟨q,r,e,h1,h2⟩:=h
  exact ⟨q,r,e,Res.mono hb ho p q h1,ResL.mono hb ho ps r h2⟩
theorem ResR.mono {rb rb':List (Nat×List PV)}{ro ro':List (Nat×Bool×Nat×List (List PV))} (hb:∀ x ∈ rb,x ∈ rb') (ho:∀ x ∈ ro,x ∈ ro'):∀ (ps qs:List (List PV)),ResR rb ro ps qs→ResR rb' ro' ps qs
 | [],qs,h=>by simpa [ResR] using h
 | p :: ps,qs,h=>by
  simp only [ResR] at h ⊢
  obtain ⟨q,r,e,h1,h2⟩:=h
  exact ⟨q,r,e,ResL.mono hb ho p q h1,ResR.mono hb ho ps r h2⟩
end
theorem zmm {c:CSt}{p:PV}{k:List (Nat×List PV)→List (Nat×Bool×Nat×List (List PV))→PV→Prop} (h:resK c p k):∃ rb ro q,Res rb ro p q∧OkB c rb∧OkO c ro∧k rb ro q:=by
 unfold resK at h
 split at h
 ·exact ⟨[],[],_,by simp [Res],by simp [OkB],by simp [OkO],h⟩
 ·exact ⟨[],[],_,by simp [Res],by simp [OkB],by simp [OkO],h⟩
 ·exact ⟨[],[],_,by simp [Res],by simp [OkB],by simp [OkO],h⟩
 ·exact ⟨[],[],_,by simp [Res],by simp [OkB],by simp [OkO],h⟩
 ·exact ⟨[],[],_,by simp [Res],by simp [OkB],by simp [OkO],h⟩
 ·split at h
  ·rename_i fz sz all hk
   obtain ⟨hle,h⟩:=h
   exact ⟨[],_,_,by simp only [Res];exact ⟨fz,sz,all,by simp,hle,rfl⟩,by simp [OkB],by simp [OkO,hk],h⟩
  ·exact h.elim
 ·split at h
  ·rename_i ls hk
   obtain ⟨hp,h⟩:=za8 h
   rw [zdq] at h
   exact ⟨_,[],_,by simp only [Res];exact ⟨ls,by simp,hp,rfl⟩,by simp [OkB,hk],by simp [OkO],h⟩
  ·exact h.elim
 ·exact h.elim
theorem zew {c:CSt}:∀ {ps:List PV}{k:List (Nat×List PV)→List (Nat×Bool×Nat×List (List PV))→List PV→Prop},resLK c ps k→∃ rb ro qs,ResL rb ro ps qs∧OkB c rb∧OkO c ro∧k rb ro qs
 | [],k,h=>⟨[],[],[],by simp [ResL],by simp [OkB],by simp [OkO],h⟩
 | p :: ps,k,h=>by
  rw [zwt] at h
  obtain ⟨rb,ro,q,h1,h2,h3,h⟩:=zmm h
  obtain ⟨rb',ro',qs,h4,h5,h6,h⟩:=zew h
  simp only [zcp] at h
  refine ⟨_,_,_,?_,?_,?_,h⟩
  ·simp only [ResL]
   exact ⟨q,qs,rfl,Res.mono (by simp +contextual) (by simp +contextual) _ _ h1,ResL.mono (by simp +contextual) (by simp +contextual) _ _ h4⟩
  ·intro x hx;rcases List.mem_append.1 hx with hx | hx;exact h2 x hx;exact h5 x hx
  ·intro x hx;rcases List.mem_append.1 hx with hx | hx;exact h3 x hx;exact h6 x hx
theorem zkx {c:CSt}:∀ {ps:List (List PV)}{k:List (Nat×List PV)→List (Nat×Bool×Nat×List (List PV))→List (List PV)→Prop},resRK c ps k→∃ rb ro qs,ResR rb ro ps qs∧OkB c rb∧OkO c ro∧k rb ro qs
 | [],k,h=>⟨[],[],[],by simp [ResR],by simp [OkB],by simp [OkO],h⟩
 | p :: ps,k,h=>by
  rw [zv4] at h
  obtain ⟨rb,ro,q,h1,h2,h3,h⟩:=zew h
  obtain ⟨rb',ro',qs,h4,h5,h6,h⟩:=zkx h
  simp only [zcp] at h
  refine ⟨_,_,_,?_,?_,?_,h⟩
  ·simp only [ResR]
   exact ⟨q,qs,rfl,ResL.mono (by simp +contextual) (by simp +contextual) _ _ h1,ResR.mono (by simp +contextual) (by simp +contextual) _ _ h4⟩
  ·intro x hx;rcases List.mem_append.1 hx with hx | hx;exact h2 x hx;exact h5 x hx
  ·intro x hx;rcases List.mem_append.1 hx with hx | hx;exact h3 x hx;exact h6 x hx
theorem zsm {c:CSt}{p:PV}{k:List (Nat×List PV)→List (Nat×Bool×Nat×List (List PV))→PV→Prop} (h:resVK c p k):∃ rb ro q,Res rb ro p q∧OkB c rb∧OkO c ro∧k rb ro q:=by
 unfold resVK at h
 split at h
 ·obtain ⟨rb,ro,qs,h1,h2,h3,h⟩:=zew h
  exact ⟨rb,ro,_,by simp only [Res];exact ⟨qs,rfl,h1⟩,h2,h3,h⟩
 ·obtain ⟨rb,ro,qs,h1,h2,h3,h⟩:=zew h
  exact ⟨rb,ro,_,by simp only [Res];exact ⟨qs,rfl,h1⟩,h2,h3,h⟩
 ·obtain ⟨rb,ro,qs,h1,h2,h3,h⟩:=zew h
  exact ⟨rb,ro,_,by simp only [Res];exact ⟨qs,rfl,h1⟩,h2,h3,h⟩
 ·obtain ⟨rb,ro,qs,h1,h2,h3,h⟩:=zkx h
  exact ⟨rb,ro,_,by simp only [Res];exact ⟨qs,rfl,h1⟩,h2,h3,h⟩
 ·exact zmm h
theorem zfp {c:CSt}:∀ {ps:List PV}{k:List (Nat×List PV)→List (Nat×Bool×Nat×List (List PV))→List PV→Prop},resAK c ps k→∃ rb ro qs,ResL rb ro ps qs∧OkB c rb∧OkO c ro∧k rb ro qs
 | [],k,h=>⟨[],[],[],by simp [ResL],by simp [OkB],by simp [OkO],h⟩
 | p :: ps,k,h=>by
  rw [zw9] at h
  obtain ⟨rb,ro,q,h1,h2,h3,h⟩:=zsm h
  obtain ⟨rb',ro',qs,h4,h5,h6,h⟩:=zfp h
  simp only [zcp] at h
  refine ⟨_,_,_,?_,?_,?_,h⟩
  ·simp only [ResL]
   exact ⟨q,qs,rfl,Res.mono (by simp +contextual) (by simp +contextual) _ _ h1,ResL.mono (by simp +contextual) (by simp +contextual) _ _ h4⟩
  ·intro x hx;rcases List.mem_append.1 hx with hx | hx;exact h2 x hx;exact h5 x hx
  ·intro x hx;rcases List.mem_append.1 hx with hx | hx;exact h3 x hx;exact h6 x hx
end Go.Pv
