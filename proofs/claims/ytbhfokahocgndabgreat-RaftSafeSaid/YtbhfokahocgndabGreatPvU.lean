import Derived.Test.YtbhfokahocgndabGreatPvI
/-
  Calls of functions that write what the caller owns. Generic over the program.
-/
set_option linter.unusedSimpArgs false
set_option linter.unusedVariables false
namespace Go.Pv
def zgk (M:Mem):Base where
 st:=M.st
 pb:=fun k=>if 9990≤k then M.bx k else none
 po:=fun k=>if 9990≤k then M.ob k else none
 hb:=fun k b h=>by by_cases e:9990≤k;exact e;rw [if_neg e] at h;cases h
 ho:=fun k b h=>by by_cases e:9990≤k;exact e;rw [if_neg e] at h;cases h
structure CtrE (P:Program) (f:Nat) (args:List PV) (bx:List (Nat×List PV)) (ob:List (Nat×Option (Bool×Nat×List (List PV)))) (r:PV) (bx':List (Nat×List PV)) (ob':List (Nat×Option (Bool×Nat×List (List PV)))):Prop where
 run:∀ (w:World) (X:Nat→Prop) (M:Mem) (vs:List Value),HRel w X (zgk M) M (lkA bx) (lkA ob) w→RVL M w args vs →
  Runs P f vs.toArray w fun e w'=>∃ v M',e=.returned v∧RV M' w' r v∧HRel w X (zgk M) M' (lkA bx') (lkA ob') w'
def Mem.inn (M:Mem) (kb ki:List (Nat×Nat)):Mem:=⟨M.st,fun k=>(lkA kb k).bind M.bx,fun k=>(lkA ki k).bind M.ob,fun _=>False⟩
theorem ztl (M:Mem) (kb ki:List (Nat×Nat)):(M.inn kb ki).cl=M.cl:=rfl
mutual
def ResE (kb ki:List (Nat×Nat)) (ro:List (Nat×Bool×Nat×List (List PV))):PV→PV→Prop
 | .ow k lo len,q=>(∃ kk,lkA ki kk=some k∧q=.ow kk lo len)∨∃ fz sz all,(k,fz,sz,all) ∈ ro∧lo+len≤all.length∧q=.sl sz ((all.drop lo).take len)
 | .eo k i off,q=>∃ kk,lkA ki kk=some k∧q=.eo kk i off
 | .pt k off,q=>∃ kk,lkA kb kk=some k∧q=.pt kk off
 | .bs k off len,q=>∃ kk,lkA kb kk=some k∧q=.bs kk off len
 | .ag ps,q=>∃ qs,q=.ag qs∧ResEL kb ki ro ps qs
 | .tu ps,q=>∃ qs,q=.tu qs∧ResEL kb ki ro ps qs
 | .cl f caps,q=>∃ qs,q=.cl f qs∧ResEL kb ki ro caps qs
 | .cm f caps,q=>∃ qs,q=.cm f qs∧ResEL kb ki ro caps qs
 | .sc v,q=>q=.sc v
 | .sl sz rows,q=>q=.sl sz rows
 | .nl,q=>q=.nl
 | .ep sfx,q=>q=.ep sfx
 | .ub φ,q=>q=.ub φ
 | .nn kd,q=>q=.nn kd
 | .ls ..,_=>False
 | .lp ..,_=>False
 | .fs ..,_=>False
 | .bad,q=>q=.bad
def ResEL (kb ki:List (Nat×Nat)) (ro:List (Nat×Bool×Nat×List (List PV))):List PV→List PV→Prop
 | [],qs=>qs=[]
 | p :: ps,qs=>∃ q r,qs=q :: r∧ResE kb ki ro p q∧ResEL kb ki ro ps r
end
mutual
theorem ResE.sound {w0 : World} {X : Nat → Prop} {S0 : Base} {M : Mem} {B : BMap} {O : OMap} {w : World} {kb ki : List (Nat × Nat)} {ro : List (Nat × Bool × Nat × List (List PV))} (h : HRel w0 X S0 M B O w) (ho : ∀ q ∈ ro, O q.1 = some (some (true, q.2.2))) :
    ∀ (p q:PV) (v:Value),ResE kb ki ro p q→RV M w p v→RV (M.inn kb ki) w q v
 | .sc x,q,v,hr,hv=>by simp only [ResE] at hr;subst hr;simpa [RV] using hv
 | .ag ps,q,v,hr,hv=>by
  simp only [ResE] at hr
  obtain ⟨qs,rfl,hr⟩:=hr
  simp only [RV] at hv ⊢
  obtain ⟨cs,e,r⟩:=hv
  exact ⟨cs,e,ResEL.sound h ho ps qs _ hr r⟩
 | .tu ps,q,v,hr,hv=>by
  simp only [ResE] at hr
  obtain ⟨qs,rfl,hr⟩:=hr
  simp only [RV] at hv ⊢
  obtain ⟨cs,e,r⟩:=hv
  exact ⟨cs,e,ResEL.sound h ho ps qs _ hr r⟩
 | .cl f caps,q,v,hr,hv=>by
  simp only [ResE] at hr
  obtain ⟨qs,rfl,hr⟩:=hr
  simp only [RV] at hv ⊢
  obtain ⟨cs,e,r⟩:=hv
  exact ⟨cs,e,ResEL.sound h ho caps qs _ hr r⟩
 | .cm f caps,q,v,hr,hv=>by
  simp only [ResE] at hr
  obtain ⟨qs,rfl,hr⟩:=hr
  simp only [RV] at hv ⊢
  obtain ⟨cs,e,r⟩:=hv
  exact ⟨cs,e,ResEL.sound h ho caps qs _ hr r⟩
 | .sl sz rows,q,v,hr,hv=>by simp only [ResE] at hr;subst hr;simp only [RV,ztl] at hv ⊢;exact hv
 | .nl,q,v,hr,hv=>by simp only [ResE] at hr;subst hr;simpa [RV] using hv
 | .ow k lo len,q,v,hr,hv=>by
  simp only [ResE] at hr
  rcases hr with ⟨kk,hkk,rfl⟩ | ⟨fz,sz,all,hmem,hle,rfl⟩
  ·simp only [RV] at hv ⊢
   obtain ⟨L,hL,hcase⟩:=hv
   exact ⟨L,by show (lkA ki kk).bind M.ob=_;rw [hkk];exact hL,hcase⟩
  ·simp only [RV,ztl] at hv ⊢
   obtain ⟨L,hL,hcase⟩:=hv
   obtain ⟨hLs,hob⟩:=h.obj' (ho _ hmem) hL
   have hlen:((all.drop lo).take len).length=len:=by simp;omega
   rcases hcase with ⟨hn,rfl,xa,rfl⟩ | ⟨hn,hcap,xa,rfl,hxa⟩
   ·exact ⟨xa,0,0,rfl,by simp,Nat.le_refl _,.inl (by simp)⟩
   ·refine ⟨xa,len,_,rfl,hlen.symm,by omega,?_⟩
    by_cases h0:len=0
    ·left;subst h0;simp
    ·right
     rcases hob with ⟨e,_⟩ | ⟨_,hst,_,cs,E,hh,hcs,_,_,hR⟩
     ·rw [hn] at e;cases e
     ·have hc:Cells w L.b (0+lo * sz) (cs.toList.drop (lo * sz)):=(Cells.of_block hh).drop (lo * sz)
      rw [Nat.zero_add] at hc
      exact ⟨L.b,lo * sz,cs.toList.drop (lo * sz),by rw [hxa (by omega),hLs],hst rfl,hc,RVR.takeRows len (RVR.dropRows lo hR)⟩
 | .pt k off,q,v,hr,hv=>by
  simp only [ResE] at hr
  obtain ⟨kk,hkk,rfl⟩:=hr
  simp only [RV] at hv ⊢
  obtain ⟨b,hbx,rfl⟩:=hv
  exact ⟨b,by show (lkA kb kk).bind M.bx=_;rw [hkk];exact hbx,rfl⟩
 | .bs k off len,q,v,hr,hv=>by
  simp only [ResE] at hr
  obtain ⟨kk,hkk,rfl⟩:=hr
  simp only [RV] at hv ⊢
  obtain ⟨b,hbx,rfl⟩:=hv
  exact ⟨b,by show (lkA kb kk).bind M.bx=_;rw [hkk];exact hbx,rfl⟩
 | .ep sfx,q,v,hr,hv=>by simp only [ResE] at hr;subst hr;simp only [RV,ztl] at hv ⊢;exact hv
 | .eo k i off,q,v,hr,hv=>by
  simp only [ResE] at hr
  obtain ⟨kk,hkk,rfl⟩:=hr
  simp only [RV] at hv ⊢
  obtain ⟨L,hL,hc⟩:=hv
  exact ⟨L,by show (lkA ki kk).bind M.ob=_;rw [hkk];exact hL,hc⟩
 | .ub φ,q,v,hr,hv=>by simp only [ResE] at hr;subst hr;simp only [RV] at hv ⊢;exact hv
 | .nn kd,q,v,hr,hv=>by simp only [ResE] at hr;subst hr;simp only [RV] at hv ⊢;exact hv
 | .ls ..,q,v,hr,hv=>by simp [ResE] at hr
 | .lp ..,q,v,hr,hv=>by simp [ResE] at hr
 | .fs ..,q,v,hr,hv=>by simp [ResE] at hr
 | .bad,q,v,hr,hv=>by simp only [ResE] at hr;subst hr;simp [RV]
theorem ResEL.sound {w0 : World} {X : Nat → Prop} {S0 : Base} {M : Mem} {B : BMap} {O : OMap} {w : World} {kb ki : List (Nat × Nat)} {ro : List (Nat × Bool × Nat × List (List PV))} (h : HRel w0 X S0 M B O w) (ho : ∀ q ∈ ro, O q.1 = some (some (true, q.2.2))) :
    ∀ (ps qs:List PV) (cs:List Value),ResEL kb ki ro ps qs→RVL M w ps cs→RVL (M.inn kb ki) w qs cs
 | [],qs,cs,hr,hv=>by simp only [ResEL] at hr;subst hr;simpa [RVL] using hv
 | p :: ps,qs,cs,hr,hv=>by
  simp only [ResEL] at hr
  obtain ⟨q,r,rfl,h1,h2⟩:=hr
  simp only [RVL] at hv ⊢
  obtain ⟨c,rr,e,h3,h4⟩:=hv
  exact ⟨c,rr,e,ResE.sound h ho p q c h1 h3,ResEL.sound h ho ps r rr h2 h4⟩
end
mutual
def shE (kb ko:List (Nat×Nat)):PV→PV
 | .ag ps=>.ag (shEL kb ko ps)
 | .tu ps=>.tu (shEL kb ko ps)
 | .ow k lo len=>match lkA ko k with | some K=>.ow K lo len | none=>.bad
 | .eo k i off=>match lkA ko k with | some K=>.eo K i off | none=>.bad
 | .cl f caps=>.cl f (shEL kb ko caps)
 | .cm f caps=>.cm f (shEL kb ko caps)
 | .sc v=>.sc v
 | .sl sz rows=>.sl sz rows
 | .nl=>.nl
 | .pt k off=>match lkA kb k with | some K=>.pt K off | none=>.bad
 | .bs k off len=>match lkA kb k with | some K=>.bs K off len | none=>.bad
 | .ep sfx=>.ep sfx
 | .ub φ=>.ub φ
 | .nn kd=>.nn kd
 | .ls ..=>.bad
 | .lp ..=>.bad
 | .fs ..=>.bad
 | .bad=>.bad
def shEL (kb ko:List (Nat×Nat)):List PV→List PV
 | []=>[]
 | p :: ps=>shE kb ko p :: shEL kb ko ps
end
structure ShE (kb ko:List (Nat×Nat)) (M' M'':Mem):Prop where
 st:∀ b,M'.st b→M''.st b
 bx:∀ k K b,lkA kb k=some K→M'.bx k=some b→M''.bx K=some b
 ob:∀ k K L,lkA ko k=some K→M'.ob k=some L→M''.ob K=some L
theorem ShE.le {kb ko:List (Nat×Nat)}{M M':Mem} (h:ShE kb ko M M') (w:World):M.cl.Le M'.cl w w:=⟨h.st,(fun _ _ h=>by cases h),(fun _ _ h=>by cases h),(fun _ _=>rfl),(fun _ h=>h.elim),(fun _ h=>h.elim)⟩
mutual
theorem RV.shE {kb ko:List (Nat×Nat)}{M M':Mem}{w:World} (h:ShE kb ko M M'):∀ (p:PV) (v:Value),RV M w p v→RV M' w (Pv.shE kb ko p) v
 | .sc x,v,hv=>by simpa [RV,Pv.shE] using hv
 | .ag ps,v,hv=>by
  simp only [RV,Pv.shE] at hv ⊢
  obtain ⟨cs,e,r⟩:=hv
  exact ⟨cs,e,RVL.shE h ps _ r⟩
 | .tu ps,v,hv=>by
  simp only [RV,Pv.shE] at hv ⊢
  obtain ⟨cs,e,r⟩:=hv
  exact ⟨cs,e,RVL.shE h ps _ r⟩
 | .sl sz rows,v,hv=>by
  simp only [RV,Pv.shE] at hv ⊢
  obtain ⟨a,m,c,e,hn,hc,r⟩:=hv
  refine ⟨a,m,c,e,hn,hc,?_⟩
  rcases r with r | ⟨b,off,cs,ha,hs,hcl,hr⟩
  ·exact .inl r
  ·exact .inr ⟨b,off,cs,ha,h.st b hs,hcl,RVR.mono (h.le w) sz rows _ hr⟩
 | .nl,v,hv=>by simpa [RV,Pv.shE] using hv
 | .ow k lo len,v,hv=>by
  simp only [Pv.shE]
  cases hk:lkA ko k with
  | none=>simp [RV]
  | some K =>
   simp only [RV] at hv ⊢
   obtain ⟨L,hL,r⟩:=hv
   exact ⟨L,h.ob k K L hk hL,r⟩
 | .pt k off,v,hv=>by
  simp only [Pv.shE]
  cases hk:lkA kb k with
  | none=>simp [RV]
  | some K =>
   simp only [RV] at hv ⊢
   obtain ⟨b,hb,r⟩:=hv
   exact ⟨b,h.bx k K b hk hb,r⟩
 | .bs k off len,v,hv=>by
  simp only [Pv.shE]
  cases hk:lkA kb k with
  | none=>simp [RV]
  | some K =>
   simp only [RV] at hv ⊢
   obtain ⟨b,hb,r⟩:=hv
   exact ⟨b,h.bx k K b hk hb,r⟩
 | .ep sfx,v,hv=>by
  simp only [RV,Pv.shE] at hv ⊢
  obtain ⟨b,off,cs,e,hs,hcl,hr⟩:=hv
  exact ⟨b,off,cs,e,h.st b hs,hcl,RVL.mono (h.le w) sfx _ hr⟩
 | .eo k i off,v,hv=>by
  simp only [Pv.shE]
  cases hk:lkA ko k with
  | none=>simp [RV]
  | some K =>
   simp only [RV] at hv ⊢
   obtain ⟨L,hL,r⟩:=hv
   exact ⟨L,h.ob k K L hk hL,r⟩
 | .cl f caps,v,hv=>by
  simp only [RV,Pv.shE] at hv ⊢
  obtain ⟨cs,e,r⟩:=hv
  exact ⟨cs,e,RVL.shE h caps _ r⟩
 | .cm f caps,v,hv=>by
  simp only [RV,Pv.shE] at hv ⊢
  obtain ⟨cs,e,r⟩:=hv
  exact ⟨cs,e,RVL.shE h caps _ r⟩
 | .ub φ,v,hv=>by simp only [RV,Pv.shE] at hv ⊢;exact hv
 | .nn kd,v,hv=>by simp only [RV,Pv.shE] at hv ⊢;exact hv
 | .ls ..,v,hv=>by simp [RV,Pv.shE]
 | .lp ..,v,hv=>by simp [RV,Pv.shE]
 | .fs ..,v,hv=>by simp [RV,Pv.shE]
 | .bad,v,hv=>by simp [RV,Pv.shE]
theorem RVL.shE {kb ko:List (Nat×Nat)}{M M':Mem}{w:World} (h:ShE kb ko M M'):∀ (ps:List PV) (cs:List Value),RVL M w ps cs→RVL M' w (shEL kb ko ps) cs
 | [],cs,hv=>by simpa [RVL,shEL] using hv
 | p :: ps,cs,hv=>by
  simp only [RVL,shEL] at hv ⊢
  obtain ⟨c,r,e,h1,h2⟩:=hv
  exact ⟨c,r,e,RV.shE h p c h1,RVL.shE h ps r h2⟩
end
def zdi (M:Mem) (kb ki:List (Nat×Nat)) (b:Nat):Prop :=
 (∃ kk K,lkA kb kk=some K∧M.bx K=some b)∨∃ kk K L,lkA ki kk=some K∧M.ob K=some L∧L.nil=false∧L.b=b
structure Names (kb kc ki ko:List (Nat×Nat)) (B:BMap) (O:OMap):Prop where
 bigB:∀ kk K,lkA kb kk=some K→9990≤kk
 bigO:∀ kk K,lkA ki kk=some K→9990≤kk
 sub:∀ kk K,lkA ki kk=some K→lkA ko kk=some K
 subB:∀ kk K,lkA kb kk=some K→lkA kc kk=some K
 injB:∀ kk kk' K,lkA kc kk=some K→lkA kc kk'=some K→kk=kk'
 injO:∀ kk kk' K,lkA ko kk=some K→lkA ko kk'=some K→kk=kk'
 fresh:∀ kk K,lkA ko kk=some K→lkA ki kk=none→O K=none
 freshB:∀ kk K,lkA kc kk=some K→lkA kb kk=none→B K=none
 live:∀ kk K,lkA ki kk=some K→∃ sz rows,O K=some (some (false,sz,rows))
 boxed:∀ kk K,lkA kb kk=some K→∃ ls,B K=some ls
theorem zi0 {w0:World}{X:Nat→Prop}{S0:Base}{M:Mem}{B:BMap}{O:OMap}{w:World}{kb kc ki ko:List (Nat×Nat)} (h:HRel w0 X S0 M B O w) (hn:Names kb kc ki ko B O) {b:Nat} (hb:zdi M kb ki b):Own w0 X M b∧b < w.heap.size:=by
 rcases hb with ⟨kk,K,h1,h2⟩ | ⟨kk,K,L,h1,h2,h3,rfl⟩
 ·obtain ⟨ls,hl⟩:=hn.boxed kk K h1
  obtain ⟨ho,T,cs,hh,_⟩:=h.box' hl h2
  exact ⟨ho,zag hh⟩
 ·obtain ⟨sz,rows,hl⟩:=hn.live kk K h1
  obtain ⟨_,hc⟩:=h.obj' hl h2
  rcases hc with ⟨e,_⟩ | ⟨_,_,ho,cs,E,hh,_⟩
  ·rw [h3] at e;cases e
  ·exact ⟨ho rfl,zag hh⟩
theorem ziv {w0:World}{X:Nat→Prop}{S0:Base}{M:Mem}{B:BMap}{O:OMap}{w:World}{kb kc ki ko:List (Nat×Nat)} (h:HRel w0 X S0 M B O w) (hn:Names kb kc ki ko B O) {b K:Nat} (hK:∀ kk,lkA kb kk ≠ some K) (hb:M.bx K=some b):¬ zdi M kb ki b:=by
 rintro (⟨kk,K',h1,h2⟩ | ⟨kk,K',L,h1,h2,h3,h4⟩)
 ·have:=h.boxNe K K' b hb h2
  subst this
  exact hK kk h1
 ·obtain ⟨sz,rows,hl⟩:=hn.live kk K' h1
  exact h.boxObj K K' b _ L hb hl h2 h3 h4.symm
theorem zi2 {w0:World}{X:Nat→Prop}{S0:Base}{M:Mem}{B:BMap}{O:OMap}{w:World}{kb kc ki ko:List (Nat×Nat)} (h:HRel w0 X S0 M B O w) (hn:Names kb kc ki ko B O) {K:Nat}{fz:Bool}{sz:Nat}{rows:List (List PV)}{L:Loc} (hK:∀ kk,lkA ko kk ≠ some K) (ho:O K=some (some (fz,sz,rows))) (hL:M.ob K=some L) (hnil:L.nil=false):¬ zdi M kb ki L.b:=by
 intro hb
 have hown:=(zi0 h hn hb).1
 cases fz with
 | true =>
  obtain ⟨_,hc⟩:=h.obj' ho hL
  rcases hc with ⟨e,_⟩ | ⟨_,hf,_⟩
  ·rw [hnil] at e;cases e
  ·exact hown.2 (.inl (hf rfl))
 | false =>
  rcases hb with ⟨kk,K',h1,h2⟩ | ⟨kk,K',L',h1,h2,h3,h4⟩
  ·exact h.boxObj K' K L.b _ L h2 ho hL hnil rfl
  ·obtain ⟨sz',rows',hl⟩:=hn.live kk K' h1
   have:=h.objNe K' K _ _ L' L hl ho h2 hL h3 hnil h4
   subst this
   exact hK kk (hn.sub kk K' h1)
open Classical in
theorem HRel.mergeE {w0 : World} {X : Nat → Prop} {S0 : Base} {M M' : Mem} {B B' : BMap} {O O' : OMap} {w w' : World} {kb kc ki ko : List (Nat × Nat)} {bx' : List (Nat × List PV)} {ob' : List (Nat × Option (Bool × Nat × List (List PV)))} (h : HRel w0 X S0 M B O w) (hn : Names kb kc ki ko B O)
    (h':HRel w (zdi M kb ki) (zgk (M.inn kb ki)) M' (lkA bx') (lkA ob') w') (hko:∀ kk o,lkA ob' kk=some o→∃ K,lkA ko kk=some K)
    (hB:∀ K ls,B' K=some ls→(∃ kk ls0,lkA kc kk=some K∧lkA bx' kk=some ls0∧ls=shEL kc ko ls0)∨((∀ kk,lkA kc kk ≠ some K)∧B K=some ls)) (hB2:∀ K ls,B K=some ls→∃ ls',B' K=some ls') (hB3:∀ kk K ls,lkA kc kk=some K→lkA bx' kk=some ls→∃ ls',B' K=some ls')
    (hO:∀ K o,O' K=some o→(∃ kk,lkA ko kk=some K∧lkA ob' kk=some o)∨((∀ kk,lkA ko kk ≠ some K)∧O K=some o)) (hO2:∀ K o,O K=some o→∃ o',O' K=some o') (hO3:∀ kk K o,lkA ko kk=some K→lkA ob' kk=some o→∃ o',O' K=some o') :
    ∃ M'',HRel w0 X S0 M'' B' O' w'∧M.Le M'' w w'∧ShE kc ko M' M'':=by
 have hX:=fun b=>zi0 (b:=b) h hn
 have hold:∀ b,b < w.heap.size→¬ zdi M kb ki b→w'.heap[b]?=w.heap[b]?:=fun b h1 h2=>h'.kept b h1 h2
 have hst:∀ b,M'.st b→M.st b∨w.heap.size≤b∨zdi M kb ki b:=fun b hb=>h'.stok b hb
 have hpinB:∀ kk K b,lkA kb kk=some K→M.bx K=some b→M'.bx kk=some b:=by
  intro kk K b h1 h2
  refine h'.pinB kk b ?_
  show (if 9990≤kk then (lkA kb kk).bind M.bx else none)=some b
  rw [if_pos (hn.bigB kk K h1),h1];exact h2
 have hpinO:∀ kk K L,lkA ki kk=some K→M.ob K=some L→M'.ob kk=some L:=by
  intro kk K L h1 h2
  refine h'.pinO kk L ?_
  show (if 9990≤kk then (lkA ki kk).bind M.ob else none)=some L
  rw [if_pos (hn.bigO kk K h1),h1];exact h2
 let nob:Nat→Option Loc:=fun K=>if hx:∃ kk,lkA ko kk=some K then M'.ob (Classical.choose hx) else none
 let nbx:Nat→Option Nat:=fun K=>if hx:∃ kk,lkA kc kk=some K then M'.bx (Classical.choose hx) else none
 let M'':Mem:=⟨fun b=>M.st b∨M'.st b,fun K=>match M.bx K with | some b=>some b | none=>nbx K,fun K=>match M.ob K with | some L=>some L | none=>nob K,M.nw⟩
 have hbxs:∀ K b,M.bx K=some b→M''.bx K=some b:=by
  intro K b hK
  show (match M.bx K with | some b=>some b | none=>nbx K)=some b
  rw [hK]
 have hnbx:∀ kk K,lkA kc kk=some K→nbx K=M'.bx kk:=by
  intro kk K hk
  have hx:∃ kk,lkA kc kk=some K:=⟨kk,hk⟩
  show (if hx:∃ kk,lkA kc kk=some K then M'.bx (Classical.choose hx) else none)=_
  rw [dif_pos hx,hn.injB _ kk K (Classical.choose_spec hx) hk]
 have hinB:∀ kk K b,lkA kc kk=some K→M.bx K=some b→lkA kb kk=some K:=by
  intro kk K b h1 h2
  cases hi:lkA kb kk with
  | none =>
   obtain ⟨ls,hl⟩:=h.boxKey K b h2
   rw [hn.freshB kk K h1 hi] at hl;cases hl
  | some K'=>have:=hn.subB kk K' hi;rw [h1] at this;cases this;rfl
 have hfwB:∀ kk K b,lkA kc kk=some K→M'.bx kk=some b→M''.bx K=some b:=by
  intro kk K b h1 h2
  show (match M.bx K with | some b=>some b | none=>nbx K)=some b
  cases hm:M.bx K with
  | some b0=>have:=hpinB kk K b0 (hinB kk K b0 h1 hm) hm;rw [h2] at this;exact this.symm
  | none=>simp only [];rw [hnbx kk K h1];exact h2
 have hinvB:∀ K b,M''.bx K=some b→(∃ kk,lkA kc kk=some K∧M'.bx kk=some b)∨((∀ kk,lkA kc kk ≠ some K)∧M.bx K=some b):=by
  intro K b hK
  have hK':(match M.bx K with | some b=>some b | none=>nbx K)=some b:=hK
  by_cases hx:∃ kk,lkA kc kk=some K
  ·obtain ⟨kk,hk⟩:=hx
   left
   refine ⟨kk,hk,?_⟩
   cases hm:M.bx K with
   | some b0=>rw [hm] at hK';simp only [Option.some.injEq] at hK';subst hK';exact hpinB kk K b0 (hinB kk K b0 hk hm) hm
   | none=>rw [hm] at hK';simp only [] at hK';rw [hnbx kk K hk] at hK';exact hK'
  ·right
   refine ⟨fun kk hk=>hx ⟨kk,hk⟩,?_⟩
   cases hm:M.bx K with
   | some b0=>rw [hm] at hK';exact hK'
   | none =>
    rw [hm] at hK';simp only [] at hK'
    have:nbx K=none:=dif_neg hx
    rw [this] at hK';cases hK'
 have hobs:∀ K L,M.ob K=some L→M''.ob K=some L:=by
  intro K L hK
  show (match M.ob K with | some L=>some L | none=>nob K)=some L
  rw [hK]
 have hnob:∀ kk K,lkA ko kk=some K→nob K=M'.ob kk:=by
  intro kk K hk
  have hx:∃ kk,lkA ko kk=some K:=⟨kk,hk⟩
  show (if hx:∃ kk,lkA ko kk=some K then M'.ob (Classical.choose hx) else none)=_
  rw [dif_pos hx,hn.injO _ kk K (Classical.choose_spec hx) hk]
 have hin:∀ kk K L,lkA ko kk=some K→M.ob K=some L→lkA ki kk=some K:=by
  intro kk K L h1 h2
  cases hi:lkA ki kk with
  | none=>rw [h.ob_none (hn.fresh kk K h1 hi)] at h2;cases h2
  | some K'=>have:=hn.sub kk K' hi;rw [h1] at this;cases this;rfl
 have hfw:∀ kk K L,lkA ko kk=some K→M'.ob kk=some L→M''.ob K=some L:=by
  intro kk K L h1 h2
  show (match M.ob K with | some L=>some L | none=>nob K)=some L
  cases hm:M.ob K with
  | some L0=>have:=hpinO kk K L0 (hin kk K L0 h1 hm) hm;rw [h2] at this;exact this.symm
  | none=>simp only [];rw [hnob kk K h1];exact h2
 have hinv:∀ K L,M''.ob K=some L→(∃ kk,lkA ko kk=some K∧M'.ob kk=some L)∨((∀ kk,lkA ko kk ≠ some K)∧M.ob K=some L):=by
  intro K L hK
  have hK':(match M.ob K with | some L=>some L | none=>nob K)=some L:=hK
  by_cases hx:∃ kk,lkA ko kk=some K
  ·obtain ⟨kk,hk⟩:=hx
   left
   refine ⟨kk,hk,?_⟩
   cases hm:M.ob K with
   | some L0=>rw [hm] at hK';simp only [Option.some.injEq] at hK';subst hK';exact hpinO kk K L0 (hin kk K L0 hk hm) hm
   | none=>rw [hm] at hK';simp only [] at hK';rw [hnob kk K hk] at hK';exact hK'
  ·right
   refine ⟨fun kk hk=>hx ⟨kk,hk⟩,?_⟩
   cases hm:M.ob K with
   | some L0=>rw [hm] at hK';exact hK'
   | none =>
    rw [hm] at hK';simp only [] at hK'
    have:nob K=none:=dif_neg hx
    rw [this] at hK';cases hK'
 have hfw':∀ kk K L,lkA ko kk=some K→M''.ob K=some L→M'.ob kk=some L:=by
  intro kk K L h1 h2
  rcases hinv K L h2 with ⟨kk',h3,h4⟩ | ⟨h3,_⟩
  ·rw [hn.injO kk kk' K h1 h3];exact h4
  ·exact absurd h1 (h3 kk)
 have hnst:∀ b,M.st b→¬ zdi M kb ki b:=fun b hs hb=>(hX b hb).1.2 (.inl hs)
 have hnnw:∀ b,M.nw b→¬ zdi M kb ki b:=fun b hs hb=>(hX b hb).1.2 (.inr hs)
 have hle:M.Le M'' w w':=⟨fun _ h=>.inl h,hbxs,hobs,fun b hb=>hold b (h.stlt b hb) (hnst b hb),fun _ h=>h,fun b hb=>hold b (h.nwok b hb).1 (hnnw b hb)⟩
 have hnwok:∀ b,M.nw b→b < w'.heap.size∧(w0.heap.size≤b∨X b)∧¬ (M.st b∨M'.st b):=fun b hb=>⟨Nat.lt_of_lt_of_le (h.nwok b hb).1 h'.size,(h.nwok b hb).2.1,fun hs=>by
  rcases hs with hs | hs
  ·exact (h.nwok b hb).2.2 hs
  ·rcases hst b hs with hs | hs | hs
   ·exact (h.nwok b hb).2.2 hs
   ·have:=(h.nwok b hb).1;omega
   ·exact hnnw b hb hs⟩
 have hsh:ShE kc ko M' M'':=⟨fun _ h=>.inr h,hfwB,hfw⟩
 have hown:∀ b,b < w.heap.size→¬ zdi M kb ki b→Own w0 X M b→Own w0 X M'' b:=fun b hb hnb ⟨h1,h2⟩=>⟨h1,fun hs=>by
  rcases hs with (hs | hs) | hs
  ·exact h2 (.inl hs)
  ·rcases hst b hs with hs | hs | hs
   ·exact h2 (.inl hs)
   ·omega
   ·exact hnb hs
  ·exact h2 (.inr hs)⟩
 have hown':∀ b,Own w (zdi M kb ki) M' b→Own w0 X M'' b:=fun b ⟨h1,h2⟩=>by
  refine ⟨?_,?_⟩
  ·rcases h1 with h1 | h1
   ·exact .inl (Nat.le_trans h.size h1)
   ·exact (hX b h1).1.1
  ·rintro ((hs | hs) | hs)
   ·rcases h1 with h1 | h1
    ·have:=h.stlt b hs;omega
    ·exact hnst b hs h1
   ·exact h2 (.inl hs)
   ·rcases h1 with h1 | h1
    ·have:=(h.nwok b hs).1;omega
    ·exact hnnw b hs h1
 refine ⟨M'',{ os:=h'.os.trans h.os,tape:=h'.tape.trans h.tape,out:=h'.out.trans h.out,size:=Nat.le_trans h.size h'.size,kept:=?_,stlt:=?_,stok:=?_,box:=?_,boxKey:=?_,obj:=?_,objKey:=?_,boxNe:=?_,objNe:=?_,boxObj:=?_,pinB:=fun k b hk=>hle.bx k b (h.pinB k b hk),pinO:=fun k L hk=>hle.ob k L (h.pinO k L hk),nwok:=hnwok,c00:=⟨fun b hb=>by
  rcases hb with hb | hb
  ·exact (h.c00.1 b hb).imp id (C00.of (hold b (h.stlt b hb) (hnst b hb)))
  ·rcases h'.c00.1 b hb with x | x
   ·exact (h.c00.1 b x).imp id (C00.of (hold b (h.stlt b x) (hnst b x)))
   ·exact .inr x,fun b hb=>C00.of (hold b (h.nwok b hb).1 (hnnw b hb)) (h.c00.2 b hb)⟩ },hle,hsh⟩
 ·intro b hb hx
  have hnb:¬ zdi M kb ki b:=fun hh=>by
   rcases (hX b hh).1.1 with h1 | h1
   ·omega
   ·exact hx h1
  rw [hold b (Nat.lt_of_lt_of_le hb h.size) hnb]
  exact h.kept b hb hx
 ·intro b hb
  rcases hb with hb | hb
  ·exact Nat.lt_of_lt_of_le (h.stlt b hb) h'.size
  ·exact h'.stlt b hb
 ·intro b hb
  rcases hb with hb | hb
  ·exact h.stok b hb
  ·rcases hst b hb with hs | hs | hs
   ·exact h.stok b hs
   ·exact .inr (.inl (Nat.le_trans h.size hs))
   ·exact .inr ((hX b hs).1.1)
 ·intro K ls hK
  rcases hB K ls hK with ⟨kk,ls0,h1,h2,rfl⟩ | ⟨h1,h2⟩
  ·obtain ⟨b,T,cs,g1,g2,g3,g4⟩:=h'.box kk ls0 h2
   exact ⟨b,T,cs,hsh.bx kk K b h1 g1,hown' b g2,g3,RVL.shE hsh _ _ g4⟩
  ·obtain ⟨b,T,cs,g1,g2,g3,g4⟩:=h.box K ls h2
   have hnb:=ziv h hn (fun kk hk=>h1 kk (hn.subB kk K hk)) g1
   exact ⟨b,T,cs,hbxs K b g1,hown b (zag g3) hnb g2,by rw [hold b (zag g3) hnb];exact g3,RVL.mono hle _ _ g4⟩
 ·intro K b hK
  rcases hinvB K b hK with ⟨kk,h1,h2⟩ | ⟨h1,h2⟩
  ·obtain ⟨ls,hl⟩:=h'.boxKey kk b h2
   exact hB3 kk K ls h1 hl
  ·obtain ⟨ls,hl⟩:=h.boxKey K b h2
   exact hB2 K ls hl
 ·intro K fz sz rows hK
  rcases hO K _ hK with ⟨kk,h1,h2⟩ | ⟨h1,h2⟩
  ·obtain ⟨L,g1,g2,g3⟩:=h'.obj kk fz sz rows h2
   refine ⟨L,hfw kk K L h1 g1,g2,?_⟩
   rcases g3 with g3 | ⟨g3,hf,ho,c,E,h5,h6,h7,h8,h9⟩
   ·exact .inl g3
   ·exact .inr ⟨g3,fun e=>.inr (hf e),fun e=>hown' _ (ho e),c,E,h5,h6,h7,h8,RVR.mono (hsh.le w') _ _ _ h9⟩
  ·obtain ⟨L,g1,g2,g3⟩:=h.obj K fz sz rows h2
   refine ⟨L,hobs K L g1,g2,?_⟩
   rcases g3 with g3 | ⟨g3,hf,ho,c,E,h5,h6,h7,h8,h9⟩
   ·exact .inl g3
   ·have hnb:=zi2 h hn h1 h2 g1 g3
    exact .inr ⟨g3,fun e=>.inl (hf e),fun e=>hown _ (zag h5) hnb (ho e),c,E,by rw [hold _ (zag h5) hnb];exact h5,h6,h7,h8,RVR.mono hle.cl _ _ _ h9⟩
 ·intro K L hK
  rcases hinv K L hK with ⟨kk,h1,h2⟩ | ⟨h1,h2⟩
  ·obtain ⟨o,ho⟩:=h'.objKey kk L h2
   exact hO3 kk K o h1 ho
  ·obtain ⟨o,ho⟩:=h.objKey K L h2
   exact hO2 K o ho
 ·intro K K' b hK hK'
  have hcallee:∀ kk,M'.bx kk=some b→w.heap.size≤b∨zdi M kb ki b:=by
   intro kk hk
   obtain ⟨ls,hl⟩:=h'.boxKey kk b hk
   obtain ⟨ho,_⟩:=h'.box' hl hk
   exact ho.1
  have hcaller:∀ K,(∀ kk,lkA kc kk ≠ some K)→M.bx K=some b→b < w.heap.size∧¬ zdi M kb ki b:=by
   intro K g1 g2
   obtain ⟨ls,hl⟩:=h.boxKey K b g2
   obtain ⟨_,T,cs,hh,_⟩:=h.box' hl g2
   exact ⟨zag hh,ziv h hn (fun kk hk=>g1 kk (hn.subB kk K hk)) g2⟩
  rcases hinvB K b hK with ⟨kk,h1,h2⟩ | ⟨h1,h2⟩<;>rcases hinvB K' b hK' with ⟨kk',h3,h4⟩ | ⟨h3,h4⟩
  ·have:=h'.boxNe kk kk' b h2 h4
   subst this
   rw [h1] at h3;cases h3;rfl
  ·obtain ⟨a1,a2⟩:=hcaller K' h3 h4
   rcases hcallee kk h2 with a3 | a3
   ·omega
   ·exact absurd a3 a2
  ·obtain ⟨a1,a2⟩:=hcaller K h1 h2
   rcases hcallee kk' h4 with a3 | a3
   ·omega
   ·exact absurd a3 a2
  ·exact h.boxNe K K' b h2 h4
 ·intro K K' o o' L L' hK hK' hL hL' hnl hnl' heq
  have hcallee:∀ kk o L,lkA ob' kk=some (some (false,o))→M'.ob kk=some L→L.nil=false→w.heap.size≤L.b∨zdi M kb ki L.b:=by
   intro kk o L g1 g2 g3
   obtain ⟨_,hc⟩:=h'.obj' (fz:=false) (sz:=o.1) (rows:=o.2) g1 g2
   rcases hc with ⟨e,_⟩ | ⟨_,_,ho,_⟩
   ·rw [g3] at e;cases e
   ·exact (ho rfl).1
  have hcaller:∀ K o L,(∀ kk,lkA ko kk ≠ some K)→O K=some (some (false,o))→M''.ob K=some L→L.nil=false→L.b < w.heap.size∧¬ zdi M kb ki L.b∧M.ob K=some L:=by
   intro K o L g1 g2 g3 g4
   rcases hinv K L g3 with ⟨kk,g5,_⟩ | ⟨_,g5⟩
   ·exact absurd g5 (g1 kk)
   ·obtain ⟨_,hc⟩:=h.obj' (fz:=false) (sz:=o.1) (rows:=o.2) g2 g5
    rcases hc with ⟨e,_⟩ | ⟨_,_,_,cs,E,hc,_⟩
    ·rw [g4] at e;cases e
    ·exact ⟨zag hc,zi2 h hn g1 g2 g5 g4,g5⟩
  rcases hO K _ hK with ⟨kk,h1,h2⟩ | ⟨h1,h2⟩<;>rcases hO K' _ hK' with ⟨kk',h3,h4⟩ | ⟨h3,h4⟩
  ·have:=h'.objNe kk kk' o o' L L' h2 h4 (hfw' kk K L h1 hL) (hfw' kk' K' L' h3 hL') hnl hnl' heq
   subst this
   rw [h1] at h3;cases h3;rfl
  ·obtain ⟨a1,a2,_⟩:=hcaller K' o' L' h3 h4 hL' hnl'
   rcases hcallee kk o L h2 (hfw' kk K L h1 hL) hnl with a3 | a3
   ·omega
   ·rw [heq] at a3;exact absurd a3 a2
  ·obtain ⟨a1,a2,_⟩:=hcaller K o L h1 h2 hL hnl
   rcases hcallee kk' o' L' h4 (hfw' kk' K' L' h3 hL') hnl' with a3 | a3
   ·omega
   ·rw [← heq] at a3;exact absurd a3 a2
  ·obtain ⟨_,_,a1⟩:=hcaller K o L h1 h2 hL hnl
   obtain ⟨_,_,a2⟩:=hcaller K' o' L' h3 h4 hL' hnl'
   exact h.objNe K K' o o' L L' h2 h4 a1 a2 hnl hnl' heq
 ·intro K K' b o L hK hK' hL hnl
  rcases hinvB K b hK with ⟨kk,hk,hkb⟩ | ⟨hx,hK⟩
  ·rcases hO K' _ hK' with ⟨kk',h3,h4⟩ | ⟨h3,h4⟩
   ·exact h'.boxObj kk kk' b o L hkb h4 (hfw' kk' K' L h3 hL) hnl
   ·rcases hinv K' L hL with ⟨kk2,g5,_⟩ | ⟨_,g5⟩
    ·exact absurd g5 (h3 kk2)
    ·intro e
     obtain ⟨_,hc⟩:=h.obj' (fz:=false) (sz:=o.1) (rows:=o.2) h4 g5
     rcases hc with ⟨e1,_⟩ | ⟨_,_,_,cs,E,hc,_⟩
     ·rw [hnl] at e1;cases e1
     ·have hlt:=zag hc
      have hnb:=zi2 h hn h3 h4 g5 hnl
      obtain ⟨ls,hl⟩:=h'.boxKey kk b hkb
      obtain ⟨ho,_⟩:=h'.box' hl hkb
      rcases ho.1 with a | a
      ·omega
      ·rw [e] at a;exact hnb a
  ·obtain ⟨ls,hl⟩:=h.boxKey K b hK
   obtain ⟨_,T,cs,hh,_⟩:=h.box' hl hK
   have hlt:=zag hh
   rcases hO K' _ hK' with ⟨kk',h3,h4⟩ | ⟨h3,h4⟩
   ·have hL':=hfw' kk' K' L h3 hL
    have hnb:=ziv h hn (fun kk hk=>hx kk (hn.subB kk K hk)) hK
    intro e
    obtain ⟨_,hc⟩:=h'.obj' (fz:=false) (sz:=o.1) (rows:=o.2) h4 hL'
    rcases hc with ⟨e1,_⟩ | ⟨_,_,ho,_⟩
    ·rw [hnl] at e1;cases e1
    ·rcases (ho rfl).1 with a | a
     ·omega
     ·rw [← e] at a;exact hnb a
   ·rcases hinv K' L hL with ⟨kk,g5,_⟩ | ⟨_,g5⟩
    ·exact absurd g5 (h3 kk)
    ·exact h.boxObj K K' b o L hK h4 g5 hnl
theorem HRel.startE {w0 : World} {X : Nat → Prop} {S0 : Base} {M : Mem} {B : BMap} {O : OMap} {w : World} {kb kc ki ko : List (Nat × Nat)} {ro : List (Nat × Bool × Nat × List (List PV))} {bx : List (Nat × List PV)} {ob : List (Nat × Option (Bool × Nat × List (List PV)))} (h : HRel w0 X S0 M B O w) (hn : Names kb kc ki ko B O) (hro : ∀ q ∈ ro, O q.1 = some (some (true, q.2.2)))
    (hbx1:∀ kk ls',lkA bx kk=some ls'→∃ K ls,lkA kb kk=some K∧B K=some ls∧ResEL kb ki ro ls ls') (hbx2:∀ kk K,lkA kb kk=some K→∃ ls,lkA bx kk=some ls)
    (hob1:∀ kk o,lkA ob kk=some o→∃ K sz rows,lkA ki kk=some K∧O K=some (some (false,sz,rows))∧o=some (false,sz,rows)) (hob2:∀ kk K,lkA ki kk=some K→∃ o,lkA ob kk=some o) :
    HRel w (zdi M kb ki) (zgk (M.inn kb ki)) (M.inn kb ki) (lkA bx) (lkA ob) w:=by
 have hB:∀ kk b,(M.inn kb ki).bx kk=some b→∃ K,lkA kb kk=some K∧M.bx K=some b:=by
  intro kk b hk
  have hk':(lkA kb kk).bind M.bx=some b:=hk
  cases hl:lkA kb kk with
  | none=>rw [hl] at hk';cases hk'
  | some K=>rw [hl] at hk';exact ⟨K,rfl,hk'⟩
 have hO:∀ kk L,(M.inn kb ki).ob kk=some L→∃ K,lkA ki kk=some K∧M.ob K=some L:=by
  intro kk L hk
  have hk':(lkA ki kk).bind M.ob=some L:=hk
  cases hl:lkA ki kk with
  | none=>rw [hl] at hk';cases hk'
  | some K=>rw [hl] at hk';exact ⟨K,rfl,hk'⟩
 have hown:∀ b,zdi M kb ki b→Own w (zdi M kb ki) (M.inn kb ki) b:=fun b hb=>⟨.inr hb,fun hs=>(zi0 h hn hb).1.2 (.inl (hs.resolve_right id))⟩
 refine { os:=rfl,tape:=rfl,out:=rfl,size:=Nat.le_refl _,kept:=fun _ _ _=>rfl,stlt:=h.stlt,stok:=fun b hb=>.inl hb,box:=?_,boxKey:=?_,obj:=?_,objKey:=?_,boxNe:=?_,objNe:=?_,boxObj:=?_,pinB:=?_,pinO:=?_,nwok:=(fun _ h=>h.elim),c00:=⟨fun _ h=>.inl h,fun _ h=>h.elim⟩ }
 ·intro kk ls' hk
  obtain ⟨K,ls,h1,h2,h3⟩:=hbx1 kk ls' hk
  obtain ⟨b,T,cs,g1,g2,g3,g4⟩:=h.box K ls h2
  exact ⟨b,T,cs,by show (lkA kb kk).bind M.bx=_;rw [h1];exact g1,hown b (.inl ⟨kk,K,h1,g1⟩),g3,ResEL.sound h hro ls ls' _ h3 g4⟩
 ·intro kk b hk
  obtain ⟨K,h1,_⟩:=hB kk b hk
  exact hbx2 kk K h1
 ·intro kk fz sz rows hk
  obtain ⟨K,sz',rows',h1,h2,h3⟩:=hob1 kk _ hk
  cases h3
  obtain ⟨L,g1,g2,g3⟩:=h.obj K _ _ _ h2
  refine ⟨L,by show (lkA ki kk).bind M.ob=_;rw [h1];exact g1,g2,?_⟩
  rcases g3 with g3 | ⟨g3,hf,ho,c,E,h5,h6,h7,h8,h9⟩
  ·exact .inl g3
  ·exact .inr ⟨g3,(fun e=>by cases e),fun _=>hown _ (.inr ⟨kk,K,L,h1,g1,g3,rfl⟩),c,E,h5,h6,h7,h8,h9⟩
 ·intro kk L hk
  obtain ⟨K,h1,_⟩:=hO kk L hk
  exact hob2 kk K h1
 ·intro kk kk' b hk hk'
  obtain ⟨K,h1,h2⟩:=hB kk b hk
  obtain ⟨K',h3,h4⟩:=hB kk' b hk'
  have:=h.boxNe K K' b h2 h4
  subst this
  exact hn.injB kk kk' K (hn.subB _ _ h1) (hn.subB _ _ h3)
 ·intro kk kk' o o' L L' hk hk' hL hL' hnl hnl' heq
  obtain ⟨K,h1,h2⟩:=hO kk L hL
  obtain ⟨K',h3,h4⟩:=hO kk' L' hL'
  obtain ⟨sz,rows,h5⟩:=hn.live kk K h1
  obtain ⟨sz',rows',h6⟩:=hn.live kk' K' h3
  have:=h.objNe K K' _ _ L L' h5 h6 h2 h4 hnl hnl' heq
  subst this
  exact hn.injO kk kk' K (hn.sub _ _ h1) (hn.sub _ _ h3)
 ·intro kk kk' b o L hk hk' hL hnl
  obtain ⟨K,h1,h2⟩:=hB kk b hk
  obtain ⟨K',h3,h4⟩:=hO kk' L hL
  obtain ⟨sz',rows',h6⟩:=hn.live kk' K' h3
  exact h.boxObj K K' b _ L h2 h6 h4 hnl
 ·intro k b hk
  have hk':(if 9990≤k then (M.inn kb ki).bx k else none)=some b:=hk
  by_cases e:9990≤k
  ·rw [if_pos e] at hk';exact hk'
  ·rw [if_neg e] at hk';cases hk'
 ·intro k L hk
  have hk':(if 9990≤k then (M.inn kb ki).ob k else none)=some L:=hk
  by_cases e:9990≤k
  ·rw [if_pos e] at hk';exact hk'
  ·rw [if_neg e] at hk';cases hk'
def oneB (l:List (Nat×Nat)):Bool:=l.all fun p=>l.all fun q=>(Nat.beq p.1 q.1 && Nat.beq p.2 q.2) || (!Nat.beq p.1 q.1 && !Nat.beq p.2 q.2)
theorem zbl {α:Type}:∀ {l:List (Nat×α)}{k:Nat}{v:α},lkA l k=some v→(k,v) ∈ l
 | [],k,v,h=>by simp [lkA] at h
 | (j,u) :: r,k,v,h=>by
  simp only [lkA] at h
  by_cases e:j=k
  ·subst e;simp at h;simp [h]
  ·rw [zbj e] at h;exact List.mem_cons_of_mem _ (zbl h)
theorem zzc {l:List (Nat×Nat)} (h:oneB l=true) {p q:Nat×Nat} (hp:p ∈ l) (hq:q ∈ l):p.1=q.1 ↔ p.2=q.2:=by
 unfold oneB at h
 rw [List.all_eq_true] at h
 have h1:=h p hp
 rw [List.all_eq_true] at h1
 have h2:=h1 q hq
 by_cases e1:p.1=q.1<;>by_cases e2:p.2=q.2
 ·exact ⟨fun _=>e2,fun _=>e1⟩
 ·rw [e1,zbj e2] at h2;simp at h2
 ·rw [e2,zbj e1] at h2;simp at h2
 ·exact ⟨fun h=>absurd h e1,fun h=>absurd h e2⟩
theorem zgp {α:Type}:∀ {l:List (Nat×α)}{k:Nat}{v:α},(k,v) ∈ l→∃ u,lkA l k=some u
 | [],k,v,h=>by simp at h
 | (j,u) :: r,k,v,h=>by
  simp only [lkA]
  by_cases e:j=k
  ·subst e;exact ⟨u,by simp⟩
  ·rw [zbj e]
   simp only [cond_false]
   rcases List.mem_cons.1 h with h | h
   ·cases h;exact absurd rfl e
   ·exact zgp h
theorem zee {l:List (Nat×Nat)} (h:oneB l=true) {k K:Nat} (hm:(k,K) ∈ l):lkA l k=some K:=by
 have key:∀ (r:List (Nat×Nat)),(∀ x ∈ r,x ∈ l)→(k,K) ∈ r→lkA r k=some K:=by
  intro r
  induction r with
  | nil=>intro _ hm;simp at hm
  | cons p r ih =>
   obtain ⟨j,J⟩:=p
   intro hs hm
   simp only [lkA]
   by_cases e:j=k
   ·have:=(zzc h (hs (j,J) (by simp)) (by assumption:(k,K) ∈ l)).1 e
    subst e
    simp at this
    simp [this]
   ·rw [zbj e]
    simp only [cond_false]
    refine ih (fun x hx=>hs x (by simp [hx])) ?_
    rcases List.mem_cons.1 hm with hm | hm
    ·cases hm;exact absurd rfl e
    ·exact hm
 exact key l (fun _ h=>h) hm
theorem zos {l:List (Nat×Nat)} (h:oneB l=true):∀ kk kk' K,lkA l kk=some K→lkA l kk'=some K→kk=kk':=by
 intro kk kk' K h1 h2
 exact (zzc h (zbl h1) (zbl h2)).2 rfl
def tkA {α β:Type} (f:α→β) (l:List (Nat×α)):List (Nat×Nat)→List (Nat×β)
 | []=>[]
 | (kk,K) :: r=>match lkA l kk with
  | some x=>(K,f x) :: tkA f l r
  | none=>tkA f l r
theorem zf5 {α β:Type}{f:α→β}{l:List (Nat×α)}:∀ {r:List (Nat×Nat)}{K:Nat}{y:β},(K,y) ∈ tkA f l r ↔ ∃ kk x,(kk,K) ∈ r∧lkA l kk=some x∧y=f x
 | [],K,y=>by simp [tkA]
 | (j,J) :: r,K,y=>by
  simp only [tkA]
  cases hl:lkA l j with
  | none =>
   simp only []
   rw [zf5 (r:=r)]
   constructor
   ·rintro ⟨kk,x,h1,h2,h3⟩;exact ⟨kk,x,by simp [h1],h2,h3⟩
   ·rintro ⟨kk,x,h1,h2,h3⟩
    rcases List.mem_cons.1 h1 with h1 | h1
    ·cases h1;rw [hl] at h2;cases h2
    ·exact ⟨kk,x,h1,h2,h3⟩
  | some u =>
   simp only [List.mem_cons]
   rw [zf5 (r:=r)]
   constructor
   ·rintro (h | ⟨kk,x,h1,h2,h3⟩)
    ·cases h;exact ⟨j,u,.inl rfl,hl,rfl⟩
    ·exact ⟨kk,x,.inr h1,h2,h3⟩
   ·rintro ⟨kk,x,h1,h2,h3⟩
    rcases h1 with h1 | h1
    ·cases h1;rw [hl] at h2;cases h2;subst h3;exact .inl rfl
    ·exact .inr ⟨kk,x,h1,h2,h3⟩
theorem znt {α:Type}{f:Nat→Option α}{l:List (Nat×α)}{k:Nat}{v:α} (h:upd f l k=some v):(k,v) ∈ l∨(k ∉ l.map (·.1)∧f k=some v):=by
 unfold upd at h
 cases hf:l.find? (fun p=>p.1 == k) with
 | some p =>
  rw [hf] at h
  simp only [Option.some.injEq] at h
  have h1:=List.mem_of_find?_eq_some hf
  have h2:=List.find?_some hf
  simp at h2
  left
  rw [← h,← h2];exact h1
 | none =>
  rw [hf] at h
  refine .inr ⟨?_,h⟩
  intro hm
  obtain ⟨p,hp,e⟩:=List.mem_map.1 hm
  rw [List.find?_eq_none] at hf
  exact hf p hp (by simp [e])
theorem zo6 {α:Type}{f:Nat→Option α}{l:List (Nat×α)}{k:Nat} (h:k ∈ l.map (·.1)∨∃ v,f k=some v):∃ v,upd f l k=some v:=by
 unfold upd
 cases hf:l.find? (fun p=>p.1 == k) with
 | some p=>exact ⟨_,rfl⟩
 | none =>
  simp only []
  rcases h with h | h
  ·obtain ⟨p,hp,e⟩:=List.mem_map.1 h
   rw [List.find?_eq_none] at hf
   exact absurd (by simp [e]) (hf p hp)
  ·exact h
theorem z13 {P : Program} {o : Oper} {ts : List PV} {c : Call} {f : Nat} {ps qs : List PV} {r : PV} {bx bx' : List (Nat × List PV)} {ob ob' : List (Nat × Option (Bool × Nat × List (List PV)))} {kb kbn ki kn : List (Nat × Nat)} {ro rs : List (Nat × Bool × Nat × List (List PV))} {rb : List (Nat × List PV)}
    (ho:o.op=.call c) (hc:callee ts c.callee c.args.toList=some (f,ps)) (hres:ResEL kb ki ro ps qs) (hspec:CtrE P f qs bx ob r bx' ob')
    (hone1:oneB (kb++kbn)=true) (hone2:oneB (ki++kn)=true) (hbig:(kb.all fun p=>Nat.ble 9990 p.1)=true) (hbig2:(ki.all fun p=>Nat.ble 9990 p.1)=true)
    (hbx1:∀ kk ls',lkA bx kk=some ls'→∃ K ls,lkA kb kk=some K∧(K,ls) ∈ rb∧ResEL kb ki ro ls ls') (hbx2:∀ kk K,lkA kb kk=some K→∃ ls,lkA bx kk=some ls)
    (hob1:∀ kk o,lkA ob kk=some o→∃ K sz rows,lkA ki kk=some K∧(K,false,sz,rows) ∈ rs∧o=some (false,sz,rows)) (hob2:∀ kk K,lkA ki kk=some K→∃ o,lkA ob kk=some o)
    (hko:∀ kk o,lkA ob' kk=some o→∃ K,lkA (ki++kn) kk=some K) (hdis:∀ q ∈ ro,∀ p ∈ ki++kn,p.2 ≠ q.1) :
    OpSem P o ⟨shE (kb++kbn) (ki++kn) r,rb,ro++rs,kbn.map (·.2),kn.map (·.2),tkA (shEL (kb++kbn) (ki++kn)) bx' (kb++kbn),tkA (fun x=>x) ob' (ki++kn)++zbt ro⟩ ts:=by
 intro w0 X S0 M s a w Q K hr hl hs hk
 obtain ⟨vs,hvs,hrun⟩:=zdc (P:=P) hr ho hl hc
 obtain ⟨M1,h1,hle1,hob1',hbx1',hst1⟩:=hr.toHRel.freezeAll ro (fun q hq=>hs.2.1 q (by simp [hq]))
 have hup:∀ k,(∀ q ∈ ro,q.1 ≠ k)→upd s.O (zbt ro) k=s.O k:=by
  intro k hk
  rw [zc2]
  intro hm
  simp only [zbt,List.map_map,List.mem_map] at hm
  obtain ⟨q,hq,e⟩:=hm
  exact hk q hq e
 have hro:∀ q ∈ ro,upd s.O (zbt ro) q.1=some (some (true,q.2.2)):=by
  intro q hq
  obtain ⟨v,hv⟩:=zo6 (f:=s.O) (l:=zbt ro) (k:=q.1) (.inl (by simp only [zbt,List.map_map,List.mem_map];exact ⟨q,hq,rfl⟩))
  rw [hv]
  rcases znt hv with h | ⟨h,_⟩
  ·simp only [zbt,List.mem_map] at h
   obtain ⟨x,hx,e⟩:=h
   have e1:=hs.2.1 x (by simp [hx])
   have e2:=hs.2.1 q (by simp [hq])
   simp only [Prod.mk.injEq] at e
   obtain ⟨e3,e4⟩:=e
   rw [e3,e2] at e1
   simp only [Option.some.injEq] at e1
   rw [← e4,← e1]
  ·exact absurd (by simp only [zbt,List.map_map,List.mem_map];exact ⟨q,hq,rfl⟩) h
 have hki:∀ kk K,lkA ki kk=some K→lkA (ki++kn) kk=some K:=fun kk K hk=>zee hone2 (List.mem_append_left _ (zbl hk))
 have hkiL:∀ kk K,lkA ki kk=some K→∃ sz rows,s.O K=some (some (false,sz,rows)):=by
  intro kk K hk
  obtain ⟨o,ho⟩:=hob2 kk K hk
  obtain ⟨K',sz,rows,g1,g2,_⟩:=hob1 kk o ho
  rw [hk] at g1;cases g1
  exact ⟨sz,rows,hs.2.1 _ (List.mem_append_right _ g2)⟩
 have hkiF:∀ kk K,lkA ki kk=some K→upd s.O (zbt ro) K=s.O K:=fun kk K hk=>hup K fun q hq e=>hdis q hq (kk,K) (List.mem_append_left _ (zbl hk)) e.symm
 have hkb:∀ kk K,lkA kb kk=some K→lkA (kb++kbn) kk=some K:=fun kk K hk=>zee hone1 (List.mem_append_left _ (zbl hk))
 have hn:Names kb (kb++kbn) ki (ki++kn) s.B (upd s.O (zbt ro)):=by
  refine ⟨?_,?_,hki,hkb,zos hone1,zos hone2,?_,?_,?_,?_⟩
  ·intro kk K hk
   rw [List.all_eq_true] at hbig
   simpa using hbig _ (zbl hk)
  ·intro kk K hk
   rw [List.all_eq_true] at hbig2
   simpa using hbig2 _ (zbl hk)
  ·intro kk K h2 h3
   have hm:=zbl h2
   rw [hup K fun q hq e=>hdis q hq (kk,K) hm e.symm]
   rcases List.mem_append.1 hm with hm | hm
   ·exfalso
    have:=zgp hm
    obtain ⟨v,hv⟩:=this
    rw [h3] at hv;cases hv
   ·exact hs.2.2.2 K (List.mem_map.2 ⟨_,hm,rfl⟩)
  ·intro kk K h2 h3
   rcases List.mem_append.1 (zbl h2) with hm | hm
   ·exfalso
    have:=zgp hm
    obtain ⟨v,hv⟩:=this
    rw [h3] at hv;cases hv
   ·exact hs.2.2.1 K (List.mem_map.2 ⟨_,hm,rfl⟩)
  ·intro kk K h2
   rw [hkiF kk K h2]
   exact hkiL kk K h2
  ·intro kk K h2
   obtain ⟨ls',h3⟩:=hbx2 kk K h2
   obtain ⟨K',ls,g1,g2,_⟩:=hbx1 kk ls' h3
   rw [h2] at g1;cases g1
   exact ⟨ls,hs.1 _ g2⟩
 have hstart := h1.startE (bx := bx) (ob := ob) hn hro (fun kk ls' hk => by
     obtain ⟨K,ls,g1,g2,g3⟩:=hbx1 kk ls' hk
     exact ⟨K,ls,g1,hs.1 _ g2,g3⟩) hbx2 (fun kk o hk=>by
     obtain ⟨K,sz,rows,g1,g2,g3⟩:=hob1 kk o hk
     exact ⟨K,sz,rows,g1,by rw [hkiF kk K g1];exact hs.2.1 _ (List.mem_append_right _ g2),g3⟩) hob2
 have hq:=ResEL.sound h1 hro ps qs vs hres (RVL.mono hle1 _ _ hvs)
 have hS:=hspec.run w _ _ vs hstart hq
 unfold Oper.wp
 rw [hrun]
 have fin:∀ e w',(∃ v M',e=Ending.returned v∧RV M' w' r v∧HRel w (zdi M1 kb ki) (zgk (M1.inn kb ki)) M' (lkA bx') (lkA ob') w')→∃ v,e=.returned v∧K (a.put o.dst v) w':=by
  rintro e w' ⟨v,M',he,hrv,hrel⟩
  obtain ⟨M'',hm,hle,hsh⟩:=h1.mergeE (B':=upd s.B (tkA (shEL (kb++kbn) (ki++kn)) bx' (kb++kbn))) (O':=upd s.O (tkA (fun x=>x) ob' (ki++kn)++zbt ro)) hn hrel hko (by
   intro J ls hJ
   rcases znt hJ with h | ⟨h,h2⟩
   ·obtain ⟨kk,x,g1,g2,g3⟩:=zf5.1 h
    exact .inl ⟨kk,x,zee hone1 g1,g2,g3⟩
   ·by_cases hx:∃ kk,lkA (kb++kbn) kk=some J
    ·exfalso
     obtain ⟨kk,hkc⟩:=hx
     rcases List.mem_append.1 (zbl hkc) with hm | hm
     rotate_left
     ·have:=hs.2.2.1 J (List.mem_map.2 ⟨_,hm,rfl⟩)
      rw [h2] at this;cases this
     have hkk:lkA kb kk=some J:=by
      obtain ⟨v,hv⟩:=zgp hm
      have:=hkb kk v hv
      rw [hkc] at this;cases this;exact hv
     obtain ⟨b,hb⟩:∃ b,M1.bx J=some b:=by
      obtain ⟨ls0,hl0⟩:=hn.boxed kk J hkk
      obtain ⟨b,_,_,hb,_⟩:=h1.box J ls0 hl0
      exact ⟨b,hb⟩
     have hp:=hrel.pinB kk b (by
      show (if 9990≤kk then (lkA kb kk).bind M1.bx else none)=some b
      rw [if_pos (hn.bigB kk J hkk),hkk];exact hb)
     obtain ⟨ls1,hl1⟩:=hrel.boxKey kk b hp
     exact h (List.mem_map.2 ⟨_,zf5.2 ⟨kk,ls1,zbl hkc,hl1,rfl⟩,rfl⟩)
    ·exact .inr ⟨fun kk hk=>hx ⟨kk,hk⟩,h2⟩) (fun J ls hJ=>zo6 (.inr ⟨ls,hJ⟩)) (fun kk J ls g1 g2=>zo6 (.inl (List.mem_map.2 ⟨_,zf5.2 ⟨kk,ls,zbl g1,g2,rfl⟩,rfl⟩))) (by
   intro J o' hJ
   rcases znt hJ with h | ⟨h,h2⟩
   ·rcases List.mem_append.1 h with h | h
    ·obtain ⟨kk,x,g1,g2,g3⟩:=zf5.1 h
     subst g3
     exact .inl ⟨kk,zee hone2 g1,g2⟩
    ·right
     simp only [zbt,List.mem_map] at h
     obtain ⟨q,hq,e⟩:=h
     simp only [Prod.mk.injEq] at e
     obtain ⟨e1,e2⟩:=e
     refine ⟨fun kk hk=>hdis q hq _ (zbl hk) e1.symm,?_⟩
     rw [← e1,hro q hq,e2]
   ·simp only [List.map_append,List.mem_append,not_or] at h
    have hnf:upd s.O (zbt ro) J=s.O J:=zc2 h.2
    by_cases hx:∃ kk,lkA (ki++kn) kk=some J
    ·exfalso
     obtain ⟨kk,hkk⟩:=hx
     cases hi:lkA ki kk with
     | none =>
      have:=hn.fresh kk J hkk hi
      rw [hnf,h2] at this;cases this
     | some J' =>
      have:=hki kk J' hi
      rw [hkk] at this;cases this
      obtain ⟨sz,rows,hl⟩:=hn.live kk J hi
      obtain ⟨L,hL,_⟩:=h1.obj J _ _ _ hl
      have hp:=hrel.pinO kk L (by
       show (if 9990≤kk then (lkA ki kk).bind M1.ob else none)=some L
       rw [if_pos (hn.bigO kk J hi),hi];exact hL)
      obtain ⟨o1,hl1⟩:=hrel.objKey kk L hp
      exact h.1 (List.mem_map.2 ⟨_,zf5.2 ⟨kk,o1,zbl hkk,hl1,rfl⟩,rfl⟩)
    ·exact .inr ⟨fun kk hk=>hx ⟨kk,hk⟩,by rw [hnf];exact h2⟩) (by
   intro J o' hJ
   refine zo6 ?_
   by_cases hf:J ∈ (zbt ro).map (·.1)
   ·exact .inl (by simp only [List.map_append,List.mem_append];exact .inr hf)
   ·rw [zc2 hf] at hJ;exact .inr ⟨o',hJ⟩) (by
   intro kk J o' g1 g2
   exact zo6 (.inl (by simp only [List.map_append,List.mem_append];exact .inl (List.mem_map.2 ⟨_,zf5.2 ⟨kk,o',zbl g1,g2,rfl⟩,rfl⟩))))
  refine ⟨v,he,hk M'' _ _ ?_⟩
  have hr':Rel w0 X S0 M'' ⟨s.tmps,upd s.B (tkA (shEL (kb++kbn) (ki++kn)) bx' (kb++kbn)),upd s.O (tkA (fun x=>x) ob' (ki++kn)++zbt ro)⟩ a w':=⟨hm,hr.dfr,hr.len,fun t=>RV.mono (hle1.trans hle) _ _ (hr.tmp t)⟩
  have:=zbq hr' o.dst (RV.shE hsh r v hrv)
  simpa [St.apply] using this
 rcases hS with ⟨h1,h2⟩ | ⟨v,w',h1,h2⟩
 ·rw [h1,Oper.upon_enter]
  refine h2.mono ?_
  intro e w' he
  obtain ⟨v,rfl,hK⟩:=fin e w' he
  exact hK
 ·rw [h1,Oper.upon_value]
  obtain ⟨v',e,hK⟩:=fin _ w' h2
  cases e
  exact hK
end Go.Pv
