import Derived.Test.YtbhfokahocgndabGreatPvF
import Derived.Laws.MakeOwn
/-
  append; elements of an own slice that are written. Generic over the program.
-/
set_option linter.unusedSimpArgs false
set_option linter.unusedVariables false
namespace Go.Pv
section
variable {P:Program} (w:World)
theorem zqf (t ty e T : TypeId) (i : TypeInfo) (ht : P.underlying t = some (.slice e)) (hi : P.info? e = some i)
    (g sLen sCap:Nat) (cur:Array Value) (hg:w.heap[g]?=some (.cells cur T (0,0)))
    (a:Addr) (m c:Nat) (news:List Value) (hl:news.length=m * i.size) (hnews:∀ j u,news[j]?=some u→w.cell? (a.add j)=some u) (h1:∀ u ∈ news,u.oneCell'=true)
    (hroom:sLen+m≤sCap) (hfit:sLen * i.size+news.length≤cur.size) :
    (Builtin.append_ #[t,t] ty #[.slice (some ⟨g,0,none⟩) sLen sCap,.slice (some a) m c]).run P w =
     .ok (.slice (some ⟨g,0,none⟩) (sLen+m) sCap) (w.setRow g (cur.toList.take (sLen * i.size)++news++cur.toList.drop (sLen * i.size+news.length)).toArray):=by
 have hf:=run_firstCells_some (P:=P) w i.size m a m c news hl hnews
 have hst:=run_storeCells_at P g (sLen * i.size) T news 0 cur w hg (by simpa using hfit) h1
 simp only [Nat.add_zero] at hst
 simp [Builtin.append_,run_underlying ht,sizeOf,typeInfo,hi,Builtin.lenOf,hroom,hf,Addr.add_lit,hst]
theorem zgc (t ty e : TypeId) (i : TypeInfo) (ht : P.underlying t = some (.slice e)) (hi : P.info? e = some i) (sa xa : Option Addr) (sLen sCap xc : Nat) (hle : sLen ≤ sCap) :
    (Builtin.append_ #[t,t] ty #[.slice sa sLen sCap,.slice xa 0 xc]).run P w=.ok (.slice sa sLen sCap) w:=by
 cases sa<;>cases xa<;>simp [Builtin.append_,run_underlying ht,sizeOf,typeInfo,hi,Builtin.lenOf,Builtin.firstCells,loadCells,loadCellsFrom,hle,storeCells]
theorem zik (t ty e : TypeId) (i : TypeInfo) (z : Value) (ht : P.underlying t = some (.slice e)) (hi : P.info? e = some i) (hz : i.zero = some z) (sa : Option Addr)
    (a:Addr) (n c:Nat) (news:List Value) (hl:news.length=n * i.size) (hnews:∀ j v,news[j]?=some v→w.cell? (a.add j)=some v)
    (h0:0 < n) (h63:(n:Int)≤9223372036854775807) (hb:n * i.bytes≤140737488355328) :
    (Builtin.append_ #[t,t] ty #[.slice sa 0 0,.slice (some a) n c]).run P w =
     .ok (.slice (some ⟨w.heap.size,0,none⟩) n (grownCap w n 0 e)) (w.drew.alloc (.cells (news.toArray++Builtin.zeroCells z.cells (grownCap w n 0 e - n)) e)):=by
 cases sa with
 | none=>exact run_append_nil w t ty e i z ht hi hz a n c news hl hnews h0 h63 (by omega)
 | some b =>
  have:=run_append_grow (P:=P) w t ty e i z ht hi hz b 0 0 [] (by simp) (by simp) a n c news hl hnews (by omega) (by simpa using h63) (growslice_fits (by omega) (by simpa using hb))
  simpa using this
end
def srcOk (p:PV) (sz:Nat) (ro:List (Nat×Bool×Nat×List (List PV))) (rows:List (List PV)):Prop :=
 (p=.sl sz rows∧ro=[])∨(p=.nl∧rows=[]∧ro=[])∨∃ k lo len fz all,p=.ow k lo len∧ro=[(k,fz,sz,all)]∧rows=(all.drop lo).take len∧lo+len≤all.length
theorem zkf {M:Mem}{w:World}{sz:Nat}:∀ {rows:List (List PV)}{cs:List Value},(∀ r ∈ rows,r.all leaf1=true)→RVR M w sz rows cs→cs.length=rows.length * sz→∀ v ∈ cs,v.oneCell'=true
 | [],cs,_,_,hl=>by
  have:cs=[]:=List.eq_nil_of_length_eq_zero (by simpa using hl)
  subst this;simp
 | r :: rs,cs,h1,h,hl=>by
  simp only [RVR] at h
  obtain ⟨c1,c2,rfl,hr,h2,h3⟩:=h
  have hc1:c1.length=sz:=by rw [h2.length,hr]
  intro v hv
  rcases List.mem_append.1 hv with hv | hv
  ·exact zcu (h1 r (by simp)) h2 v hv
  ·refine zkf (fun q hq=>h1 q (by simp [hq])) h3 ?_ v hv
   simp only [List.length_append,List.length_cons,Nat.add_mul,Nat.one_mul] at hl
   omega
theorem zpc {w0 : World} {X : Nat → Prop} {S0 : Base} {M : Mem} {s : St} {a : Act} {w : World} {p : PV} {sz : Nat} {ro : List (Nat × Bool × Nat × List (List PV))} {rows : List (List PV)} {v : Value} (hr : Rel w0 X S0 M s a w) (hv : RV M w p v) (h : srcOk p sz ro rows) (hro : ∀ q ∈ ro, s.O q.1 = some (some q.2)) :
    ∃ xa xc,v=.slice xa rows.length xc∧(rows=[]∨∃ ad news,xa=some ad∧news.length=rows.length * sz∧(∀ j u,news[j]?=some u→w.cell? (ad.add j)=some u)∧RVR M.cl w sz rows news):=by
 rcases h with ⟨rfl,rfl⟩ | ⟨rfl,rfl,rfl⟩ | ⟨k,lo,len,fz,all,rfl,rfl,rfl,hle⟩
 ·simp only [RV] at hv
  obtain ⟨xa,n,c,rfl,rfl,_,hcase⟩:=hv
  refine ⟨xa,c,rfl,?_⟩
  rcases hcase with e | ⟨b,off,cs,rfl,hst,hc,hR⟩
  ·exact .inl e
  ·obtain ⟨h1,h2⟩:=hR.exact
   refine .inr ⟨_,cs.take (rows.length * sz),rfl,by simp;omega,fun j u hj=>?_,h2⟩
   rw [Addr.add_lit]
   exact hc.take _ j u hj
 ·simp only [RV] at hv
  obtain ⟨xa,rfl⟩:=hv
  exact ⟨xa,0,rfl,.inl rfl⟩
 ·simp only [RV] at hv
  obtain ⟨L,hL,hcase⟩:=hv
  have hlen:((all.drop lo).take len).length=len:=by simp;omega
  obtain ⟨hLs,hob⟩:=hr.toHRel.obj' (hro (k,fz,sz,all) (by simp)) hL
  rcases hcase with ⟨hn,rfl,xa,rfl⟩ | ⟨hn,hcap,xa,rfl,hxa⟩
  ·exact ⟨xa,0,by rw [hlen],.inl (by simp)⟩
  ·refine ⟨xa,_,by rw [hlen],?_⟩
   by_cases h0:len=0
   ·left;subst h0;simp
   ·right
    rcases hob with ⟨h,_⟩ | ⟨_,_,_,cs,E,hh,hcs,_,_,hR⟩
    ·rw [hn] at h;cases h
    ·have hR':=RVR.takeRows len (RVR.dropRows lo hR)
     obtain ⟨e1,e2⟩:=hR'.exact
     refine ⟨⟨L.b,lo * L.sz,none⟩,(cs.toList.drop (lo * sz)).take (((all.drop lo).take len).length * sz),hxa (by omega),by rw [List.length_take];omega,fun j u hj=>?_,e2⟩
     rw [Addr.add_lit,hLs]
     have hc:Cells w L.b (0+lo * sz) (cs.toList.drop (lo * sz)):=(Cells.of_block hh).drop (lo * sz)
     rw [Nat.zero_add] at hc
     exact hc.take _ j u hj
theorem HRel.grow {w0 : World} {X : Nat → Prop} {S0 : Base} {M : Mem} {B : BMap} {O : OMap} {w : World} (h : HRel w0 X S0 M B O w) {d : Nat} (hd : O d = none) {cells : Array Value} {e : TypeId} {sz cap : Nat} {rows : List (List PV)} (hsz : cells.size = cap * sz) (hlen : rows.length ≤ cap) (hm : cap ≤ maxLen) (hR : RVR M.cl w sz rows cells.toList) :
    ∃ M',HRel w0 X S0 M' B (upd O [(d,some (false,sz,rows))]) (w.drew.alloc (.cells cells e))∧M.Le M' w (w.drew.alloc (.cells cells e))∧M'.ob d=some ⟨w.heap.size,sz,cap,false⟩:=by
 generalize hnw:w.drew.alloc (.cells cells e)=w1
 have hh:∀ b,b < w.heap.size→w1.heap[b]?=w.heap[b]?:=fun b hlt=>by subst hnw;exact zam w.drew _ hlt
 have hle0:M.Le M w w1:=⟨fun _ h=>h,fun _ _ h=>h,fun _ _ h=>h,fun b hb=>hh b (h.stlt b hb),fun _ h=>h,fun b hb=>hh b (h.nwok b hb).1⟩
 have hrel1:HRel w0 X S0 M B O w1:=h.world hle0 (by subst hnw;rfl) (by subst hnw;rfl) (by subst hnw;rfl) (by subst hnw;simp) hh
 have hblk:w1.heap[w.heap.size]?=some (.cells cells e (0,0)):=by subst hnw;exact zcd w.drew _
 obtain ⟨M',hnew,hle,hob⟩:=hrel1.addObj (k:=d) hd ⟨w.heap.size,sz,cap,false⟩ (rows:=rows) (.inr ⟨rfl,⟨.inl h.size,fun hs=>Nat.lt_irrefl _ (h.snlt _ hs)⟩,cells,e,hblk,hsz,hlen,hm,RVR.mono hle0.cl _ _ _ hR⟩)
  (fun j b hj _=>by
   obtain ⟨ls,hls⟩:=h.boxKey j b hj
   obtain ⟨_,T,cs,hc,_⟩:=h.box' hls hj
   exact Nat.ne_of_lt (zag hc))
  (fun j q L' hj hL' hn _=>by
   obtain ⟨_,hcase⟩:=h.obj' (fz:=false) (sz:=q.1) (rows:=q.2) hj hL'
   rcases hcase with ⟨h,_⟩ | ⟨_,_,_,cs,E,hc,_⟩
   ·rw [hn] at h;cases h
   ·exact Nat.ne_of_lt (zag hc))
 exact ⟨M',hnew,hle0.trans hle,hob⟩
theorem z2n {P : Program} {o : Oper} {ts : List PV} {x y : Operand} {t e : TypeId} {inf : TypeInfo} {z : Value} {p : PV} {d : Nat} {ro : List (Nat × Bool × Nat × List (List PV))} {rows : List (List PV)}
    (ho:o.op=.call { callee:=.builtin .append,args:=#[x,y],argTypes:=#[t,t] }) (ht:P.underlying t=some (.slice e)) (hi:P.info? e=some inf) (hz:inf.zero=some z) (hzs:z.cells.size=inf.size)
    (hx:aev ts x=.nl) (hy:aev ts y=p) (hsrc:srcOk p inf.size ro rows) (hb:rows.length * inf.bytes≤140737488355328) (hm:rows.length≤maxLen) :
    OpSem P o ⟨.ow d 0 rows.length,[],ro,[],[d],[],[(d,some (false,inf.size,rows))]⟩ ts:=by
 intro w0 X S0 M s a w Q K hr hl hs hk
 rw [ho] at hl
 have h1:=ev_of hr hl (x:=x) (by simp [Op.operands,Call.operands]) hx
 have h2:=ev_of hr hl (x:=y) (by simp [Op.operands,Call.operands]) hy
 simp only [RV] at h1
 obtain ⟨sa,hv⟩:=h1
 obtain ⟨xa,xc,hv',hcase⟩:=zpc hr h2 hsrc hs.2.1
 have hfo:=hs.2.2.2 d (by simp)
 unfold Oper.wp
 by_cases h0:rows=[]
 ·subst h0
  have hrun:=zgc (P:=P) w t o.type e inf ht hi sa xa 0 0 xc (Nat.le_refl _)
  have hex:(execOp a.eval o).run P w=.ok (.value (.slice sa 0 0)) w:=by
   simp only [List.length_nil] at hv'
   simp [execOp,ho,resolve,invoke,builtin,hv,hv',hrun]
  rw [hex,Oper.upon_value]
  obtain ⟨M',hnew,hle,hob⟩:=hr.toHRel.addObj (k:=d) hfo ⟨0,inf.size,0,true⟩ (rows:=[]) (.inl ⟨rfl,rfl⟩) (fun _ _ _ h=>by cases h) (fun _ _ _ _ _ _ h=>by cases h)
  refine hk M' _ _ ?_
  have hr':Rel w0 X S0 M' ⟨s.tmps,s.B,upd s.O [(d,some (false,inf.size,[]))]⟩ a w:=⟨hnew,hr.dfr,hr.len,fun t=>RV.mono hle _ _ (hr.tmp t)⟩
  have:=zbq hr' o.dst (p:=.ow d 0 0) (v:=.slice sa 0 0) (by simp only [RV];exact ⟨_,hob,.inl ⟨rfl,rfl,sa,rfl⟩⟩)
  simpa [St.apply,zbv] using this
 ·rcases hcase with h | ⟨ad,news,rfl,hnl,hnews,hR⟩
  ·exact absurd h h0
  ·have hpos:0 < rows.length:=List.length_pos_iff.2 h0
   have hrun:=zik (P:=P) w t o.type e inf z ht hi hz sa ad rows.length xc news hnl hnews hpos (by unfold maxLen at hm;omega) hb
   have hex:(execOp a.eval o).run P w=.ok (.value (.slice (some ⟨w.heap.size,0,none⟩) rows.length (grownCap w rows.length 0 e))) (w.drew.alloc (.cells (news.toArray++Builtin.zeroCells z.cells (grownCap w rows.length 0 e - rows.length)) e)):=by
    simp [execOp,ho,resolve,invoke,builtin,hv,hv',hrun]
   rw [hex,Oper.upon_value]
   have hge:=grownCap_ge w rows.length 0 e
   have hcm:=grownCap_le_maxLen w rows.length 0 e hm
   obtain ⟨M',hnew,hle,hob⟩:=hr.toHRel.grow (d:=d) hfo (cells:=news.toArray++Builtin.zeroCells z.cells (grownCap w rows.length 0 e - rows.length)) (e:=e) (sz:=inf.size) (cap:=grownCap w rows.length 0 e) (rows:=rows)
    (by simp only [Array.size_append,List.size_toArray,size_zeroCells,hzs,hnl,← Nat.add_mul];congr 1;omega) hge hcm (by simp only [Array.toList_append];exact hR.ext _)
   refine hk M' _ _ ?_
   have hr':Rel w0 X S0 M' ⟨s.tmps,s.B,upd s.O [(d,some (false,inf.size,rows))]⟩ a _:=⟨hnew,hr.dfr,hr.len,fun t=>RV.mono hle _ _ (hr.tmp t)⟩
   have:=zbq hr' o.dst (p:=.ow d 0 rows.length) (v:=.slice (some ⟨w.heap.size,0,none⟩) rows.length (grownCap w rows.length 0 e)) (by
    simp only [RV];exact ⟨_,hob,.inr ⟨rfl,by simpa using hge,some ⟨w.heap.size,0,none⟩,by simp,fun _=>by simp⟩⟩)
   simpa [St.apply,zbv] using this
theorem z3o {P : Program} {o : Oper} {ts : List PV} {x y : Operand} {t e : TypeId} {inf : TypeInfo} {z : Value} {p : PV} {d k len : Nat} {all : List (List PV)} {ro : List (Nat × Bool × Nat × List (List PV))} {rows : List (List PV)}
    (ho:o.op=.call { callee:=.builtin .append,args:=#[x,y],argTypes:=#[t,t] }) (ht:P.underlying t=some (.slice e)) (hi:P.info? e=some inf) (hz:inf.zero=some z) (hzs:z.cells.size=inf.size)
    (hx:aev ts x=.ow k 0 len) (hy:aev ts y=p) (hsrc:srcOk p inf.size ro rows) (hdk:d ≠ k) (hlen:len≤all.length) (hb:(len+rows.length) * inf.bytes≤140737488355328) (hm:len+rows.length≤maxLen) (h1:∀ r ∈ rows,r.all leaf1=true) :
    OpSem P o ⟨.ow d 0 (len+rows.length),[],(k,false,inf.size,all) :: ro,[],[d],[],[(k,none),(d,some (false,inf.size,all.take len++rows))]⟩ ts:=by
 intro w0 X S0 M s a w Q K hr hl hs hk
 rw [ho] at hl
 have hxv:=ev_of hr hl (x:=x) (by simp [Op.operands,Call.operands]) hx
 have hyv:=ev_of hr hl (x:=y) (by simp [Op.operands,Call.operands]) hy
 obtain ⟨xa,xc,hv',hcase⟩:=zpc hr hyv hsrc (fun q hq=>hs.2.1 q (by simp [hq]))
 have hfo:=hs.2.2.2 d (by simp)
 have hO:=hs.2.1 (k,false,inf.size,all) (by simp)
 simp only [RV] at hxv
 obtain ⟨L,hL,hOw⟩:=hxv
 obtain ⟨hLs,hLc⟩:=hr.toHRel.obj' hO hL
 have hkill:=hr.toHRel.killObj k
 have hfo':upd s.O [(k,none)] d=none:=by rw [zaz,if_neg hdk];exact hfo
 have happ:∀ v:Option (Bool×Nat×List (List PV)),upd (upd s.O [(k,none)]) [(d,v)]=upd s.O [(k,none),(d,v)]:=by
  intro v;funext j
  rw [zaz,zaz]
  unfold upd
  by_cases e1:k=j
  ·subst e1
   have:¬ k=d:=fun e=>hdk e.symm
   simp [this]
  ·by_cases e2:d=j
   ·subst e2;simp [e1]
   ·have e1':¬ j=k:=fun e=>e1 e.symm
    have e2':¬ j=d:=fun e=>e2 e.symm
    simp [e1,e2,e1',e2']
 have fin:∀ (M':Mem) (w1:World) (v:Value),HRel w0 X S0 M' s.B (upd (upd s.O [(k,none)]) [(d,some (false,inf.size,all.take len++rows))]) w1→M.Le M' w w1→RV M' w1 (.ow d 0 (len+rows.length)) v→K (a.put o.dst v) w1:=by
  intro M' w1 v hnew hle hv
  refine hk M' _ _ ?_
  have hr':Rel w0 X S0 M' ⟨s.tmps,s.B,upd s.O [(k,none),(d,some (false,inf.size,all.take len++rows))]⟩ a w1:=⟨by rw [← happ];exact hnew,hr.dfr,hr.len,fun t=>RV.mono hle _ _ (hr.tmp t)⟩
  have:=zbq hr' o.dst hv
  simpa [St.apply,zbv] using this
 unfold Oper.wp
 -- the slice has no room at all: as nothing
 have hfresh:∀ sa,a.eval x=.slice sa 0 0→len=0→o.upon P a K Q ((execOp a.eval o).run P w):=by
  intro sa hv hl0
  subst hl0
  by_cases h0:rows=[]
  ·subst h0
   have hrun:=zgc (P:=P) w t o.type e inf ht hi sa xa 0 0 xc (Nat.le_refl _)
   have hex:(execOp a.eval o).run P w=.ok (.value (.slice sa 0 0)) w:=by
    simp only [List.length_nil] at hv'
    simp [execOp,ho,resolve,invoke,builtin,hv,hv',hrun]
   rw [hex,Oper.upon_value]
   obtain ⟨M',hnew,hle,hob⟩:=hkill.addObj (k:=d) hfo' ⟨0,inf.size,0,true⟩ (rows:=[]) (.inl ⟨rfl,rfl⟩) (fun _ _ _ h=>by cases h) (fun _ _ _ _ _ _ h=>by cases h)
   exact fin M' w _ (by simpa using hnew) hle (by simp only [RV];exact ⟨_,hob,.inl ⟨rfl,by simp,sa,rfl⟩⟩)
  ·rcases hcase with h | ⟨ad,news,rfl,hnl,hnews,hR⟩
   ·exact absurd h h0
   ·have hpos:0 < rows.length:=List.length_pos_iff.2 h0
    have hrun:=zik (P:=P) w t o.type e inf z ht hi hz sa ad rows.length xc news hnl hnews hpos (by unfold maxLen at hm;omega) (by simpa using hb)
    have hex:(execOp a.eval o).run P w=.ok (.value (.slice (some ⟨w.heap.size,0,none⟩) rows.length (grownCap w rows.length 0 e))) (w.drew.alloc (.cells (news.toArray++Builtin.zeroCells z.cells (grownCap w rows.length 0 e - rows.length)) e)):=by
     simp [execOp,ho,resolve,invoke,builtin,hv,hv',hrun]
    rw [hex,Oper.upon_value]
    have hge:=grownCap_ge w rows.length 0 e
    have hcm:=grownCap_le_maxLen w rows.length 0 e (by simpa using hm)
    obtain ⟨M',hnew,hle,hob⟩:=hkill.grow (d:=d) hfo' (cells:=news.toArray++Builtin.zeroCells z.cells (grownCap w rows.length 0 e - rows.length)) (e:=e) (sz:=inf.size) (cap:=grownCap w rows.length 0 e) (rows:=rows)
     (by simp only [Array.size_append,List.size_toArray,size_zeroCells,hzs,hnl,← Nat.add_mul];congr 1;omega) hge hcm (by simp only [Array.toList_append];exact hR.ext _)
    refine fin M' _ _ (by simpa using hnew) hle ?_
    simp only [RV];exact ⟨_,hob,.inr ⟨rfl,by simpa using hge,some ⟨w.heap.size,0,none⟩,by simp,fun _=>by simp⟩⟩
 rcases hOw with ⟨hn,rfl,sa,hv⟩ | ⟨hn,hcap,sa,hv,hsa⟩
 ·exact hfresh sa hv rfl
 ·by_cases hc0:L.cap=0
  ·exact hfresh sa (by rw [hv];congr 1<;>omega) (by omega)
  ·have hsa':sa=some ⟨L.b,0,none⟩:=by simpa using hsa (by omega)
   subst hsa'
   rcases hLc with ⟨h,_⟩ | ⟨_,_,hown,cs,E,hh,hcs,hrl,hcm0,hRall⟩
   ·rw [hn] at h;cases h
   simp only [Nat.sub_zero] at hv
   have hown:=hown rfl
   have hbox:∀ j,M.bx j ≠ some L.b:=fun j hj=>hr.boxObj j k L.b _ L hj hO hL hn rfl
   have hobj:∀ j q L',upd s.O [(k,none)] j=some (some (false,q))→M.ob j=some L'→L'.nil=false→L'.b ≠ L.b:=by
    intro j q L' hj hL' hn' e
    rw [zaz] at hj
    by_cases ej:j=k
    ·rw [if_pos ej] at hj;simp at hj
    ·rw [if_neg ej] at hj
     exact ej (hr.objNe j k q _ L' L hj hO hL' hL hn' hn e)
   have hRt:RVR M.cl w inf.size (all.take len) cs.toList:=RVR.takeRows len hRall
   have htl:(all.take len).length=len:=by simp;omega
   obtain ⟨hx1,hx2⟩:=hRt.exact
   rw [htl] at hx1 hx2
   by_cases h0:rows=[]
   ·subst h0
    have hrun:=zgc (P:=P) w t o.type e inf ht hi (some ⟨L.b,0,none⟩) xa len L.cap xc (by omega)
    have hex:(execOp a.eval o).run P w=.ok (.value (.slice (some ⟨L.b,0,none⟩) len L.cap)) w:=by
     simp only [List.length_nil] at hv'
     simp [execOp,ho,resolve,invoke,builtin,hv,hv',hrun]
    rw [hex,Oper.upon_value]
    obtain ⟨M',hnew,hle,hob⟩:=hkill.addObj (k:=d) hfo' ⟨L.b,inf.size,L.cap,false⟩ (rows:=all.take len) (.inr ⟨rfl,hown,cs,E,hh,hcs,(by show (all.take len).length≤L.cap;omega),hcm0,hRt⟩) (fun j b hj _ e=>hbox j (by rw [hj,e])) (fun j q L' hj hL' hn' _=>hobj j q L' hj hL' hn')
    exact fin M' w _ (by simpa using hnew) hle (by simp only [RV];exact ⟨_,hob,.inr ⟨rfl,by simp;omega,some ⟨L.b,0,none⟩,by simp,fun _=>by simp⟩⟩)
   ·rcases hcase with h | ⟨ad,news,rfl,hnl,hnews,hR⟩
    ·exact absurd h h0
    ·have hpos:0 < rows.length:=List.length_pos_iff.2 h0
     have hone:∀ u ∈ news,u.oneCell'=true:=zkf h1 hR hnl
     have holdl:(cs.toList.take (len * inf.size)).length=len * inf.size:=by rw [List.length_take];omega
     have hRnew:RVR M.cl w inf.size (all.take len++rows) (cs.toList.take (len * inf.size)++news):=RVR.append hx2 (by rw [holdl,htl]) hR
     by_cases hroom:len+rows.length≤L.cap
     ·have hfit:len * inf.size+news.length≤cs.size:=by rw [hnl,hcs,← Nat.add_mul];exact Nat.mul_le_mul_right _ hroom
      have hrun:=zqf (P:=P) w t o.type e E inf ht hi L.b len L.cap cs hh ad rows.length xc news hnl hnews hone hroom hfit
      have hex:(execOp a.eval o).run P w=.ok (.value (.slice (some ⟨L.b,0,none⟩) (len+rows.length) L.cap)) (w.setRow L.b (cs.toList.take (len * inf.size)++news++cs.toList.drop (len * inf.size+news.length)).toArray):=by
       simp [execOp,ho,resolve,invoke,builtin,hv,hv',hrun]
      rw [hex,Oper.upon_value]
      obtain ⟨hset,hles⟩:=hkill.setFree hown hbox hobj (cs.toList.take (len * inf.size)++news++cs.toList.drop (len * inf.size+news.length)).toArray
      obtain ⟨M',hnew,hle,hob⟩:=hset.addObj (k:=d) hfo' ⟨L.b,inf.size,L.cap,false⟩ (rows:=all.take len++rows) (.inr ⟨rfl,hown,_,E,setRow_heap w L.b cs _ E (0,0) hh,by
       simp only [List.size_toArray,List.length_append,List.length_take,List.length_drop,Array.length_toList];omega,by simp;omega,hcm0,by
       simp only [];exact (RVR.mono hles.cl _ _ _ hRnew).ext _⟩) (fun j b hj _ e=>hbox j (by rw [hj,e])) (fun j q L' hj hL' hn' _=>hobj j q L' hj hL' hn')
      exact fin M' _ _ (by simpa using hnew) (hles.trans hle) (by simp only [RV];exact ⟨_,hob,.inr ⟨rfl,by simpa using hroom,some ⟨L.b,0,none⟩,by simp,fun _=>by simp⟩⟩)
     ·have holds : ∀ j u, (cs.toList.take (len * inf.size))[j]? = some u → w.cell? ((⟨L.b, 0, none⟩ : Addr).add j) = some u := by
        intro j u hj
        rw [Addr.add_lit]
        exact (Cells.of_block hh).take _ j u hj
      have hrun:=run_append_grow (P:=P) w t o.type e inf z ht hi hz ⟨L.b,0,none⟩ len L.cap _ holdl holds ad rows.length xc news hnl hnews (by omega) (by unfold maxLen at hm;omega) (growslice_fits (by omega) hb)
      have hex:(execOp a.eval o).run P w=.ok (.value (.slice (some ⟨w.heap.size,0,none⟩) (len+rows.length) (grownCap w (len+rows.length) L.cap e))) (w.drew.alloc (.cells ((cs.toList.take (len * inf.size)).toArray++news.toArray++Builtin.zeroCells z.cells (grownCap w (len+rows.length) L.cap e - (len+rows.length))) e)):=by
       unfold execOp
       simp only [ho,resolve,invoke,builtin,hv,hv',Sem.run_bind,Sem.run_pure,Result.andThen_ok,List.map_toArray,List.map_cons,List.map_nil,hrun]
      rw [hex]
      rw [Oper.upon_value]
      have hge:=grownCap_ge w (len+rows.length) L.cap e
      have hcm:=grownCap_le_maxLen w (len+rows.length) L.cap e hm
      obtain ⟨M',hnew,hle,hob⟩:=hkill.grow (d:=d) hfo' (cells:=(cs.toList.take (len * inf.size)).toArray++news.toArray++Builtin.zeroCells z.cells (grownCap w (len+rows.length) L.cap e - (len+rows.length))) (e:=e) (sz:=inf.size) (cap:=grownCap w (len+rows.length) L.cap e) (rows:=all.take len++rows)
       (by simp only [Array.size_append,List.size_toArray,size_zeroCells,hzs,hnl,holdl,← Nat.add_mul];congr 1;omega) (by simp;omega) hcm (by simp only [Array.toList_append];exact hRnew.ext _)
      refine fin M' _ _ hnew hle ?_
      simp only [RV];exact ⟨_,hob,.inr ⟨rfl,by simpa using hge,some ⟨w.heap.size,0,none⟩,by simp,fun _=>by simp⟩⟩
theorem HRel.setObj {w0 : World} {X : Nat → Prop} {S0 : Base} {M : Mem} {B : BMap} {O : OMap} {w : World} (h : HRel w0 X S0 M B O w) {k : Nat} {L : Loc} {sz : Nat} {rows rows' : List (List PV)} {cs cs' : Array Value} {E : TypeId} (hk : O k = some (some (false, sz, rows))) (hL : M.ob k = some L) (hn : L.nil = false)
    (hh:w.heap[L.b]?=some (.cells cs E (0,0))) (hsz:cs'.size=L.cap * sz) (hlen:rows'.length≤L.cap) (hR:RVR M.cl w sz rows' cs'.toList) :
    HRel w0 X S0 M B (upd O [(k,some (false,sz,rows'))]) (w.setRow L.b cs')∧M.Le M w (w.setRow L.b cs'):=by
 obtain ⟨hLs,hc⟩:=h.obj' hk hL
 rcases hc with ⟨e,_⟩ | ⟨_,_,hown,_,_,_,_,_,hm,_⟩
 ·rw [hn] at e;cases e
 have hown:=hown rfl
 have hne:∀ x,M.st x→x ≠ L.b:=fun x hx e=>hown.2 (.inl (e ▸ hx))
 have hnf:∀ x,M.nw x→x ≠ L.b:=fun x hx e=>hown.2 (.inr (e ▸ hx))
 have hle:M.Le M w (w.setRow L.b cs'):=⟨fun _ h=>h,fun _ _ h=>h,fun _ _ h=>h,fun x hx=>setRow_other w L.b x cs' (hne x hx),fun _ h=>h,fun x hx=>setRow_other w L.b x cs' (hnf x hx)⟩
 have holo:∀ j q,j ≠ k→upd O [(k,some (false,sz,rows'))] j=some q→O j=some q:=fun j q e hj=>by rw [zaz,if_neg e] at hj;exact hj
 have hlive:∀ j q,upd O [(k,some (false,sz,rows'))] j=some (some (false,q))→∃ q',O j=some (some (false,q')):=by
  intro j q hj
  by_cases e:j=k
  ·subst e;exact ⟨_,hk⟩
  ·exact ⟨q,holo j _ e hj⟩
 refine ⟨{ os:=h.os,tape:=h.tape,out:=h.out,size:=by simpa using h.size,kept:=?_,stlt:=by simpa using h.stlt,stok:=h.stok,box:=?_,boxKey:=h.boxKey,obj:=?_,objKey:=?_,boxNe:=h.boxNe,objNe:=?_,boxObj:=?_,pinB:=fun k b hk=>hle.bx k b (h.pinB k b hk),pinO:=fun k L hk=>hle.ob k L (h.pinO k L hk),nwok:=by simpa using h.nwok,c00:=zkl h.c00 hle (fun _ x=>x) (fun _ x=>x) },hle⟩
 ·intro x hx hX
  have:x ≠ L.b:=by
   intro e;subst e
   rcases hown.1 with h1 | h1
   ·omega
   ·exact hX h1
  rw [setRow_other w L.b x cs' this]
  exact h.kept x hx hX
 ·intro j lj hj
  obtain ⟨b',T',cs'',h1,h2,h3,h4⟩:=h.box j lj hj
  have:b' ≠ L.b:=fun e=>h.boxObj j k b' _ L h1 hk hL hn e
  exact ⟨b',T',cs'',h1,h2,by rw [setRow_other w L.b b' cs' this];exact h3,RVL.mono hle _ _ h4⟩
 ·intro j fz sz' rs hj
  by_cases e:j=k
  ·subst e
   rw [zaz,if_pos rfl] at hj
   simp only [Option.some.injEq,Prod.mk.injEq] at hj
   obtain ⟨rfl,rfl,rfl⟩:=hj
   exact ⟨L,hL,hLs,.inr ⟨hn,(fun e=>by cases e),fun _=>hown,cs',E,setRow_heap w L.b cs cs' E (0,0) hh,hsz,hlen,hm,RVR.mono hle.cl _ _ _ hR⟩⟩
  ·have hj:=holo j _ e hj
   obtain ⟨L',h1,h2,h3⟩:=h.obj j fz sz' rs hj
   refine ⟨L',h1,h2,?_⟩
   rcases h3 with h3 | ⟨h3,hf,ho,c,E',h5,h6,h7,h8,h9⟩
   ·exact .inl h3
   ·have : L'.b ≠ L.b := by
      cases fz with
      | true=>exact hne _ (hf rfl)
      | false=>exact fun eb=>e (h.objNe j k _ _ L' L hj hk h1 hL h3 hn eb)
    exact .inr ⟨h3,hf,ho,c,E',by rw [setRow_other w L.b L'.b cs' this];exact h5,h6,h7,h8,RVR.mono hle.cl _ _ _ h9⟩
 ·intro j L' hj
  rw [zaz]
  by_cases e:j=k
  ·exact ⟨_,if_pos e⟩
  ·rw [if_neg e];exact h.objKey j L' hj
 ·intro i j o o' Li Lj hi hj
  obtain ⟨q,hq⟩:=hlive i o hi
  obtain ⟨q',hq'⟩:=hlive j o' hj
  exact h.objNe i j q q' Li Lj hq hq'
 ·intro i j b o L' hi hj
  obtain ⟨q,hq⟩:=hlive j o hj
  exact h.boxObj i j b q L' hi hq
theorem RVR.splice {M : Mem} {w : World} {sz : Nat} {ns : List PV} {ds : List Value} (off : Nat) (hns : RVL M w ns ds) (hfit : off + ns.length ≤ sz) : ∀ {rows : List (List PV)} {cs : List Value} (i : Nat) {row : List PV}, RVR M w sz rows cs → rows[i]? = some row →
    RVR M w sz (rows.set i (Pv.splice row off ns)) (cs.take (i * sz+off)++ds++cs.drop (i * sz+off+ds.length))
 | [],cs,i,row,_,hi=>by simp at hi
 | r :: rs,cs,0,row,h,hi=>by
  simp at hi;subst hi
  simp only [RVR] at h
  obtain ⟨c1,c2,rfl,hr,h1,h2⟩:=h
  have hc1:c1.length=sz:=by rw [h1.length,hr]
  have hds:=hns.length
  simp only [Nat.zero_mul,Nat.zero_add,List.set_cons_zero,RVR]
  refine ⟨c1.take off++ds++c1.drop (off+ds.length),c2,?_,?_,RVL.splice off h1 hns,h2⟩
  ·rw [List.take_append_of_le_length (by omega),List.drop_append_of_le_length (by omega)]
   simp
  ·unfold Pv.splice
   simp
   omega
 | r :: rs,cs,i+1,row,h,hi=>by
  simp at hi
  simp only [RVR] at h
  obtain ⟨c1,c2,rfl,hr,h1,h2⟩:=h
  have hc1:c1.length=sz:=by rw [h1.length,hr]
  have ih:=RVR.splice off hns hfit i h2 hi
  have e1:(i+1) * sz+off=c1.length+(i * sz+off):=by simp only [Nat.add_mul,Nat.one_mul];omega
  simp only [List.set_cons_succ,RVR]
  refine ⟨c1,_,?_,hr,h1,ih⟩
  rw [e1,List.take_length_add_append,show c1.length+(i * sz+off)+ds.length=c1.length+(i * sz+off+ds.length) by omega,List.drop_length_add_append]
  simp
theorem zvb {P : Program} {o : Oper} {ts : List PV} {t : TypeId} {inf : TypeInfo} {x y : Operand} {k i off sz : Nat} {rows : List (List PV)} {row : List PV} {p : PV} (ho : o.op = .store t x y) (hi : P.info? t = some inf)
    (hx:aev ts x=.eo k i off) (hy:aev ts y=p) (hp:(zbm p).all leaf1=true) (hn:(zbm p).length=inf.size) (hrow:rows[i]?=some row) (hfit:off+(zbm p).length≤sz) (hpl:zec (zbm p)=true) :
    OpSem P o ⟨.bad,[],[(k,false,sz,rows)],[],[],[],[(k,some (false,sz,rows.set i (splice row off (zbm p))))]⟩ ts:=by
 intro w0 X S0 M s a w Q K hr hl hs hk
 rw [ho] at hl
 have h2:=ev_of hr hl (x:=x) (by simp [Op.operands]) hx
 have h3:=ev_of hr hl (x:=y) (by simp [Op.operands]) hy
 simp only [RV] at h2
 obtain ⟨L,hL,hnil,hv⟩:=h2
 have hO:=hs.2.1 (k,false,sz,rows) (by simp)
 obtain ⟨hLs,hc⟩:=hr.toHRel.obj' hO hL
 rcases hc with ⟨e,_⟩ | ⟨_,_,_,cs,E,hh,hcs,hlen0,_,hR⟩
 ·rw [hnil] at e;cases e
 have hlv:=zcc hp h3
 have hlen:=hlv.length
 have hilt:i < rows.length:=(List.getElem?_eq_some_iff.1 hrow).1
 have hbound:i * sz+sz≤cs.size:=by
  rw [hcs]
  have:(i+1) * sz≤L.cap * sz:=Nat.mul_le_mul_right _ (by omega)
  rw [Nat.add_mul,Nat.one_mul] at this
  exact this
 have hrun:=run_storeCells_at P L.b (i * sz+off) E (a.eval y).cells.toList 0 cs w hh (by rw [Nat.add_zero,hlen];omega) (zcu hp hlv)
 simp only [Nat.add_zero] at hrun
 have hsz:(a.eval y).cells.size=inf.size:=by rw [← hn,← hlen];simp
 unfold Oper.wp
 have hex:(execOp a.eval o).run P w=.ok .skip (w.setRow L.b (cs.toList.take (i * sz+off)++(a.eval y).cells.toList++cs.toList.drop (i * sz+off+(a.eval y).cells.toList.length)).toArray):=by
  simp [execOp,ho,hv,Instr.storeAt,Instr.sureAddr,storeVar,sizeOf,typeInfo,hi,hsz,hLs]
  simp at hrun
  rw [hsz] at hrun
  simp [hrun]
 rw [hex,Oper.upon_skip]
 obtain ⟨hnew,hle⟩:=hr.toHRel.setObj (rows':=rows.set i (splice row off (zbm p))) (cs':=(cs.toList.take (i * sz+off)++(a.eval y).cells.toList++cs.toList.drop (i * sz+off+(a.eval y).cells.toList.length)).toArray) hO hL hnil hh
  (by simp only [List.size_toArray, List.length_append, List.length_take, List.length_drop, Array.length_toList]; rw [← hcs]; have : (a.eval y).cells.size = (zbm p).length := by rw [← hlen]; simp
      omega) (by simpa using hlen0) (by simpa using RVR.splice off (RVL.toCl _ _ hpl hlv) (by omega) i hR hrow)
 refine hk M _ _ ?_
 have hr':Rel w0 X S0 M ⟨s.tmps,s.B,upd s.O [(k,some (false,sz,rows.set i (splice row off (zbm p))))]⟩ a _:=⟨hnew,hr.dfr,hr.len,fun t=>RV.mono hle _ _ (hr.tmp t)⟩
 have:=zbq hr' o.dst (p:=.bad) (v:=undef) (by simp [RV])
 simpa [St.apply,zbv] using this
def fres (op:BinOp) (a b:Nat):Option (Option Nat):=match op with
 | .add=>some (Ieee.double.add a b)
 | .sub=>some (Ieee.double.sub a b)
 | .mul=>some (Ieee.double.mul a b)
 | .quo=>some (Ieee.double.div a b)
 | _=>none
def fpv:Option Nat→PV
 | some r=>.sc (.float .f64 r)
 | none=>.nn .f64
theorem nan_cut (x y t:Nat):(FloatKind.f64.format.read ((Question.nanBits .f64 x y).cut t)).isNaN=true:=by
 have e:(Question.nanBits .f64 x y).cut t=(t % 2) * 2 ^ 63+0x7ff0000000000000+1+(t / 2) % (2 ^ 52 - 1):=rfl
 rw [e]
 have hs:FloatKind.f64.format.signWeight=2 ^ 63:=by decide
 have hb:FloatKind.f64.format.binade=2 ^ 52:=by decide
 have hi:FloatKind.f64.format.infRung=0x7ff0000000000000:=by decide
 unfold Ieee.Format.read
 simp only [hs,hb,hi]
 have h1:(t / 2) % (2 ^ 52 - 1) < 2 ^ 52 - 1:=Nat.mod_lt _ (by decide)
 generalize (t / 2) % (2 ^ 52 - 1)=u at *
 have h2:t % 2 < 2:=Nat.mod_lt _ (by decide)
 generalize t % 2=v at *
 have h3:(v * 2 ^ 63+0x7ff0000000000000+1+u) % 2 ^ 63=0x7ff0000000000000+1+u:=by omega
 rw [h3,if_neg (by omega),if_neg (by omega),if_neg (by omega)]
 rfl
theorem zie {P : Program} {o : Oper} {op : BinOp} {t t' : TypeId} {x y : Operand} {a b : Nat} {res : Option Nat} (ho : o.op = .binOp op t x y t') {w0 : World} {X : Nat → Prop} {S0 : Base} {M : Mem} {s : St} {ac : Act} {w : World} {Q : Exit → Act → World → Prop} {K : Act → World → Prop} (hrel : Rel w0 X S0 M s ac w)
    (h1:ac.eval x=.float .f64 a) (h2:ac.eval y=.float .f64 b) (hr:fres op a b=some res) (hk:∀ M' a' w',Rel w0 X S0 M' (s.apply o.dst (vE (fpv res))) a' w'→K a' w'):o.wp P ac w K Q:=by
 unfold Oper.wp
 cases res with
 | some r =>
  have hex:(execOp ac.eval o).run P w=.ok (.value (.float .f64 r)) w:=by
   cases op<;>simp only [fres,Option.some.injEq,reduceCtorEq] at hr<;>simp [execOp,ho,h1,h2,eqGuard,binOp,Op.floatArith,FloatKind.format,hr,Sem.run]
  rw [hex,Oper.upon_value]
  refine hk M _ _ ?_
  have:=zbq hrel o.dst (p:=.sc (.float .f64 r)) (v:=.float .f64 r) (by simp [RV])
  simpa [St.apply,zbv,vE,fpv] using this
 | none =>
  have hex:(execOp ac.eval o).run P w=.ok (.value (.float .f64 ((Question.nanBits .f64 a b).cut (w.tape w.drawn (.nanBits .f64 a b))))) w.drew:=by
   cases op<;>simp only [fres,Option.some.injEq,reduceCtorEq] at hr<;>simp [execOp,ho,h1,h2,eqGuard,binOp,Op.floatArith,FloatKind.format,hr,Sem.run,Go.choose,Question.forced]
  rw [hex,Oper.upon_value]
  refine hk M _ _ ?_
  have hle:M.Le M w w.drew:=⟨fun _ h=>h,fun _ _ h=>h,fun _ _ h=>h,fun _ _=>rfl,fun _ h=>h,fun _ _=>rfl⟩
  have hr':=hrel.world hle rfl rfl rfl (Nat.le_refl _) (fun _ _=>rfl)
  have:=zbq hr' o.dst (p:=.nn .f64) (v:=.float .f64 ((Question.nanBits .f64 a b).cut (w.tape w.drawn (.nanBits .f64 a b)))) (by simp only [RV];exact ⟨_,rfl,nan_cut _ _ _⟩)
  simpa [St.apply,zbv,vE,fpv] using this
theorem z4m {P:Program}{o:Oper}{ts:List PV}{op:BinOp}{t t':TypeId}{x y:Operand}{a b:Nat}{res:Option Nat} (ho:o.op=.binOp op t x y t') (hx:aev ts x=.sc (.float .f64 a)) (hy:aev ts y=.sc (.float .f64 b)) (hr:fres op a b=some res):OpSem P o (vE (fpv res)) ts:=by
 intro w0 X S0 M s ac w Q K hrel hl hs hk
 rw [ho] at hl
 have h1:=ev_of hrel hl (x:=x) (by simp [Op.operands]) hx
 have h2:=ev_of hrel hl (x:=y) (by simp [Op.operands]) hy
 simp only [RV] at h1 h2
 exact zie ho hrel h1 h2 hr hk
def nres:BinOp→Option PV
 | .add | .sub | .mul | .quo=>some (.nn .f64)
 | .eql | .lss | .leq | .gtr | .geq=>some (.sc (.bool false))
 | .neq=>some (.sc (.bool true))
 | _=>none
def fnn:PV→Bool
 | .nn .f64=>true
 | .sc (.float .f64 _)=>true
 | _=>false
def nnB:PV→Bool
 | .nn _=>true
 | _=>false
theorem zx3 {a b:Nat} (h:(FloatKind.f64.format.read a).isNaN=true∨(FloatKind.f64.format.read b).isNaN=true):Ieee.double.add a b=none∧Ieee.double.sub a b=none∧Ieee.double.mul a b=none∧Ieee.double.div a b=none∧FloatKind.f64.format.order a b=none:=by
 have e:FloatKind.f64.format=Ieee.double:=rfl
 rw [e] at h ⊢
 unfold Ieee.Format.add Ieee.Format.sub Ieee.Format.mul Ieee.Format.div Ieee.Format.order
 cases ha:Ieee.double.read a<;>cases hb:Ieee.double.read b<;>rw [ha,hb] at h<;>simp_all [Ieee.Datum.isNaN,Ieee.Datum.sum,Ieee.Datum.product,Ieee.Datum.quotient,Ieee.Datum.order,Ieee.Datum.opposite]
theorem os_nan {P:Program}{o:Oper}{ts:List PV}{op:BinOp}{t t':TypeId}{x y:Operand}{p q r:PV} (ho:o.op=.binOp op t x y t') (hx:aev ts x=p) (hy:aev ts y=q) (hp:fnn p=true) (hq:fnn q=true) (hn:(nnB p || nnB q)=true) (hr:nres op=some r):OpSem P o (vE r) ts:=by
 intro w0 X S0 M s ac w Q K hrel hl hs hk
 rw [ho] at hl
 have h1:=ev_of hrel hl (x:=x) (by simp [Op.operands]) hx
 have h2:=ev_of hrel hl (x:=y) (by simp [Op.operands]) hy
 have key:∀ p:PV,∀ v:Value,fnn p=true→RV M w p v→∃ n,v=.float .f64 n∧(nnB p=true→(FloatKind.f64.format.read n).isNaN=true):=by
  intro p v hp hv
  unfold fnn at hp
  split at hp
  ·simp only [RV] at hv
   obtain ⟨n,e,hn⟩:=hv
   exact ⟨n,e,fun _=>hn⟩
  ·simp only [RV] at hv
   exact ⟨_,hv,fun h=>by simp [nnB] at h⟩
  ·cases hp
 obtain ⟨a,ea,na⟩:=key p _ hp h1
 obtain ⟨b,eb,nb⟩:=key q _ hq h2
 have hab:(FloatKind.f64.format.read a).isNaN=true∨(FloatKind.f64.format.read b).isNaN=true:=by
  simp only [Bool.or_eq_true] at hn
  rcases hn with h | h
  ·exact .inl (na h)
  ·exact .inr (nb h)
 obtain ⟨k1,k2,k3,k4,k5⟩:=zx3 hab
 have cmp:∀ bb:Bool,r=.sc (.bool bb)→(execOp ac.eval o).run P w=.ok (.value (.bool bb)) w→o.wp P ac w K Q:=fun bb er hex=>by
  subst er
  unfold Oper.wp
  rw [hex,Oper.upon_value]
  refine hk M _ _ ?_
  have:=zbq hrel o.dst (p:=.sc (.bool bb)) (v:=.bool bb) (by simp [RV])
  simpa [St.apply,zbv,vE] using this
 cases op<;>simp only [nres,Option.some.injEq,reduceCtorEq] at hr
 ·exact zie (res:=none) ho hrel ea eb (by simp [fres,k1]) (by subst hr;exact hk)
 ·exact zie (res:=none) ho hrel ea eb (by simp [fres,k2]) (by subst hr;exact hk)
 ·exact zie (res:=none) ho hrel ea eb (by simp [fres,k3]) (by subst hr;exact hk)
 ·exact zie (res:=none) ho hrel ea eb (by simp [fres,k4]) (by subst hr;exact hk)
 ·exact cmp false hr.symm (by simp [execOp,ho,ea,eb,eqGuard,binOp,Op.floatCmp,k5,Sem.run])
 ·exact cmp true hr.symm (by simp [execOp,ho,ea,eb,eqGuard,binOp,Op.floatCmp,k5,Sem.run])
 ·exact cmp false hr.symm (by simp [execOp,ho,ea,eb,eqGuard,binOp,Op.floatCmp,k5,Sem.run])
 ·exact cmp false hr.symm (by simp [execOp,ho,ea,eb,eqGuard,binOp,Op.floatCmp,k5,Sem.run])
 ·exact cmp false hr.symm (by simp [execOp,ho,ea,eb,eqGuard,binOp,Op.floatCmp,k5,Sem.run])
 ·exact cmp false hr.symm (by simp [execOp,ho,ea,eb,eqGuard,binOp,Op.floatCmp,k5,Sem.run])
theorem zyw {M:Mem}{w:World} (v:Value):∀ n:Nat,RVR M w 1 (List.replicate n [.sc v]) (List.replicate n v)
 | 0=>by simp [RVR]
 | n+1=>by
  rw [List.replicate_succ,List.replicate_succ]
  simp only [RVR]
  exact ⟨[v],List.replicate n v,rfl,rfl,by simp [RVL,RV],zyw v n⟩
theorem z18 {z:Array Value}{v:Value} (hz:z.toList=[v]) (n:Nat):(madeCells z n).toList=List.replicate n v:=by
 have hz2:z=#[v]:=by apply Array.ext';simpa using hz
 subst hz2
 apply List.ext_getElem
 ·simp [madeCells]
 ·intro i h1 h2
  simp [madeCells,Nat.mod_one]
theorem HRel.grow1 {w0 : World} {X : Nat → Prop} {S0 : Base} {M : Mem} {B : BMap} {O : OMap} {w : World} (h : HRel w0 X S0 M B O w) {d : Nat} (hd : O d = none) {cells : Array Value} {e : TypeId} {sz cap : Nat} {rows : List (List PV)} (hsz : cells.size = cap * sz) (hlen : rows.length ≤ cap) (hm : cap ≤ maxLen) (hR : RVR M.cl w sz rows cells.toList) :
    ∃ M',HRel w0 X S0 M' B (upd O [(d,some (false,sz,rows))]) (w.alloc (.cells cells e))∧M.Le M' w (w.alloc (.cells cells e))∧M'.ob d=some ⟨w.heap.size,sz,cap,false⟩:=by
 generalize hnw:w.alloc (.cells cells e)=w1
 have hh:∀ b,b < w.heap.size→w1.heap[b]?=w.heap[b]?:=fun b hlt=>by subst hnw;exact zam w _ hlt
 have hle0:M.Le M w w1:=⟨fun _ h=>h,fun _ _ h=>h,fun _ _ h=>h,fun b hb=>hh b (h.stlt b hb),fun _ h=>h,fun b hb=>hh b (h.nwok b hb).1⟩
 have hrel1:HRel w0 X S0 M B O w1:=h.world hle0 (by subst hnw;rfl) (by subst hnw;rfl) (by subst hnw;rfl) (by subst hnw;simp) hh
 have hblk:w1.heap[w.heap.size]?=some (.cells cells e (0,0)):=by subst hnw;exact zcd w _
 obtain ⟨M',hnew,hle,hob⟩:=hrel1.addObj (k:=d) hd ⟨w.heap.size,sz,cap,false⟩ (rows:=rows) (.inr ⟨rfl,⟨.inl h.size,fun hs=>Nat.lt_irrefl _ (h.snlt _ hs)⟩,cells,e,hblk,hsz,hlen,hm,RVR.mono hle0.cl _ _ _ hR⟩)
  (fun j b hj _=>by
   obtain ⟨ls,hls⟩:=h.boxKey j b hj
   obtain ⟨_,T,cs,hc,_⟩:=h.box' hls hj
   exact Nat.ne_of_lt (zag hc))
  (fun j q L' hj hL' hn _=>by
   obtain ⟨_,hcase⟩:=h.obj' (fz:=false) (sz:=q.1) (rows:=q.2) hj hL'
   rcases hcase with ⟨h,_⟩ | ⟨_,_,_,cs,E,hc,_⟩
   ·rw [hn] at h;cases h
   ·exact Nat.ne_of_lt (zag hc))
 exact ⟨M',hnew,hle0.trans hle,hob⟩
theorem os_make {P : Program} {o : Oper} {ts : List PV} {x y : Operand} {t e : TypeId} {inf : TypeInfo} {z : Value} {v : Value} {kl kc : IntKind} {n : Int} {d : Nat}
    (ho:o.op=.makeSlice t x y) (ht:P.underlying t=some (.slice e)) (hi:P.info? e=some inf) (hz:inf.zero=some z) (hzs:z.cells.toList=[v]) (hs1:inf.size=1)
    (hx:aev ts x=.sc (.int kl n)) (hy:aev ts y=.sc (.int kc n)) (h0:0≤n) (hb:n.toNat * inf.bytes≤140737488355328) (hm:n.toNat≤maxLen) :
    OpSem P o ⟨.ow d 0 n.toNat,[],[],[],[d],[],[(d,some (false,inf.size,List.replicate n.toNat [.sc v]))]⟩ ts:=by
 intro w0 X S0 M s a w Q K hr hl hs hk
 rw [ho] at hl
 have h1:=ev_of hr hl (x:=x) (by simp [Op.operands]) hx
 have h2:=ev_of hr hl (x:=y) (by simp [Op.operands]) hy
 simp only [RV] at h1 h2
 have hfo:=hs.2.2.2 d (by simp)
 unfold Oper.wp
 have hbi:(inf.bytes:Int) * n≤281474976710656:=by
  obtain ⟨m,rfl⟩:=Int.eq_ofNat_of_zero_le h0
  have:inf.bytes * m≤281474976710656:=by
   rw [Nat.mul_comm];simp only [Int.toNat_natCast] at hb;omega
  rw [← Int.natCast_mul];omega
 have hn63:n≤9223372036854775807:=by
  have h:=hm
  simp [maxLen] at h
  omega
 have hrun:=run_make (P:=P) w t e inf z ht hi hz kl kc n n h0 (Int.le_refl _) hbi hn63
 have hex:(execOp a.eval o).run P w=.ok (.value (.slice (some ⟨w.heap.size,0,none⟩) n.toNat n.toNat)) (w.alloc (.cells (madeCells z.cells (n.toNat * inf.size)) e)):=by
  simp [execOp,ho,h1,h2,hrun]
 rw [hex,Oper.upon_value]
 rw [hs1,Nat.mul_one] at *
 obtain ⟨M',hnew,hle,hob⟩:=hr.toHRel.grow1 (d:=d) hfo (cells:=madeCells z.cells n.toNat) (e:=e) (sz:=1) (cap:=n.toNat) (rows:=List.replicate n.toNat [.sc v])
  (by rw [size_madeCells,Nat.mul_one]) (by simp) hm (by rw [z18 hzs];exact zyw v _)
 refine hk M' _ _ ?_
 have hr':Rel w0 X S0 M' ⟨s.tmps,s.B,upd s.O [(d,some (false,1,List.replicate n.toNat [.sc v]))]⟩ a _:=⟨hnew,hr.dfr,hr.len,fun t=>RV.mono hle _ _ (hr.tmp t)⟩
 have:=zbq hr' o.dst (p:=.ow d 0 n.toNat) (v:=.slice (some ⟨w.heap.size,0,none⟩) n.toNat n.toNat) (by
  simp only [RV];exact ⟨_,hob,.inr ⟨rfl,by simp,some ⟨w.heap.size,0,none⟩,by simp,fun _=>by simp⟩⟩)
 simpa [St.apply,zbv] using this
end Go.Pv
