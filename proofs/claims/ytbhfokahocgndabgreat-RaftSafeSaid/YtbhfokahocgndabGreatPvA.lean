import Derived.Orders
import Derived.Below
import Derived.Laws.AppendOwn
import Derived.Laws.Cells
/-
  Pure values for Go data, and how they are laid in the model's memory. Generic over the program: nothing of one dump is named here.
-/
set_option linter.unusedSimpArgs false
set_option linter.unusedVariables false
namespace Go.Pv
inductive PV where
 | sc (v:Value)
 | ag (ps:List PV)
 | tu (ps:List PV)
 | sl (sz:Nat) (rows:List (List PV))
 | nl
 | ow (k lo len:Nat)
 | pt (k off:Nat)
 | ep (sfx:List PV)
 | eo (k i off:Nat)
 | cl (f:Nat) (caps:List PV)
 | cm (f:Nat) (caps:List PV)
 | ub (φ:Prop)
 | nn (kd:FloatKind)
 | ls (sz:Nat) (rows:List (List PV))
 | lp (sfx:List PV)
 | bs (k off len:Nat)
 | fs (sz:Nat) (rows:List (List PV))
 | bad
structure Loc where
 b:Nat
 sz:Nat
 cap:Nat
 nil:Bool
structure Mem where
 st:Nat→Prop
 bx:Nat→Option Nat
 ob:Nat→Option Loc
 nw:Nat→Prop
def Mem.cl (M:Mem):Mem:=⟨M.st,fun _=>none,fun _=>none,fun _=>False⟩
def Mem.cf (M:Mem):Mem:=⟨M.nw,fun _=>none,fun _=>none,fun _=>False⟩
def Cells (w:World) (b off:Nat) (cs:List Value):Prop:=∀ j u,cs[j]?=some u→w.cell? ⟨b,off+j,none⟩=some u
def OwV (L:Loc) (lo len:Nat) (v:Value):Prop :=
 (L.nil=true∧len=0∧∃ a,v=.slice a 0 0) ∨
 (L.nil=false∧lo+len≤L.cap∧∃ a,v=.slice a len (L.cap - lo)∧(lo < L.cap→a=some ⟨L.b,lo * L.sz,none⟩))
mutual
def RV (M:Mem) (w:World):PV→Value→Prop
 | .sc x,v=>v=x
 | .ag ps,v=>∃ cs:Array Value,v=.agg cs∧RVL M w ps cs.toList
 | .tu ps,v=>∃ cs:Array Value,v=.tuple cs∧RVL M w ps cs.toList
 | .sl sz rows,v=>∃ a n c,v=.slice a n c∧n=rows.length∧n≤c∧(rows=[]∨∃ b off cs,a=some ⟨b,off,none⟩∧M.st b∧Cells w b off cs∧RVR M.cl w sz rows cs)
 | .nl,v=>∃ a,v=.slice a 0 0
 | .ow k lo len,v=>∃ L,M.ob k=some L∧OwV L lo len v
 | .pt k off,v=>∃ b,M.bx k=some b∧v=.pointer (some ⟨b,off,none⟩)
 | .bs k off len,v=>∃ b,M.bx k=some b∧v=.slice (some ⟨b,off,none⟩) len len
 | .ep sfx,v=>∃ b off cs,v=.pointer (some ⟨b,off,none⟩)∧M.st b∧Cells w b off cs∧RVL M.cl w sfx cs
 | .eo k i off,v=>∃ L,M.ob k=some L∧L.nil=false∧v=.pointer (some ⟨L.b,i * L.sz+off,none⟩)
 | .cl f caps,v=>∃ cs:Array Value,v=.func (.func f) #[] cs∧RVL M w caps cs.toList
 | .cm f caps,v=>∃ cs:Array Value,v=.func (.func f) cs #[]∧RVL M w caps cs.toList
 | .ub φ,v=>∃ b,v=.bool b∧(b=true→φ)
 | .nn kd,v=>∃ n,v=.float kd n∧(kd.format.read n).isNaN=true
 | .ls sz rows,v=>∃ b cs,v=.slice (some ⟨b,0,none⟩) rows.length rows.length∧M.st b∧Cells w b 0 cs∧RVR M w sz rows cs
 | .lp sfx,v=>∃ b off cs,v=.pointer (some ⟨b,off,none⟩)∧M.st b∧Cells w b off cs∧RVL M w sfx cs
 | .fs sz rows,v=>∃ a n c,v=.slice a n c∧n=rows.length∧n≤c∧(rows=[]∨∃ b off cs,a=some ⟨b,off,none⟩∧M.nw b∧Cells w b off cs∧RVR M.cf w sz rows cs)
 | .bad,_=>True
def RVL (M:Mem) (w:World):List PV→List Value→Prop
 | [],cs=>cs=[]
 | p :: ps,cs=>∃ c r,cs=c :: r∧RV M w p c∧RVL M w ps r
def RVR (M:Mem) (w:World) (sz:Nat):List (List PV)→List Value→Prop
 | [],_=>True
 | r :: rs,cs=>∃ c1 c2,cs=c1++c2∧r.length=sz∧RVL M w r c1∧RVR M w sz rs c2
end
structure Mem.Le (M M':Mem) (w w':World):Prop where
 st:∀ b,M.st b→M'.st b
 bx:∀ k b,M.bx k=some b→M'.bx k=some b
 ob:∀ k L,M.ob k=some L→M'.ob k=some L
 same:∀ b,M.st b→w'.heap[b]?=w.heap[b]?
 nw:∀ b,M.nw b→M'.nw b
 nsame:∀ b,M.nw b→w'.heap[b]?=w.heap[b]?
theorem Mem.Le.refl (M:Mem) (w:World):M.Le M w w:=⟨fun _ h=>h,fun _ _ h=>h,fun _ _ h=>h,fun _ _=>rfl,fun _ h=>h,fun _ _=>rfl⟩
theorem Mem.Le.trans {M M' M'':Mem}{w w' w'':World} (h:M.Le M' w w') (h':M'.Le M'' w' w''):M.Le M'' w w'' :=
 ⟨fun b x=>h'.st b (h.st b x),fun k b x=>h'.bx k b (h.bx k b x),fun k L x=>h'.ob k L (h.ob k L x),fun b x=>(h'.same b (h.st b x)).trans (h.same b x),fun b x=>h'.nw b (h.nw b x),fun b x=>(h'.nsame b (h.nw b x)).trans (h.nsame b x)⟩
theorem Mem.Le.cl {M M':Mem}{w w':World} (h:M.Le M' w w'):M.cl.Le M'.cl w w':=⟨h.st,(fun _ _ h=>by cases h),(fun _ _ h=>by cases h),h.same,(fun _ h=>h.elim),(fun _ h=>h.elim)⟩
theorem Mem.Le.cf {M M':Mem}{w w':World} (h:M.Le M' w w'):M.cf.Le M'.cf w w':=⟨h.nw,(fun _ _ h=>by cases h),(fun _ _ h=>by cases h),h.nsame,(fun _ h=>h.elim),(fun _ h=>h.elim)⟩
theorem Mem.cl_le (M:Mem) (w:World):M.cl.Le M w w:=⟨fun _ h=>h,(fun _ _ h=>by cases h),(fun _ _ h=>by cases h),(fun _ _=>rfl),(fun _ h=>h.elim),(fun _ h=>h.elim)⟩
theorem Cells.mono {w w':World}{b off:Nat}{cs:List Value} (hb:w'.heap[b]?=w.heap[b]?) (h:Cells w b off cs):Cells w' b off cs :=
 fun j u hj=>(World.cell?_of_block (a:=⟨b,off+j,none⟩) hb).trans (h j u hj)
mutual
theorem RV.mono {M M':Mem}{w w':World} (h:M.Le M' w w'):∀ (p:PV) (v:Value),RV M w p v→RV M' w' p v
 | .sc x,v,hv=>by simpa [RV] using hv
 | .ag ps,v,hv=>by
  simp only [RV] at hv ⊢
  obtain ⟨cs,e,r⟩:=hv
  exact ⟨cs,e,RVL.mono h ps _ r⟩
 | .tu ps,v,hv=>by
  simp only [RV] at hv ⊢
  obtain ⟨cs,e,r⟩:=hv
  exact ⟨cs,e,RVL.mono h ps _ r⟩
 | .sl sz rows,v,hv=>by
  simp only [RV] at hv ⊢
  obtain ⟨a,n,c,e,hn,hc,r⟩:=hv
  refine ⟨a,n,c,e,hn,hc,?_⟩
  rcases r with r | ⟨b,off,cs,ha,hs,hcl,hr⟩
  ·exact .inl r
  ·exact .inr ⟨b,off,cs,ha,h.st b hs,hcl.mono (h.same b hs),RVR.mono h.cl sz rows _ hr⟩
 | .nl,v,hv=>by simpa [RV] using hv
 | .ow k lo len,v,hv=>by
  simp only [RV] at hv ⊢
  obtain ⟨L,hL,r⟩:=hv
  exact ⟨L,h.ob k L hL,r⟩
 | .pt k off,v,hv=>by
  simp only [RV] at hv ⊢
  obtain ⟨b,hb,r⟩:=hv
  exact ⟨b,h.bx k b hb,r⟩
 | .bs k off len,v,hv=>by
  simp only [RV] at hv ⊢
  obtain ⟨b,hb,r⟩:=hv
  exact ⟨b,h.bx k b hb,r⟩
 | .ep sfx,v,hv=>by
  simp only [RV] at hv ⊢
  obtain ⟨b,off,cs,e,hs,hcl,hr⟩:=hv
  exact ⟨b,off,cs,e,h.st b hs,hcl.mono (h.same b hs),RVL.mono h.cl sfx _ hr⟩
 | .eo k i off,v,hv=>by
  simp only [RV] at hv ⊢
  obtain ⟨L,hL,r⟩:=hv
  exact ⟨L,h.ob k L hL,r⟩
 | .cl f caps,v,hv=>by
  simp only [RV] at hv ⊢
  obtain ⟨cs,e,r⟩:=hv
  exact ⟨cs,e,RVL.mono h caps _ r⟩
 | .cm f caps,v,hv=>by
  simp only [RV] at hv ⊢
  obtain ⟨cs,e,r⟩:=hv
  exact ⟨cs,e,RVL.mono h caps _ r⟩
 | .ub φ,v,hv=>by simp only [RV] at hv ⊢;exact hv
 | .nn kd,v,hv=>by simp only [RV] at hv ⊢;exact hv
 | .ls sz rows,v,hv=>by
  simp only [RV] at hv ⊢
  obtain ⟨b,cs,e,hs,hcl,hr⟩:=hv
  exact ⟨b,cs,e,h.st b hs,hcl.mono (h.same b hs),RVR.mono h sz rows _ hr⟩
 | .lp sfx,v,hv=>by
  simp only [RV] at hv ⊢
  obtain ⟨b,off,cs,e,hs,hcl,hr⟩:=hv
  exact ⟨b,off,cs,e,h.st b hs,hcl.mono (h.same b hs),RVL.mono h sfx _ hr⟩
 | .fs sz rows,v,hv=>by
  simp only [RV] at hv ⊢
  obtain ⟨a,n,c,e,hn,hc,r⟩:=hv
  refine ⟨a,n,c,e,hn,hc,?_⟩
  rcases r with r | ⟨b,off,cs,ha,hs,hcl,hr⟩
  ·exact .inl r
  ·exact .inr ⟨b,off,cs,ha,h.nw b hs,hcl.mono (h.nsame b hs),RVR.mono h.cf sz rows _ hr⟩
 | .bad,v,hv=>by simp [RV]
theorem RVL.mono {M M':Mem}{w w':World} (h:M.Le M' w w'):∀ (ps:List PV) (cs:List Value),RVL M w ps cs→RVL M' w' ps cs
 | [],cs,hv=>by simpa [RVL] using hv
 | p :: ps,cs,hv=>by
  simp only [RVL] at hv ⊢
  obtain ⟨c,r,e,h1,h2⟩:=hv
  exact ⟨c,r,e,RV.mono h p c h1,RVL.mono h ps r h2⟩
theorem RVR.mono {M M':Mem}{w w':World} (h:M.Le M' w w') (sz:Nat):∀ (rows:List (List PV)) (cs:List Value),RVR M w sz rows cs→RVR M' w' sz rows cs
 | [],cs,hv=>by simp [RVR]
 | r :: rs,cs,hv=>by
  simp only [RVR] at hv ⊢
  obtain ⟨c1,c2,e,hl,h1,h2⟩:=hv
  exact ⟨c1,c2,e,hl,RVL.mono h r c1 h1,RVR.mono h sz rs c2 h2⟩
end
theorem RVL.length {M:Mem}{w:World}:∀ {ps:List PV}{cs:List Value},RVL M w ps cs→cs.length=ps.length
 | [],cs,h=>by simp only [RVL] at h;simp [h]
 | p :: ps,cs,h=>by
  simp only [RVL] at h
  obtain ⟨c,r,rfl,_,h2⟩:=h
  simp [RVL.length h2]
theorem RVL.append {M:Mem}{w:World}:∀ {ps qs:List PV}{cs ds:List Value},RVL M w ps cs→RVL M w qs ds→RVL M w (ps++qs) (cs++ds)
 | [],qs,cs,ds,h,h'=>by simp only [RVL] at h;subst h;simpa using h'
 | p :: ps,qs,cs,ds,h,h'=>by
  simp only [RVL] at h
  obtain ⟨c,r,rfl,h1,h2⟩:=h
  simp only [List.cons_append,RVL]
  exact ⟨c,r++ds,rfl,h1,RVL.append h2 h'⟩
theorem RVL.drop {M:Mem}{w:World}:∀ (n:Nat) {ps:List PV}{cs:List Value},RVL M w ps cs→RVL M w (ps.drop n) (cs.drop n)
 | 0,ps,cs,h=>by simpa using h
 | n+1,[],cs,h=>by simp only [RVL] at h;subst h;simp [RVL]
 | n+1,p :: ps,cs,h=>by
  simp only [RVL] at h
  obtain ⟨c,r,rfl,h1,h2⟩:=h
  simpa using RVL.drop n h2
theorem RVL.take {M:Mem}{w:World}:∀ (n:Nat) {ps:List PV}{cs:List Value},RVL M w ps cs→RVL M w (ps.take n) (cs.take n)
 | 0,ps,cs,h=>by simp [RVL]
 | n+1,[],cs,h=>by simp only [RVL] at h;subst h;simp [RVL]
 | n+1,p :: ps,cs,h=>by
  simp only [RVL] at h
  obtain ⟨c,r,rfl,h1,h2⟩:=h
  simp only [List.take_succ_cons,RVL]
  exact ⟨c,r.take n,rfl,h1,RVL.take n h2⟩
theorem RVL.get {M:Mem}{w:World}:∀ {ps:List PV}{cs:List Value} (i:Nat) {p:PV},RVL M w ps cs→ps[i]?=some p→∃ c,cs[i]?=some c∧RV M w p c
 | [],cs,i,p,h,hp=>by simp at hp
 | q :: ps,cs,0,p,h,hp=>by
  simp only [RVL] at h
  obtain ⟨c,r,rfl,h1,h2⟩:=h
  simp at hp;subst hp
  exact ⟨c,by simp,h1⟩
 | q :: ps,cs,i+1,p,h,hp=>by
  simp only [RVL] at h
  obtain ⟨c,r,rfl,h1,h2⟩:=h
  simp at hp
  obtain ⟨d,hd,hr⟩:=RVL.get i h2 hp
  exact ⟨d,by simpa using hd,hr⟩
theorem RVL.split {M:Mem}{w:World}:∀ {ps qs:List PV}{cs:List Value},RVL M w (ps++qs) cs→∃ c d,cs=c++d∧RVL M w ps c∧RVL M w qs d
 | [],qs,cs,h=>⟨[],cs,rfl,by simp [RVL],by simpa using h⟩
 | p :: ps,qs,cs,h=>by
  simp only [List.cons_append,RVL] at h
  obtain ⟨c,r,rfl,h1,h2⟩:=h
  obtain ⟨c',d',rfl,h3,h4⟩:=RVL.split h2
  exact ⟨c :: c',d',rfl,by simp only [RVL];exact ⟨c,c',rfl,h1,h3⟩,h4⟩
theorem RVR.append {M:Mem}{w:World}{sz:Nat}:∀ {rs qs:List (List PV)}{cs ds:List Value},RVR M w sz rs cs→cs.length=rs.length * sz→RVR M w sz qs ds→RVR M w sz (rs++qs) (cs++ds)
 | [],qs,cs,ds,_,hl,h'=>by
  have:cs=[]:=List.eq_nil_of_length_eq_zero (by simpa using hl)
  subst this;simpa using h'
 | r :: rs,qs,cs,ds,h,hl,h'=>by
  simp only [RVR] at h
  obtain ⟨c1,c2,rfl,hr,h1,h2⟩:=h
  have hc1:=h1.length
  simp only [List.cons_append,RVR]
  refine ⟨c1,c2++ds,by simp,hr,h1,RVR.append h2 ?_ h'⟩
  simp only [List.length_append,List.length_cons,Nat.add_mul,Nat.one_mul] at hl
  omega
theorem RVR.exact {M:Mem}{w:World}{sz:Nat}:∀ {rs:List (List PV)}{cs:List Value},RVR M w sz rs cs→rs.length * sz≤cs.length∧RVR M w sz rs (cs.take (rs.length * sz))
 | [],cs,_=>by simp [RVR]
 | r :: rs,cs,h=>by
  simp only [RVR] at h
  obtain ⟨c1,c2,rfl,hr,h1,h2⟩:=h
  have hc1:c1.length=sz:=by rw [h1.length,hr]
  obtain ⟨hlen,h3⟩:=RVR.exact h2
  have e:(r :: rs).length * sz=c1.length+rs.length * sz:=by simp only [List.length_cons,Nat.add_mul,Nat.one_mul];omega
  refine ⟨by rw [e,List.length_append];omega,?_⟩
  rw [e,List.take_length_add_append]
  simp only [RVR]
  exact ⟨c1,_,rfl,hr,h1,h3⟩
theorem RVR.ext {M:Mem}{w:World}{sz:Nat}:∀ {rs:List (List PV)}{cs:List Value} (ds:List Value),RVR M w sz rs cs→RVR M w sz rs (cs++ds)
 | [],cs,ds,_=>by simp [RVR]
 | r :: rs,cs,ds,h=>by
  simp only [RVR] at h
  obtain ⟨c1,c2,rfl,hr,h1,h2⟩:=h
  simp only [RVR]
  exact ⟨c1,c2++ds,by simp,hr,h1,RVR.ext ds h2⟩
theorem RVR.row {M : Mem} {w : World} {sz : Nat} : ∀ {rs : List (List PV)} {cs : List Value} (i : Nat) {r : List PV}, RVR M w sz rs cs → rs[i]? = some r →
    r.length=sz∧RVL M w r ((cs.drop (i * sz)).take sz)∧i * sz+sz≤cs.length
 | [],cs,i,r,h,hi=>by simp at hi
 | q :: rs,cs,0,r,h,hi=>by
  simp only [RVR] at h
  obtain ⟨c1,c2,rfl,hr,h1,h2⟩:=h
  simp at hi;subst hi
  have hc1:c1.length=sz:=by rw [h1.length,hr]
  refine ⟨hr,?_,by simp;omega⟩
  simp only [Nat.zero_mul,List.drop_zero]
  rw [← hc1,List.take_left]
  exact h1
 | q :: rs,cs,i+1,r,h,hi=>by
  simp only [RVR] at h
  obtain ⟨c1,c2,rfl,hr,h1,h2⟩:=h
  simp at hi
  have hc1:c1.length=sz:=by rw [h1.length,hr]
  obtain ⟨a,b,c⟩:=RVR.row i h2 hi
  refine ⟨a,?_,by simp only [List.length_append,Nat.add_mul,Nat.one_mul];omega⟩
  have e:(i+1) * sz=c1.length+i * sz:=by simp only [Nat.add_mul,Nat.one_mul];omega
  rw [e,List.drop_length_add_append]
  exact b
theorem RVR.dropRows {M:Mem}{w:World}{sz:Nat}:∀ {rs:List (List PV)}{cs:List Value} (i:Nat),RVR M w sz rs cs→RVR M w sz (rs.drop i) (cs.drop (i * sz))
 | [],cs,i,h=>by simp [RVR]
 | q :: rs,cs,0,h=>by simpa using h
 | q :: rs,cs,i+1,h=>by
  simp only [RVR] at h
  obtain ⟨c1,c2,rfl,hr,h1,h2⟩:=h
  have hc1:c1.length=sz:=by rw [h1.length,hr]
  have e:(i+1) * sz=c1.length+i * sz:=by simp only [Nat.add_mul,Nat.one_mul];omega
  rw [e,List.drop_length_add_append,List.drop_succ_cons]
  exact RVR.dropRows i h2
theorem RVR.takeRows {M:Mem}{w:World}{sz:Nat}:∀ {rs:List (List PV)}{cs:List Value} (i:Nat),RVR M w sz rs cs→RVR M w sz (rs.take i) cs
 | [],cs,i,h=>by simp [RVR]
 | q :: rs,cs,0,h=>by simp [RVR]
 | q :: rs,cs,i+1,h=>by
  simp only [RVR] at h
  obtain ⟨c1,c2,rfl,hr,h1,h2⟩:=h
  simp only [List.take_succ_cons,RVR]
  exact ⟨c1,c2,rfl,hr,h1,RVR.takeRows i h2⟩
theorem Cells.drop {w:World}{b off:Nat}{cs:List Value} (n:Nat) (h:Cells w b off cs):Cells w b (off+n) (cs.drop n):=by
 intro j u hj
 rw [List.getElem?_drop] at hj
 have:=h (n+j) u hj
 simpa [Nat.add_assoc] using this
theorem Cells.take {w:World}{b off:Nat}{cs:List Value} (n:Nat) (h:Cells w b off cs):Cells w b off (cs.take n):=by
 intro j u hj
 rw [List.getElem?_take] at hj
 split at hj
 ·exact h j u hj
 ·cases hj
theorem Cells.of_block {w:World}{b:Nat}{cs:Array Value}{T:TypeId}{fr:Nat×Nat} (h:w.heap[b]?=some (.cells cs T fr)):Cells w b 0 cs.toList:=by
 intro j u hj
 simp only [World.cell?,h]
 simpa using hj
mutual
def plain:PV→Bool
 | .ag ps=>zec ps
 | .tu ps=>zec ps
 | .ow ..=>false
 | .eo ..=>false
 | .pt ..=>false
 | .bs ..=>false
 | .cl _ caps=>zec caps
 | .cm _ caps=>zec caps
 | .ls ..=>false
 | .lp ..=>false
 | .fs ..=>false
 | _=>true
def zec:List PV→Bool
 | []=>true
 | p :: ps=>plain p && zec ps
end
mutual
theorem RV.toCl {M:Mem}{w:World}:∀ (p:PV) (v:Value),Pv.plain p=true→RV M w p v→RV M.cl w p v
 | .sc x,v,_,hv=>by simpa [RV] using hv
 | .ag ps,v,hp,hv=>by
  simp only [RV] at hv ⊢
  obtain ⟨cs,e,r⟩:=hv
  exact ⟨cs,e,RVL.toCl ps _ (by simpa [Pv.plain] using hp) r⟩
 | .tu ps,v,hp,hv=>by
  simp only [RV] at hv ⊢
  obtain ⟨cs,e,r⟩:=hv
  exact ⟨cs,e,RVL.toCl ps _ (by simpa [Pv.plain] using hp) r⟩
 | .sl sz rows,v,hp,hv=>by simp only [RV] at hv ⊢;exact hv
 | .nl,v,_,hv=>by simpa [RV] using hv
 | .ow k lo len,v,hp,hv=>by simp [Pv.plain] at hp
 | .pt k off,v,hp,hv=>by simp [Pv.plain] at hp
 | .bs ..,v,hp,hv=>by simp [Pv.plain] at hp
 | .ep sfx,v,hp,hv=>by simp only [RV] at hv ⊢;exact hv
 | .eo k i off,v,hp,hv=>by simp [Pv.plain] at hp
 | .cl f caps,v,hp,hv=>by
  simp only [RV] at hv ⊢
  obtain ⟨cs,e,r⟩:=hv
  exact ⟨cs,e,RVL.toCl caps _ (by simpa [Pv.plain] using hp) r⟩
 | .cm f caps,v,hp,hv=>by
  simp only [RV] at hv ⊢
  obtain ⟨cs,e,r⟩:=hv
  exact ⟨cs,e,RVL.toCl caps _ (by simpa [Pv.plain] using hp) r⟩
 | .ub φ,v,_,hv=>by simp only [RV] at hv ⊢;exact hv
 | .nn kd,v,_,hv=>by simp only [RV] at hv ⊢;exact hv
 | .ls ..,v,hp,hv=>by simp [Pv.plain] at hp
 | .lp ..,v,hp,hv=>by simp [Pv.plain] at hp
 | .fs ..,v,hp,hv=>by simp [Pv.plain] at hp
 | .bad,v,_,hv=>by simp [RV]
theorem RVL.toCl {M:Mem}{w:World}:∀ (ps:List PV) (cs:List Value),zec ps=true→RVL M w ps cs→RVL M.cl w ps cs
 | [],cs,_,hv=>by simpa [RVL] using hv
 | p :: ps,cs,hp,hv=>by
  simp only [RVL] at hv ⊢
  simp only [zec,Bool.and_eq_true] at hp
  obtain ⟨c,r,e,h1,h2⟩:=hv
  exact ⟨c,r,e,RV.toCl p c hp.1 h1,RVL.toCl ps r hp.2 h2⟩
end
theorem RV.ofCl {M:Mem}{w:World}{p:PV}{v:Value} (h:RV M.cl w p v):RV M w p v:=RV.mono (M.cl_le w) _ _ h
end Go.Pv
