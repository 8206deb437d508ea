import Derived.Test.YtbhfokahocgndabGreatC3
import Derived.Test.YtbhfokahocgndabGreatPvQ3
import Derived.Test.YtbhfokahocgndabGreatC1
/- Plain law of safety: what the replicas keep from act to act. -/
set_option linter.unusedSimpArgs false
set_option linter.unusedVariables false
set_option maxHeartbeats 2000000
namespace Go.Proofs
open Go.Pv
set_option maxRecDepth 100000
structure Grows (H H':Hist):Prop where
 c0:H'.c0=H.c0
 ll:∀ t,(H'.LL t).take (H.LL t).length=H.LL t
 new:∀ t n x,H.LL t ≠ []→(H.LL t).length≤n→(H'.LL t)[n]?=some x→x.term=t
 cm:∀ t n k W,H.Cm t n k W→H'.Cm t n k W
 vd:∀ v T c D,H.VD v T c D→H'.VD v T c D
 ak:∀ v t n,H.AK v t n→H'.AK v t n
 akv:∀ v T c D t n,H.VD v T c D→t < T→H'.AK v t n→H.AK v t n
theorem Grows.refl (H:Hist):Grows H H:=⟨rfl,fun t=>List.take_length,fun t n x _ h1 h2=>by have:=zb3 h2;omega,fun _ _ _ _ h=>h,fun _ _ _ _ h=>h,fun _ _ _ h=>h,fun _ _ _ _ _ _ _ _ h=>h⟩
theorem Grows.take {H H':Hist} (g:Grows H H') {t:Int}{n:Nat} (hn:n≤(H.LL t).length):(H'.LL t).take n=(H.LL t).take n:=by
 have:=congrArg (List.take n) (g.ll t)
 rwa [List.take_take,Nat.min_eq_left hn] at this
theorem Grows.len {H H':Hist} (g:Grows H H') (t:Int):(H.LL t).length≤(H'.LL t).length:=by
 have:=congrArg List.length (g.ll t)
 rw [List.length_take] at this
 omega
theorem Grows.led {H H':Hist} (g:Grows H H') {t:Int} (h:H.LL t ≠ []):H'.LL t ≠ []:=by
 intro e
 have:=g.len t
 rw [e] at this
 exact h (List.eq_nil_of_length_eq_zero (by simpa using this))
theorem Grows.trans {A B C:Hist} (g:Grows A B) (h:Grows B C):Grows A C:=by
 refine ⟨h.c0.trans g.c0,fun t=>?_,fun t n x he hn hx=>?_,fun _ _ _ _ a=>h.cm _ _ _ _ (g.cm _ _ _ _ a),fun _ _ _ _ a=>h.vd _ _ _ _ (g.vd _ _ _ _ a),fun _ _ _ a=>h.ak _ _ _ (g.ak _ _ _ a),fun v T c D t n hd ht ha=>g.akv v T c D t n hd ht (h.akv v T c D t n (g.vd _ _ _ _ hd) ht ha)⟩
 ·rw [h.take (g.len t),g.ll t]
 ·by_cases hb:(B.LL t).length≤n
  ·exact h.new t n x (g.led he) hb hx
  ·refine g.new t n x he hn ?_
   rw [← hx]
   exact (zcf (h.ll t |>.trans List.take_length.symm) (by omega)).symm
theorem Grows.get {H H':Hist} (g:Grows H H') {t:Int}{n:Nat}{x:Ent} (h:(H.LL t)[n]?=some x):(H'.LL t)[n]?=some x:=by
 rw [← h]
 exact zcf (g.ll t |>.trans List.take_length.symm) (zb3 h)
theorem Grows.lm {H H':Hist} (g:Grows H H') {L:List Ent} (h:LM H L):LM H' L:=by
 intro n x hx
 have e:=h n x hx
 have hl:=zb3 hx
 have:n+1≤(H.LL x.term).length:=zej e.symm (by omega)
 rw [e,g.take this]
theorem Grows.cand {H H':Hist} (g:Grows H H') {T:Int}{c:Nat}{D:List Ent}{Q:Int} (h:Cand H T c D Q):Cand H' T c D Q :=
 ⟨g.vd _ _ _ _ h.self,g.lm h.lm,h.lt,h.pos,by rw [g.c0];exact h.q,fun v hv ht=>g.vd _ _ _ _ (h.vd v hv ht)⟩
theorem Grows.lost {H H':Hist} (S:Static H) (g:Grows H H') {t T:Int} (ht:t < T) {n:Nat} (hn:n≤(H.LL t).length) (hl:H.LL T ≠ []) (h:¬ (H.LL T).take n=(H.LL t).take n):¬ (H'.LL T).take n=(H'.LL t).take n:=by
 rw [g.take hn]
 intro e
 by_cases hT:n≤(H.LL T).length
 ·rw [g.take hT] at e
  exact h e
 ·have h1:=zcf e (i:=(H.LL T).length) (by omega)
  obtain ⟨x,hx⟩:=zdj (A:=H.LL t) (i:=(H.LL T).length) (by omega)
  rw [hx] at h1
  have:=g.new T _ x hl (Nat.le_refl _) h1
  have:=S.lle t x (zeu hx)
  omega
def JG (H:Hist) (T:Int) (L:List Ent) (c:Nat):Prop:=c=0∨∃ t n k W,H.Cm t n k W∧t≤T∧c≤n∧L.take c=(H.LL t).take c
theorem JG.len {H:Hist} (S:Static H) {T:Int}{L:List Ent}{c:Nat} (h:JG H T L c):c≤L.length:=by
 rcases h with h | ⟨t,n,k,W,hc,_,hn,e⟩
 ·omega
 ·have:=S.cm _ _ _ _ hc
  exact zej e (by omega)
theorem JG.mono {H H':Hist} (S:Static H) (g:Grows H H') {T T':Int} (hT:T≤T') {L L':List Ent}{c:Nat} (e:L'.take c=L.take c) (h:JG H T L c):JG H' T' L' c:=by
 rcases h with h | ⟨t,n,k,W,hc,ht,hn,e2⟩
 ·exact .inl h
 ·have:=S.cm _ _ _ _ hc
  exact .inr ⟨t,n,k,W,g.cm _ _ _ _ hc,by omega,hn,by rw [e,e2,g.take (by omega)]⟩
theorem JG.le {H:Hist}{T:Int}{L:List Ent}{c d:Nat} (h:JG H T L c) (hd:d≤c):JG H T L d:=by
 rcases h with h | ⟨t,n,k,W,hc,ht,hn,e2⟩
 ·exact .inl (by omega)
 ·exact .inr ⟨t,n,k,W,hc,ht,by omega,za0 e2 hd⟩
theorem JG.lead {H:Hist} (S:Static H) {T:Int} (hT:H.LL T ≠ []) {L:List Ent}{c:Nat} (h:JG H T L c):L.take c=(H.LL T).take c:=by
 rcases h with h | ⟨t,n,k,W,hc,ht,hn,e⟩
 ·subst h;simp
 ·rcases (by omega:t < T∨t=T) with h | h
  ·exact e.trans (za0 (ztp S hT t n k W hc h) hn).symm
  ·rw [e,h]
theorem JG.agree {H:Hist} (S:Static H) {T T':Int}{L L':List Ent}{c c':Nat} (h:JG H T L c) (h':JG H T' L' c') {m:Nat} (hm:m≤c) (hm':m≤c'):L.take m=L'.take m:=by
 rcases h with h | ⟨t,n,k,W,hc,_,hn,e⟩
 ·have:m=0:=by omega
  subst this;simp
 rcases h' with h | ⟨t',n',k',W',hc',_,hn',e'⟩
 ·have:m=0:=by omega
  subst this;simp
 have a:=S.cm _ _ _ _ hc
 have a':=S.cm _ _ _ _ hc'
 have ht:H.LL t ≠ []:=by intro e;rw [e] at a;simp at a;try omega
 have ht':H.LL t' ≠ []:=by intro e;rw [e] at a';simp at a';try omega
 have key:(H.LL t).take m=(H.LL t').take m:=by
  rcases (by omega:t < t'∨t=t'∨t' < t) with h | h | h
  ·exact (za0 (ztp S ht' t n k W hc h) (by omega)).symm
  ·rw [h]
  ·exact za0 (ztp S ht t' n' k' W' hc' h) (by omega)
 exact (za0 e hm).trans (key.trans (za0 e' hm').symm)
structure Nd where
 term:Int
 vote:Int
 role:Int
 votes:Int
 log:List Ent
 com:Nat
 mt:Nat→Nat
structure NI (H:Hist) (v:Nat) (d:Nd):Prop where
 lm:LM H d.log
 le:∀ x ∈ d.log,x.term≤d.term
 com:JG H d.term d.log d.com
 vd:∀ T c D,H.VD v T c D→T≤d.term∧(T=d.term→d.vote=c)
 ak:∀ t n,H.AK v t n→t≤d.term∧(d.log.take n=(H.LL t).take n∨∃ T',t < T'∧T'≤d.term∧H.LL T' ≠ []∧¬ (H.LL T').take n=(H.LL t).take n)
 st:d.role=2→1≤d.term∧H.VD v d.term v d.log∧(∀ x ∈ d.log,x.term < d.term)∧(∀ i,i < 7→tb d.votes i=true→H.VD i d.term v d.log)∧(H.LL d.term ≠ []→∃ c D Q,c ≠ v∧Cand H d.term c D Q)
 ld:d.role=3→H.LL d.term=d.log∧d.log ≠ []∧(∃ D Q,Cand H d.term v D Q)∧∀ i,i < 7→∀ n,1≤n→n≤d.mt i→H.AK i d.term n
structure GI (H:Hist) (N:Nat→Nd):Prop where
 st:Static H
 vc:∀ v T c D,H.VD v T c D→H.VD c T c D
 nd:∀ v,v < 7→NI H v (N v)
def upd (N:Nat→Nd) (v:Nat) (d:Nd):Nat→Nd:=fun w=>if w=v then d else N w
theorem zbf (N:Nat→Nd) (v:Nat) (d:Nd):upd N v d v=d:=if_pos rfl
theorem zc2 (N:Nat→Nd) {v w:Nat} (h:w ≠ v) (d:Nd):upd N v d w=N w:=if_neg h
theorem NI.mono {H H' : Hist} (S : Static H) (g : Grows H H') {v : Nat} {d : Nd} (h : NI H v d) (hv : ∀ T c D, H'.VD v T c D → H.VD v T c D) (ha : ∀ t n, H'.AK v t n → H.AK v t n) (hl : d.role = 3 → H'.LL d.term = H.LL d.term)
    (hs:d.role=2→H.LL d.term=[]→H'.LL d.term ≠ []→∃ c D Q,c ≠ v∧Cand H' d.term c D Q):NI H' v d:=by
 refine ⟨g.lm h.lm,h.le,h.com.mono S g (Int.le_refl _) rfl,fun T c D hd=>h.vd T c D (hv T c D hd),fun t n hn=>?_,fun hr=>?_,fun hr=>?_⟩
 ·obtain ⟨h1,h3⟩:=h.ak t n (ha t n hn)
  have h2:=S.akl v t n (ha t n hn)
  refine ⟨h1,?_⟩
  rcases h3 with h3 | ⟨T',a,b,c,e⟩
  ·exact .inl (h3.trans (g.take h2).symm)
  ·exact .inr ⟨T',a,b,g.led c,g.lost S a h2 c e⟩
 ·obtain ⟨h0,h1,h2,h3,h4⟩:=h.st hr
  refine ⟨h0,g.vd _ _ _ _ h1,h2,fun i hi ht=>g.vd _ _ _ _ (h3 i hi ht),fun he=>?_⟩
  by_cases e:H.LL d.term=[]
  ·exact hs hr e he
  ·obtain ⟨c,D,Q,hc,hd⟩:=h4 e
   exact ⟨c,D,Q,hc,g.cand hd⟩
 ·obtain ⟨h1,h2,⟨D,Q,h3⟩,h4⟩:=h.ld hr
  exact ⟨(hl hr).trans h1,h2,⟨D,Q,g.cand h3⟩,fun i hi n h5 h6=>g.ak _ _ _ (h4 i hi n h5 h6)⟩
theorem gi_weak {H:Hist}{N:Nat→Nd} (I:GI H N) {v:Nat} (hv:v < 7) {d:Nd} (hl:d.log=(N v).log) (ht:(N v).term≤d.term) (hc:d.com≤(N v).com) (hvo:d.term=(N v).term→d.vote=(N v).vote) (hr:d.role ≠ 2∧d.role ≠ 3):GI H (upd N v d):=by
 refine ⟨I.st,I.vc,fun w hw=>?_⟩
 by_cases e:w=v
 ·subst e
  rw [zbf]
  have h:=I.nd w hw
  refine ⟨by rw [hl];exact h.lm,fun x hx=>by rw [hl] at hx;have:=h.le x hx;omega,?_,fun T c D hd=>?_,fun t n hn=>?_,fun e=>absurd e hr.1,fun e=>absurd e hr.2⟩
  ·rw [hl]
   exact (h.com.le hc).mono I.st (Grows.refl H) ht rfl
  ·obtain ⟨h1,h2⟩:=h.vd T c D hd
   exact ⟨by omega,fun e=>by rw [hvo (by omega)];exact h2 (by omega)⟩
  ·obtain ⟨h1,h3⟩:=h.ak t n hn
   refine ⟨by omega,?_⟩
   rw [hl]
   rcases h3 with h3 | ⟨T',a,b,c,e⟩
   ·exact .inl h3
   ·exact .inr ⟨T',a,by omega,c,e⟩
 ·rw [zc2 N e]
  exact I.nd w hw
theorem cov_of {H:Hist} (S:Static H) {L:List Ent} (h:LM H L) {t:Int}{n:Nat}{x:Ent} (h1:1≤n) (hx:(H.LL t)[n - 1]?=some x) (hxt:x.term=t) (e:L.take n=(H.LL t).take n):Cov H L t n:=by
 have hx2:L[n - 1]?=some x:=(zcf e (by omega)).trans hx
 have:=zb3 hx2
 have:=h.mem S hx2
 unfold Cov
 omega
theorem z1j {H:Hist}{L D:List Ent}{t:Int}{n:Nat} (h:Cov H L t n) (hn:za1 L < za1 D∨(za1 L=za1 D∧L.length≤D.length)):Cov H D t n:=by
 unfold Cov at *
 omega
theorem Grows.strong {H H':Hist} (S:Static H) (g:Grows H H') {T:Int}{D:List Ent}{Q:Int} (hv:∀ v,v < 7→tb Q v=true→∃ c,H.VD v T c D) (h:zjf H T D Q):zjf H' T D Q:=by
 intro v t n x hv7 hQ ha ht hn hx hxt
 obtain ⟨c,hd⟩:=hv v hv7 hQ
 have ha:=g.akv _ _ _ _ _ _ hd ht ha
 have hl:=S.akl _ _ _ ha
 have hx:(H.LL t)[n - 1]?=some x:=by rw [← hx];exact (zcf (g.ll t |>.trans List.take_length.symm) (by omega)).symm
 rcases h v t n x hv7 hQ ha ht hn hx hxt with h | ⟨T',a,b,c,e⟩
 ·exact .inl h
 ·exact .inr ⟨T',a,b,g.led c,g.lost S a hl c e⟩
def addV (H:Hist) (v:Nat) (T:Int) (c:Nat) (D:List Ent):Hist:={ H with VD:=fun w t k L=>H.VD w t k L∨(w=v∧t=T∧k=c∧L=D) }
theorem zgz (H:Hist) (v:Nat) (T:Int) (c:Nat) (D:List Ent):Grows H (addV H v T c D) :=
 ⟨rfl,fun t=>List.take_length,fun t n x _ h1 h2=>by have:=zb3 h2;exact absurd this (Nat.not_lt.2 h1),fun _ _ _ _ h=>h,fun _ _ _ _ h=>.inl h,fun _ _ _ h=>h,fun _ _ _ _ _ _ _ _ h=>h⟩
theorem zkp {H : Hist} (S : Static H) {v : Nat} {T : Int} {c : Nat} {D : List Ent} (hu : ∀ c' D', H.VD v T c' D' → c' = c ∧ D' = D)
    (hvi:∀ t n x,H.AK v t n→t < T→1≤n→(H.LL t)[n - 1]?=some x→x.term=t→Cov H D t n∨∃ T',t < T'∧T'≤T∧H.LL T' ≠ []∧¬ (H.LL T').take n=(H.LL t).take n):Static (addV H v T c D):=by
 have g:=zgz H v T c D
 refine ⟨S.llm,S.lle,fun t h=>?_,S.akl,fun w T1 c1 D1 t n x hd ha ht hn hx hxt=>?_,fun w T1 c1 D1 c2 D2 h1 h2=>?_,S.cm,S.own,S.old,S.nr⟩
 ·obtain ⟨c',D',Q,hc,hs,h1,h2⟩:=S.led t h
  exact ⟨c',D',Q,g.cand hc,hs,h1,h2⟩
 ·rcases hd with hd | ⟨rfl,rfl,rfl,rfl⟩
  ·exact S.vi w T1 c1 D1 t n x hd ha ht hn hx hxt
  ·exact hvi t n x ha ht hn hx hxt
 ·rcases h1 with h1 | ⟨rfl,rfl,rfl,rfl⟩
  ·rcases h2 with h2 | ⟨rfl,rfl,rfl,rfl⟩
   ·exact S.vu _ _ _ _ _ _ h1 h2
   ·exact hu _ _ h1
  ·rcases h2 with h2 | ⟨_,_,rfl,rfl⟩
   ·have:=hu _ _ h2
    exact ⟨this.1.symm,this.2.symm⟩
   ·exact ⟨rfl,rfl⟩
theorem zm6 {H:Hist} (S:Static H) {v:Nat}{T:Int}{c:Nat}{D:List Ent}{w:Nat}{d:Nd} (hw:w ≠ v) (h:NI H w d):NI (addV H v T c D) w d :=
 h.mono S (zgz H v T c D) (fun T1 c1 D1 hd=>by
  rcases hd with hd | ⟨e,_⟩
  ·exact hd
  ·exact absurd e hw) (fun _ _ h=>h) (fun _=>rfl) (fun _ h1 h2=>absurd h1 h2)
theorem z34 {H : Hist} {N : Nat → Nd} (I : GI H N) {v : Nat} (hv : v < 7) {d : Nd} (h0 : 0 ≤ (N v).term) (hl : d.log = (N v).log) (ht : d.term = (N v).term + 1) (hvo : d.vote = v) (hr : d.role = 2) (hvs : ∀ i, i < 7 → tb d.votes i = true → i = v) (hc : d.com ≤ (N v).com) :
    ∃ H',Grows H H'∧GI H' (upd N v d)∧H'.VD v d.term v d.log:=by
 have h:=I.nd v hv
 have S:=I.st
 have hno:∀ c' D',¬ H.VD v d.term c' D':=fun c' D' hd=>by have:=(h.vd _ _ _ hd).1;omega
 have g:=zgz H v d.term v d.log
 have S':Static (addV H v d.term v d.log):=zkp S (fun c' D' hd=>absurd hd (hno c' D')) fun t n x ha htT hn hx hxt=>by
  rcases (h.ak t n ha).2 with h3 | ⟨T',a,b,c,e⟩
  ·rw [hl]
   exact .inl (cov_of S h.lm hn hx hxt h3)
  ·exact .inr ⟨T',a,by omega,c,e⟩
 refine ⟨addV H v d.term v d.log,g,⟨S',fun w T c D hd=>?_,fun w hw=>?_⟩,.inr ⟨rfl,rfl,rfl,rfl⟩⟩
 ·rcases hd with hd | ⟨rfl,rfl,rfl,rfl⟩
  ·exact .inl (I.vc _ _ _ _ hd)
  ·exact .inr ⟨rfl,rfl,rfl,rfl⟩
 ·by_cases e:w=v
  ·subst e
   rw [zbf]
   refine ⟨by rw [hl];exact h.lm,fun x hx=>by rw [hl] at hx;have:=h.le x hx;omega,?_,fun T c D hd=>?_,fun t n hn=>?_,fun _=>⟨by omega,.inr ⟨rfl,rfl,rfl,rfl⟩,fun x hx=>by rw [hl] at hx;have:=h.le x hx;omega,fun i hi hb=>by
    have:=hvs i hi hb
    subst this
    exact .inr ⟨rfl,rfl,rfl,rfl⟩,fun hne=>?_⟩,fun e=>by omega⟩
   ·rw [hl]
    exact (h.com.le hc).mono S g (by omega) rfl
   ·rcases hd with hd | ⟨_,rfl,rfl,rfl⟩
    ·have:=(h.vd T c D hd).1
     exact ⟨by omega,fun e=>by omega⟩
    ·exact ⟨Int.le_refl _,fun _=>hvo⟩
   ·obtain ⟨h1,h3⟩:=h.ak t n hn
    refine ⟨by omega,?_⟩
    rw [hl]
    rcases h3 with h3 | ⟨T',a,b,c,e⟩
    ·exact .inl h3
    ·exact .inr ⟨T',a,by omega,c,e⟩
   ·obtain ⟨c,D,Q,hcd,_⟩:=S.led d.term hne
    refine ⟨c,D,Q,fun e=>?_,g.cand hcd⟩
    subst e
    exact hno _ _ hcd.self
  ·rw [zc2 N e]
   exact zm6 S e (I.nd w hw)
theorem gi_vote {H : Hist} {N : Nat → Nd} (I : GI H N) {v c : Nat} (hv : v < 7) {D : List Ent} (hD : H.VD c (N v).term c D) (hvt : (N v).vote = -1 ∨ (N v).vote = c) (hnew : za1 (N v).log < za1 D ∨ (za1 (N v).log = za1 D ∧ (N v).log.length ≤ D.length))
    {d:Nd} (hl:d.log=(N v).log) (ht:d.term=(N v).term) (hvo:d.vote=c) (hr:d.role ≠ 2∧d.role ≠ 3) (hc:d.com≤(N v).com) :
    ∃ H',Grows H H'∧GI H' (upd N v d)∧H'.VD v d.term c D:=by
 have h:=I.nd v hv
 have S:=I.st
 have hu:∀ c' D',H.VD v d.term c' D'→c'=c∧D'=D:=fun c' D' hd=>by
  have h2:=(h.vd _ _ _ hd).2 ht
  have e:c'=c:=by omega
  subst e
  have h3:=I.vc _ _ _ _ hd
  rw [ht] at h3
  exact ⟨rfl,(S.vu _ _ _ _ _ _ h3 hD).2⟩
 have g:=zgz H v d.term c D
 have S':Static (addV H v d.term c D):=zkp S hu fun t n x ha htT hn hx hxt=>by
  rcases (h.ak t n ha).2 with h3 | ⟨T',a,b,c,e⟩
  ·exact .inl (z1j (cov_of S h.lm hn hx hxt h3) hnew)
  ·exact .inr ⟨T',a,by omega,c,e⟩
 refine ⟨addV H v d.term c D,g,⟨S',fun w T c' D' hd=>?_,fun w hw=>?_⟩,.inr ⟨rfl,rfl,rfl,rfl⟩⟩
 ·rcases hd with hd | ⟨rfl,rfl,rfl,rfl⟩
  ·exact .inl (I.vc _ _ _ _ hd)
  ·rw [ht]
   exact .inl hD
 ·by_cases e:w=v
  ·subst e
   rw [zbf]
   refine ⟨by rw [hl];exact h.lm,fun x hx=>by rw [hl] at hx;have:=h.le x hx;omega,?_,fun T c' D' hd=>?_,fun t n hn=>?_,fun e=>absurd e hr.1,fun e=>absurd e hr.2⟩
   ·rw [hl]
    exact (h.com.le hc).mono S g (by omega) rfl
   ·rcases hd with hd | ⟨_,rfl,rfl,rfl⟩
    ·have h1:=h.vd T c' D' hd
     refine ⟨by omega,fun e=>?_⟩
     have h2:=h1.2 (by omega)
     omega
    ·exact ⟨Int.le_refl _,fun _=>hvo⟩
   ·obtain ⟨h1,h3⟩:=h.ak t n hn
    refine ⟨by omega,?_⟩
    rw [hl]
    rcases h3 with h3 | ⟨T',a,b,c,e⟩
    ·exact .inl h3
    ·exact .inr ⟨T',a,by omega,c,e⟩
  ·rw [zc2 N e]
   exact zm6 S e (I.nd w hw)
theorem z16 {H : Hist} {N : Nat → Nd} (I : GI H N) {v : Nat} (hv : v < 7) {d : Nd} (hr0 : (N v).role = 2) (hl : d.log = (N v).log) (ht : d.term = (N v).term) (hvo : d.vote = (N v).vote) (hr : d.role = 2) (hc : d.com = (N v).com)
    (hvs:∀ i,i < 7→tb d.votes i=true→tb (N v).votes i=true∨∃ D,H.VD i d.term v D):GI H (upd N v d):=by
 refine ⟨I.st,I.vc,fun w hw=>?_⟩
 by_cases e:w=v
 ·subst e
  rw [zbf]
  have h:=I.nd w hw
  obtain ⟨s1,s2,s3,s4,s5⟩:=h.st hr0
  refine ⟨by rw [hl];exact h.lm,fun x hx=>by rw [hl] at hx;have:=h.le x hx;omega,by rw [hl,hc,ht];exact h.com,fun T c D hd=>by rw [ht,hvo];exact h.vd T c D hd,fun t n hn=>by rw [hl,ht];exact h.ak t n hn,fun _=>?_,fun e=>by omega⟩
  rw [ht,hl]
  refine ⟨s1,s2,s3,fun i hi hb=>?_,s5⟩
  rcases hvs i hi hb with h1 | ⟨D,h1⟩
  ·exact s4 i hi h1
  ·rw [ht] at h1
   have h2:=I.vc _ _ _ _ h1
   rw [(I.st.vu _ _ _ _ _ _ s2 h2).2]
   exact h1
 ·rw [zc2 N e]
  exact I.nd w hw
def setL (H:Hist) (v:Nat) (T:Int) (L:List Ent):Hist:={ H with LL:=fun t=>if t=T then L else H.LL t,AK:=fun w t n=>H.AK w t n∨(w=v∧t=T∧n≤L.length) }
theorem zcj (H:Hist) (v:Nat) (T:Int) (L:List Ent):(setL H v T L).LL T=L:=if_pos rfl
theorem zfa (H:Hist) (v:Nat) {T t:Int} (L:List Ent) (h:t ≠ T):(setL H v T L).LL t=H.LL t:=if_neg h
theorem zfr {α:Type}{L:List α}{x y:α}{n:Nat} (h:(L++[x])[n]?=some y):(n < L.length∧L[n]?=some y)∨(n=L.length∧y=x):=by
 by_cases hn:n < L.length
 ·rw [List.getElem?_append_left hn] at h
  exact .inl ⟨hn,h⟩
 ·have h1:=zb3 h
  rw [List.length_append,List.length_singleton] at h1
  have e:n=L.length:=by omega
  subst e
  rw [List.getElem?_append_right (Nat.le_refl _),Nat.sub_self] at h
  exact .inr ⟨rfl,(Option.some.inj h).symm⟩
theorem zea {α:Type}{L:List α}{x:α}{n:Nat} (h:n≤L.length):(L++[x]).take n=L.take n:=List.take_append_of_le_length h
theorem zmz {H:Hist}{v:Nat}{T:Int}{L:List Ent}{x:Ent} (hxt:x.term=T) (h0:H.LL T=[]∨H.LL T=L) (hvT:∀ T' c D,H.VD v T' c D→T'≤T):Grows H (setL H v T (L++[x])):=by
 refine ⟨rfl,fun t=>?_,fun t n y he hn hy=>?_,fun _ _ _ _ h=>h,fun _ _ _ _ h=>h,fun _ _ _ h=>.inl h,fun w T' c D t n hd ht ha=>?_⟩
 ·by_cases e:t=T
  ·subst e
   rw [zcj]
   rcases h0 with h0 | h0
   ·rw [h0];rfl
   ·rw [h0,zea (Nat.le_refl _),List.take_length]
  ·rw [zfa H v _ e,List.take_length]
 ·by_cases e:t=T
  ·subst e
   rw [zcj] at hy
   rcases h0 with h0 | h0
   ·exact absurd h0 he
   ·rw [h0] at hn
    rcases zfr hy with ⟨h1,_⟩ | ⟨_,rfl⟩
    ·omega
    ·exact hxt
  ·rw [zfa H v _ e] at hy
   have:=zb3 hy
   omega
 ·rcases ha with ha | ⟨rfl,rfl,_⟩
  ·exact ha
  ·have:=hvT _ _ _ hd
   omega
theorem zsw {H : Hist} (S : Static H) {v : Nat} {T : Int} {L : List Ent} {x : Ent} (hxt : x.term = T) (h0 : H.LL T = [] ∨ H.LL T = L) (hvT : ∀ T' c D, H.VD v T' c D → T' ≤ T) (hL : LM H L) (hle : ∀ y ∈ L, y.term ≤ T)
    (hled:∃ c D Q,Cand H T c D Q∧zjf H T D Q∧L.take D.length=D∧∀ n y,D.length≤n→L[n]?=some y→y.term=T)
    (hown:x.kind=2→∃ n k W,H.Cm T n k W∧k≤L.length)
    (hold:x.kind=2→∀ b y,L[b]?=some y→y.kind=2→∃ t n k W,H.Cm t n k W∧t≤T∧b+1≤n∧(H.LL t).take (b+1)=L.take (b+1)∧(t=T→k≤L.length))
    (hnr:x.kind=2→nearR (cfL H.c0 L) x.conf=true):Static (setL H v T (L++[x]))∧LM (setL H v T (L++[x])) (L++[x]):=by
 have g:=zmz hxt h0 hvT
 have hLM:LM (setL H v T (L++[x])) (L++[x]):=by
  intro n y hy
  rcases zfr hy with ⟨h1,h2⟩ | ⟨rfl,rfl⟩
  ·rw [zea (by omega)]
   exact g.lm hL n y h2
  ·rw [hxt,zcj]
 -- an entry of term T in L: then L is the leader's log
 have hin:∀ {a:Nat}{y:Ent},L[a]?=some y→y.term=T→H.LL T=L:=fun {a y} ha hy=>by
  rcases h0 with h0 | h0
  ·exact absurd (hy ▸ h0) (hL.led ha)
  ·exact h0
 refine ⟨⟨fun t=>?_,fun t y hy=>?_,fun t he=>?_,fun w t n ha=>?_,fun w T1 c D t n y hd ha ht hn hy hyt=>?_,S.vu,fun t n k W hc=>?_,fun t a y ha hk hyt=>?_,fun t a y b z ha hk hyt hba hb hkb=>?_,fun t a y ha hk hyt=>?_⟩,hLM⟩
 ·by_cases e:t=T
  ·subst e
   rw [zcj];exact hLM
  ·rw [zfa H v _ e];exact g.lm (S.llm t)
 ·by_cases e:t=T
  ·subst e
   rw [zcj] at hy
   rcases List.mem_append.1 hy with hy | hy
   ·exact hle y hy
   ·rw [List.mem_singleton.1 hy];omega
  ·rw [zfa H v _ e] at hy;exact S.lle t y hy
 ·by_cases e:t=T
  ·subst e
   rw [zcj]
   obtain ⟨c,D,Q,h1,h2,h3,h4⟩:=hled
   have hDl:D.length≤L.length:=by
    have:=congrArg List.length h3
    rw [List.length_take] at this
    omega
   refine ⟨c,D,Q,g.cand h1,g.strong S (fun w hw hQ=>⟨c,h1.vd w hw hQ⟩) h2,by rw [zea hDl];exact h3,fun n y hn hy=>?_⟩
   rcases zfr hy with ⟨_,h5⟩ | ⟨_,rfl⟩
   ·exact h4 n y hn h5
   ·exact hxt
  ·rw [zfa H v _ e] at he ⊢
   obtain ⟨c,D,Q,h1,h2,h3⟩:=S.led t he
   exact ⟨c,D,Q,g.cand h1,g.strong S (fun w hw hQ=>⟨c,h1.vd w hw hQ⟩) h2,h3⟩
 ·rcases ha with ha | ⟨_,rfl,hn⟩
  ·exact Nat.le_trans (S.akl w t n ha) (g.len t)
  ·rw [zcj];exact hn
 ·rcases ha with ha | ⟨rfl,rfl,_⟩
  ·have hl:=S.akl w t n ha
   have hy:(H.LL t)[n - 1]?=some y:=by rw [← hy];exact (zcf (g.ll t |>.trans List.take_length.symm) (by omega)).symm
   rcases S.vi w T1 c D t n y hd ha ht hn hy hyt with h | ⟨T',a,b,c',e⟩
   ·exact .inl h
   ·exact .inr ⟨T',a,b,g.led c',g.lost S a hl c' e⟩
  ·have:=hvT _ _ _ hd
   omega
 ·obtain ⟨h1,h2,h3,⟨z,h4,h5⟩,h6,h7⟩:=S.cm t n k W hc
  refine ⟨h1,h2,Nat.le_trans h3 (g.len t),⟨z,g.get h4,h5⟩,by rw [g.take h3];exact h6,fun w hw hW=>.inl (h7 w hw hW)⟩
 ·by_cases e:t=T
  ·subst e
   rw [zcj] at ha
   rcases zfr ha with ⟨h1,h2⟩ | ⟨rfl,rfl⟩
   ·have hLL:=hin h2 hyt
    rw [← hLL] at h2
    exact S.own t a y h2 hk hyt
   ·exact hown hk
  ·rw [zfa H v _ e] at ha
   exact S.own t a y ha hk hyt
 ·by_cases e:t=T
  ·subst e
   rw [zcj] at ha hb ⊢
   rcases zfr hb with ⟨q1,q2⟩ | ⟨rfl,_⟩
   case inr=>have:=zb3 ha;rw [List.length_append,List.length_singleton] at this;omega
   rw [zea (show b+1≤L.length by omega)]
   have key:∃ t' n k W,H.Cm t' n k W∧t'≤t∧b+1≤n∧(H.LL t').take (b+1)=L.take (b+1)∧(t'=t→k≤a):=by
    rcases zfr ha with ⟨h1,h2⟩ | ⟨rfl,rfl⟩
    ·have hLL:=hin h2 hyt
     rw [← hLL] at h2 q2 ⊢
     exact S.old t a y b z h2 hk hyt hba q2 hkb
    ·exact hold hk b z q2 hkb
   obtain ⟨t',n,k,W,hc,h1,h2,h3,h4⟩:=key
   have:=S.cm _ _ _ _ hc
   exact ⟨t',n,k,W,hc,h1,h2,(g.take (by omega)).trans h3,h4⟩
  ·rw [zfa H v _ e] at ha hb ⊢
   obtain ⟨t',n,k,W,hc,h1,h2,h3,h4⟩:=S.old t a y b z ha hk hyt hba hb hkb
   have:=S.cm _ _ _ _ hc
   exact ⟨t',n,k,W,hc,h1,h2,(g.take (by omega)).trans h3,h4⟩
 ·by_cases e:t=T
  ·subst e
   rw [zcj] at ha ⊢
   rcases zfr ha with ⟨h1,h2⟩ | ⟨rfl,rfl⟩
   ·have hLL:=hin h2 hyt
    rw [zea (by omega)]
    rw [← hLL] at h2 ⊢
    exact S.nr t a y h2 hk hyt
   ·rw [zea (Nat.le_refl _),List.take_length]
    exact hnr hk
  ·rw [zfa H v _ e] at ha ⊢
   exact S.nr t a y ha hk hyt
theorem setL_ni {H : Hist} (S : Static H) {v : Nat} (hv : v < 7) {d d' : Nd} (h : NI H v d) {x : Ent} (hxt : x.term = d.term) (g : Grows H (setL H v d.term (d.log ++ [x]))) (hLM : LM (setL H v d.term (d.log ++ [x])) (d.log ++ [x]))
    (hc:∃ D Q,Cand H d.term v D Q) (hl:d'.log=d.log++[x]) (ht:d'.term=d.term) (hvo:d'.vote=d.vote) (hr:d'.role=3) (hco:d'.com≤d.com)
    (hm:∀ i,i < 7→∀ n,1≤n→n≤d'.mt i→H.AK i d.term n∨(i=v∧n≤d'.log.length)):NI (setL H v d.term (d.log++[x])) v d':=by
 have hcl:=h.com.len S
 refine ⟨by rw [hl];exact hLM,fun y hy=>?_,?_,fun T c D hd=>by rw [ht,hvo];exact h.vd T c D hd,fun t n ha=>?_,fun e=>by omega,fun _=>⟨?_,by rw [hl];simp,?_,fun i hi n h1 h2=>?_⟩⟩
 ·rw [hl] at hy
  rcases List.mem_append.1 hy with hy | hy
  ·have:=h.le y hy;omega
  ·rw [List.mem_singleton.1 hy];omega
 ·rw [hl,ht]
  exact (h.com.le hco).mono S g (Int.le_refl _) (zea (by omega))
 ·rw [hl,ht]
  rcases ha with ha | ⟨_,rfl,hn⟩
  ·obtain ⟨h1,h3⟩:=h.ak t n ha
   have hln:=S.akl v t n ha
   refine ⟨h1,?_⟩
   rcases h3 with h3 | ⟨T',a,b,c,e⟩
   ·have:n≤d.log.length:=zej h3 hln
    exact .inl (by rw [zea this,h3,g.take hln])
   ·exact .inr ⟨T',a,b,g.led c,g.lost S a hln c e⟩
  ·exact ⟨Int.le_refl _,.inl (by rw [zcj])⟩
 ·rw [ht,zcj,hl]
 ·obtain ⟨D,Q,h1⟩:=hc
  rw [ht]
  exact ⟨D,Q,g.cand h1⟩
 ·rw [ht]
  rcases hm i hi n h1 h2 with h3 | ⟨rfl,h3⟩
  ·exact .inl h3
  ·exact .inr ⟨rfl,rfl,by rw [← hl];exact h3⟩
theorem zys {H : Hist} {N : Nat → Nd} (I : GI H N) {v : Nat} (hv : v < 7) {d' : Nd} {x : Ent} (hxt : x.term = (N v).term) (h0 : H.LL (N v).term = [] ∨ (N v).role = 3)
    (hc:∃ D Q,Cand H (N v).term v D Q)
    (hled:∃ c D Q,Cand H (N v).term c D Q∧zjf H (N v).term D Q∧(N v).log.take D.length=D∧∀ n y,D.length≤n→(N v).log[n]?=some y→y.term=(N v).term)
    (hown:x.kind=2→∃ n k W,H.Cm (N v).term n k W∧k≤(N v).log.length)
    (hold:x.kind=2→∀ b y,(N v).log[b]?=some y→y.kind=2→∃ t n k W,H.Cm t n k W∧t≤(N v).term∧b+1≤n∧(H.LL t).take (b+1)=(N v).log.take (b+1)∧(t=(N v).term→k≤(N v).log.length))
    (hnr:x.kind=2→nearR (cfL H.c0 (N v).log) x.conf=true)
    (hl:d'.log=(N v).log++[x]) (ht:d'.term=(N v).term) (hvo:d'.vote=(N v).vote) (hr:d'.role=3) (hco:d'.com≤(N v).com)
    (hm:∀ i,i < 7→∀ n,1≤n→n≤d'.mt i→H.AK i (N v).term n∨(i=v∧n≤d'.log.length)) :
    ∃ H',Grows H H'∧GI H' (upd N v d'):=by
 have S:=I.st
 have h:=I.nd v hv
 have h0':H.LL (N v).term=[]∨H.LL (N v).term=(N v).log:=h0.imp_right fun e=>(h.ld e).1
 have hvT:∀ T' c D,H.VD v T' c D→T'≤(N v).term:=fun T' c D hd=>(h.vd T' c D hd).1
 have g:=zmz hxt h0' hvT
 obtain ⟨S',hLM⟩:=zsw S hxt h0' hvT h.lm h.le hled hown hold hnr
 refine ⟨_,g,S',I.vc,fun w hw=>?_⟩
 by_cases e:w=v
 ·subst e
  rw [zbf]
  exact setL_ni S hw h hxt g hLM hc hl ht hvo hr hco hm
 ·rw [zc2 N e]
  refine (I.nd w hw).mono S g (fun _ _ _ h=>h) (fun t n ha=>?_) (fun hw3=>?_) (fun _ h1 _=>?_)
  ·rcases ha with ha | ⟨e2,_⟩
   ·exact ha
   ·exact absurd e2 e
  ·by_cases e2:(N w).term=(N v).term
   ·obtain ⟨q1,q2,⟨D,Q,q3⟩,_⟩:=(I.nd w hw).ld hw3
    rw [e2] at q1 q3
    rcases h0 with h0 | h0
    ·rw [h0] at q1;exact absurd q1.symm q2
    ·obtain ⟨_,_,⟨D',Q',q4⟩,_⟩:=h.ld h0
     exact absurd (zof S q3 q4).1 e
   ·exact zfa H v _ e2
  ·by_cases e2:(N w).term=(N v).term
   ·obtain ⟨D,Q,h2⟩:=hc
    rw [e2]
    exact ⟨v,D,Q,fun e3=>e e3.symm,g.cand h2⟩
   ·rename_i h3
    rw [zfa H v _ e2] at h3
    exact absurd h1 h3
theorem gi_lead {H : Hist} {N : Nat → Nd} (I : GI H N) {v : Nat} (hv : v < 7) {d' : Nd} {x : Ent} (hr0 : (N v).role = 2) (hq : zak (cfL H.c0 (N v).log) (N v).votes = true) (hxt : x.term = (N v).term) (hk : x.kind ≠ 2)
    (hl:d'.log=(N v).log++[x]) (ht:d'.term=(N v).term) (hvo:d'.vote=(N v).vote) (hr:d'.role=3) (hco:d'.com≤(N v).com)
    (hm:∀ i,i < 7→∀ n,1≤n→n≤d'.mt i→i=v∧n≤d'.log.length):∃ H',Grows H H'∧GI H' (upd N v d'):=by
 have S:=I.st
 have h:=I.nd v hv
 obtain ⟨s1,s2,s3,s4,s5⟩:=h.st hr0
 have hcd:Cand H (N v).term v (N v).log (N v).votes:=⟨s2,h.lm,s3,s1,hq,s4⟩
 have hnil:H.LL (N v).term=[]:=by
  apply Classical.byContradiction
  intro hne
  obtain ⟨c,D,Q,hcv,hcd2⟩:=s5 hne
  exact hcv (zof S hcd2 hcd).1
 have hst:zjf H (N v).term (N v).log (N v).votes:=by
  intro w t n y hw hQ ha ht hn hy hyt
  rcases S.vi w _ v _ t n y (s4 w hw hQ) ha ht hn hy hyt with h | ⟨T',a,b,c,e⟩
  ·exact .inl h
  ·refine .inr ⟨T',a,?_,c,e⟩
   rcases (by omega:T' < (N v).term∨T'=(N v).term) with h | h
   ·exact h
   ·subst h;exact absurd hnil c
 exact zys I hv hxt (.inl hnil) ⟨_,_,hcd⟩ ⟨v,_,_,hcd,hst,List.take_length,fun n y hn hy=>by have:=zb3 hy;omega⟩ (fun e=>absurd e hk) (fun e=>absurd e hk) (fun e=>absurd e hk) hl ht hvo hr hco fun i hi n h1 h2=>.inr (hm i hi n h1 h2)
theorem gi_add {H : Hist} {N : Nat → Nd} (I : GI H N) {v : Nat} (hv : v < 7) {d' : Nd} {x : Ent} (hr0 : (N v).role = 3) (hxt : x.term = (N v).term)
    (hcf:x.kind=2→(∃ y,(N v).log[(N v).com - 1]?=some y∧y.term=(N v).term)∧1≤(N v).com∧(∀ b y,(N v).log[b]?=some y→y.kind=2→b+1≤(N v).com)∧nearR (cfL H.c0 (N v).log) x.conf=true)
    (hl:d'.log=(N v).log++[x]) (ht:d'.term=(N v).term) (hvo:d'.vote=(N v).vote) (hr:d'.role=3) (hco:d'.com≤(N v).com)
    (hm:∀ i,i < 7→∀ n,1≤n→n≤d'.mt i→n≤(N v).mt i∨(i=v∧n≤d'.log.length)):∃ H',Grows H H'∧GI H' (upd N v d'):=by
 have S:=I.st
 have h:=I.nd v hv
 obtain ⟨q1,q2,q3,q4⟩:=h.ld hr0
 have hne:H.LL (N v).term ≠ []:=by rw [q1];exact q2
 have hled:=S.led _ hne
 rw [q1] at hled
 refine zys I hv hxt (.inr hr0) q3 hled (fun hk=>?_) (fun hk b y hb hkb=>?_) (fun hk=>(hcf hk).2.2.2) hl ht hvo hr hco fun i hi n h1 h2=>?_
 ·obtain ⟨⟨y,hy,hyt⟩,hc1,_,_⟩:=hcf hk
  rcases h.com with h0 | ⟨t,n,k,W,hc,htT,hn,e⟩
  ·omega
  ·have hcm:=S.cm _ _ _ _ hc
   have hy2:(H.LL t)[(N v).com - 1]?=some y:=by rw [← hy];exact (zcf e (by omega)).symm
   have:=S.lle t y (zeu hy2)
   have et:t=(N v).term:=by omega
   subst et
   exact ⟨n,k,W,hc,by rw [← q1];omega⟩
 ·obtain ⟨_,hc1,hall,_⟩:=hcf hk
  have hb2:=hall b y hb hkb
  rcases h.com with h0 | ⟨t,n,k,W,hc,htT,hn,e⟩
  ·omega
  ·have hcm:=S.cm _ _ _ _ hc
   refine ⟨t,n,k,W,hc,htT,by omega,(za0 e hb2).symm,fun et=>?_⟩
   subst et
   rw [← q1];omega
 ·rcases hm i hi n h1 h2 with h3 | h3
  ·exact .inl (q4 i hi n h1 h3)
  ·exact .inr h3
theorem z4e {H : Hist} {N : Nat → Nd} (I : GI H N) {v : Nat} (hv : v < 7) {d : Nd} (hr0 : (N v).role = 3) (hl : d.log = (N v).log) (ht : d.term = (N v).term) (hvo : d.vote = (N v).vote) (hr : d.role = 3) (hc : d.com = (N v).com)
    (hm:∀ i,i < 7→∀ n,1≤n→n≤d.mt i→n≤(N v).mt i∨H.AK i (N v).term n):GI H (upd N v d):=by
 refine ⟨I.st,I.vc,fun w hw=>?_⟩
 by_cases e:w=v
 ·subst e
  rw [zbf]
  have h:=I.nd w hw
  obtain ⟨q1,q2,q3,q4⟩:=h.ld hr0
  refine ⟨by rw [hl];exact h.lm,fun x hx=>by rw [hl] at hx;have:=h.le x hx;omega,by rw [hl,hc,ht];exact h.com,fun T c D hd=>by rw [ht,hvo];exact h.vd T c D hd,fun t n hn=>by rw [hl,ht];exact h.ak t n hn,fun e=>by omega,fun _=>?_⟩
  rw [ht,hl]
  exact ⟨q1,q2,q3,fun i hi n h1 h2=>(hm i hi n h1 h2).elim (fun a=>q4 i hi n h1 a) id⟩
 ·rw [zc2 N e]
  exact I.nd w hw
def addC (H:Hist) (T:Int) (n k:Nat) (W:Int):Hist:={ H with Cm:=fun t m j w=>H.Cm t m j w∨(t=T∧m=n∧j=k∧w=W) }
theorem zy5 {H : Hist} {N : Nat → Nd} (I : GI H N) {v : Nat} (hv : v < 7) {d : Nd} (hr0 : (N v).role = 3) {n : Nat} {W : Int} (hn : 1 ≤ n) {x : Ent} (hx : (N v).log[n - 1]? = some x) (hxt : x.term = (N v).term)
    (hq:zak (cfL H.c0 (N v).log) W=true) (hW:∀ i,i < 7→tb W i=true→n≤(N v).mt i)
    (hl:d.log=(N v).log) (ht:d.term=(N v).term) (hvo:d.vote=(N v).vote) (hr:d.role=3) (hc:d.com=n) (hm:d.mt=(N v).mt):∃ H',Grows H H'∧GI H' (upd N v d):=by
 have S:=I.st
 have h:=I.nd v hv
 obtain ⟨q1,q2,q3,q4⟩:=h.ld hr0
 have hln:=zb3 hx
 have g:Grows H (addC H (N v).term n (N v).log.length W) :=
  ⟨rfl,fun t=>List.take_length,fun t n x _ h1 h2=>by have:=zb3 h2;exact absurd this (Nat.not_lt.2 h1),fun _ _ _ _ h=>.inl h,fun _ _ _ _ h=>h,fun _ _ _ h=>h,fun _ _ _ _ _ _ _ _ h=>h⟩
 refine ⟨addC H (N v).term n (N v).log.length W,g,⟨⟨S.llm,S.lle,fun t he=>?_,S.akl,S.vi,S.vu,fun t m k w hcm=>?_,fun t a y ha hk hyt=>?_,fun t a y b z ha hk hyt hba hb hkb=>?_,S.nr⟩,I.vc,fun w hw=>?_⟩⟩
 ·obtain ⟨c,D,Q,h1,h2,h3⟩:=S.led t he
  exact ⟨c,D,Q,g.cand h1,h2,h3⟩
 ·rcases hcm with hcm | ⟨rfl,rfl,rfl,rfl⟩
  ·exact S.cm t m k w hcm
  ·show 1≤m∧m≤_∧_≤(H.LL (N v).term).length∧(∃ x,(H.LL (N v).term)[m - 1]?=some x∧x.term=(N v).term)∧zak (cfL H.c0 ((H.LL (N v).term).take _)) w=true∧∀ i,i < 7→tb w i=true→H.AK i (N v).term m
   rw [q1,List.take_length]
   exact ⟨hn,by omega,Nat.le_refl _,⟨x,hx,hxt⟩,hq,fun i hi hb=>q4 i hi m hn (hW i hi hb)⟩
 ·obtain ⟨n',k',W',h1,h2⟩:=S.own t a y ha hk hyt
  exact ⟨n',k',W',.inl h1,h2⟩
 ·obtain ⟨t',n',k',W',h1,h2⟩:=S.old t a y b z ha hk hyt hba hb hkb
  exact ⟨t',n',k',W',.inl h1,h2⟩
 ·by_cases e:w=v
  ·subst e
   rw [zbf]
   refine ⟨by rw [hl];exact h.lm,fun x hx=>by rw [hl] at hx;have:=h.le x hx;omega,?_,fun T c D hd=>by rw [ht,hvo];exact h.vd T c D hd,fun t n hn=>by rw [hl,ht];exact h.ak t n hn,fun e=>by omega,fun _=>?_⟩
   ·rw [hl,hc,ht]
    exact .inr ⟨_,_,_,_,.inr ⟨rfl,rfl,rfl,rfl⟩,Int.le_refl _,Nat.le_refl _,by show _=(H.LL _).take n;rw [q1]⟩
   ·rw [ht,hl,hm]
    obtain ⟨D,Q,q3⟩:=q3
    exact ⟨q1,q2,⟨D,Q,g.cand q3⟩,q4⟩
  ·rw [zc2 N e]
   exact (I.nd w hw).mono S g (fun _ _ _ h=>h) (fun _ _ h=>h) (fun _=>rfl) (fun _ h1 h2=>absurd h1 h2)
def addA (H:Hist) (v:Nat) (T:Int) (n:Nat):Hist:={ H with AK:=fun w t m=>H.AK w t m∨(w=v∧t=T∧m≤n) }
theorem zkb {H : Hist} {N : Nat → Nd} (I : GI H N) {v : Nat} (hv : v < 7) {d : Nd} {n : Nat} (hne : H.LL (N v).term ≠ []) (hn : n ≤ (H.LL (N v).term).length)
    (hl:((N v).log.take n=(H.LL (N v).term).take n∧d.log=(N v).log)∨(¬ (N v).log.take n=(H.LL (N v).term).take n∧d.log=(H.LL (N v).term).take n))
    (ht:d.term=(N v).term) (hvo:d.vote=(N v).vote) (hr:d.role ≠ 2∧d.role ≠ 3) (hc:d.com≤(N v).com∨(d.com≤n∧JG H (N v).term (H.LL (N v).term) d.com)) :
    ∃ H',Grows H H'∧GI H' (upd N v d)∧∀ m,m≤n→H'.AK v d.term m:=by
 have S:=I.st
 have h:=I.nd v hv
 have hvT:∀ T' c D,H.VD v T' c D→T'≤(N v).term:=fun T' c D hd=>(h.vd T' c D hd).1
 have g:Grows H (addA H v (N v).term n) :=
  ⟨rfl,fun t=>List.take_length,fun t n x _ h1 h2=>by have:=zb3 h2;exact absurd this (Nat.not_lt.2 h1),fun _ _ _ _ h=>h,fun _ _ _ _ h=>h,fun _ _ _ h=>.inl h,fun w T' c D t m hd ht ha=>by
   rcases ha with ha | ⟨rfl,rfl,_⟩
   ·exact ha
   ·have:=hvT _ _ _ hd
    omega⟩
 -- what is committed stays
 have hcl:=h.com.len S
 have hcL:(N v).log.take (N v).com=(H.LL (N v).term).take (N v).com:=h.com.lead S hne
 have hdn:d.log.take n=(H.LL (N v).term).take n:=by
  rcases hl with ⟨h1,h2⟩ | ⟨_,h2⟩
  ·rw [h2];exact h1
  ·rw [h2,List.take_take,Nat.min_self]
 have hdc:d.log.take (N v).com=(N v).log.take (N v).com:=by
  rcases hl with ⟨_,h2⟩ | ⟨h1,h2⟩
  ·rw [h2]
  ·have : (N v).com ≤ n := by
     apply Classical.byContradiction
     intro h3
     exact h1 (za0 hcL (by omega))
   rw [h2,List.take_take,Nat.min_eq_left this];exact hcL.symm
 have hdLM:LM H d.log:=by
  rcases hl with ⟨_,h2⟩ | ⟨_,h2⟩
  ·rw [h2];exact h.lm
  ·rw [h2]
   intro i x hx
   have hi:=zb3 hx
   rw [List.length_take] at hi
   rw [List.getElem?_take_of_lt (by omega)] at hx
   rw [List.take_take,Nat.min_eq_left (by omega)]
   exact S.llm _ i x hx
 have hdle:∀ x ∈ d.log,x.term≤(N v).term:=by
  intro x hx
  rcases hl with ⟨_,h2⟩ | ⟨_,h2⟩
  ·rw [h2] at hx;exact h.le x hx
  ·rw [h2] at hx;exact S.lle _ x (List.mem_of_mem_take hx)
 refine ⟨addA H v (N v).term n,g,⟨⟨S.llm,S.lle,fun t he=>?_,fun w t m ha=>?_,fun w T1 c D t m y hd ha htT hm hy hyt=>?_,S.vu,fun t m k w hcm=>?_,S.own,S.old,S.nr⟩,I.vc,fun w hw=>?_⟩,fun m hm=>.inr ⟨rfl,ht,hm⟩⟩
 ·obtain ⟨c,D,Q,h1,h2,h3⟩:=S.led t he
  exact ⟨c,D,Q,g.cand h1,g.strong S (fun w hw hQ=>⟨c,h1.vd w hw hQ⟩) h2,h3⟩
 ·rcases ha with ha | ⟨_,rfl,hm⟩
  ·exact S.akl w t m ha
  ·exact Nat.le_trans hm hn
 ·rcases ha with ha | ⟨rfl,rfl,_⟩
  ·exact S.vi w T1 c D t m y hd ha htT hm hy hyt
  ·have:=hvT _ _ _ hd
   omega
 ·obtain ⟨h1,h2,h3,h4,h5,h6⟩:=S.cm t m k w hcm
  exact ⟨h1,h2,h3,h4,h5,fun i hi hb=>.inl (h6 i hi hb)⟩
 ·by_cases e:w=v
  ·subst e
   rw [zbf]
   refine ⟨g.lm hdLM,fun x hx=>by rw [ht];exact hdle x hx,?_,fun T c D hd=>by rw [ht,hvo];exact h.vd T c D hd,fun t m ha=>?_,fun e=>absurd e hr.1,fun e=>absurd e hr.2⟩
   ·rw [ht]
    rcases hc with hc | ⟨hc,hj⟩
    ·exact (h.com.le hc).mono S g (Int.le_refl _) (za0 hdc hc)
    ·exact hj.mono S g (Int.le_refl _) (za0 hdn hc)
   ·rw [ht]
    rcases ha with ha | ⟨_,rfl,hm⟩
    ·obtain ⟨h1,h3⟩:=h.ak t m ha
     have hml:=S.akl w t m ha
     refine ⟨h1,?_⟩
     rcases h3 with h3 | ⟨T',a,b,c,e⟩
     ·rcases hl with ⟨_,h5⟩ | ⟨h4,h5⟩
      ·rw [h5];exact .inl h3
      ·by_cases hk:(H.LL (N w).term).take m=(H.LL t).take m
       ·refine .inl ?_
        have:m≤n:=by
         apply Classical.byContradiction
         intro h6
         exact h4 (za0 (h3.trans hk.symm) (by omega))
        rw [h5,List.take_take,Nat.min_eq_left this];exact hk
       ·refine .inr ⟨(N w).term,?_,Int.le_refl _,hne,hk⟩
        rcases (by omega:t < (N w).term∨t=(N w).term) with h7 | h7
        ·exact h7
        ·subst h7;exact absurd rfl hk
     ·exact .inr ⟨T',a,b,c,e⟩
    ·exact ⟨Int.le_refl _,.inl (za0 hdn hm)⟩
  ·rw [zc2 N e]
   exact (I.nd w hw).mono S g (fun _ _ _ h=>h) (fun t m ha=>by
    rcases ha with ha | ⟨e2,_⟩
    ·exact ha
    ·exact absurd e2 e) (fun _=>rfl) (fun _ h1 h2=>absurd h1 h2)
theorem za3 {α:Type}{f:α→List PV}{l:List α}{i:Nat} (h:i < l.length):(l.map f)[((i:Nat):Int).toNat]?=some (f (l[i]'h)):=by
 simp [h]
def zem (c:VCmd):Bool:=decide (2000 < (c.key.size:Int)) || (decide (2000 < (c.old.text.size:Int)) || decide (2000 < (c.val.text.size:Int)))
theorem zwx (c:VCmd):Ctr Tryz.prog 9 [.ag c.enc] (bv (zem c)) []:=by
 refine sBody Tryz.func9 ?_;conv=>whnf
 repeat' (first | (refine tS ?_ ?_<;>intro h) | fail)
 all_goals (refine zaa rfl ?_;simp [zem, *])
theorem any_at {α:Type}{p:α→Bool}{l:List α}{i:Nat} (h:i < l.length) (hp:p (l[i]'h)=true):l.any p=true:=by
 rw [List.any_eq_true];exact ⟨_,List.getElem_mem h,hp⟩
theorem z3m {α:Type}{p:α→Bool}{l:List α} (h:∀ j (hj:j < l.length),p (l[j]'hj)=false):l.any p=false:=by
 rw [List.any_eq_false]
 intro x hx
 obtain ⟨j,hj,rfl⟩:=List.getElem_of_mem hx
 simp [h j hj]
theorem w1 {i:Nat} (h:(i:Int) < 9223372036854775807):IntKind.i64.wrap ((i:Int)+1)=((i+1:Nat):Int):=by
 rw [zaf (by omega) (by omega)];rfl
noncomputable def Mg.inn (m:Mg):List Mg:=Classical.epsilon fun zs:List Mg=>m.inner=zs.map Mg.enc∧∀ z ∈ zs,z.ok
def lastT (h:Hrd):Int:=match h.log.getLast? with
 | none=>h.baseTerm
 | some x=>x.term
def lastI (h:Hrd):Int:=if h.log.length=0 then h.base else w64 (h.base+h.log.length)
theorem zz0 {l:List Ent} (h:l.length ≠ 0) (hm:l.length≤maxLen):0≤w64 ((l.length:Int) - 1)∧(l.map Ent.enc)[(w64 ((l.length:Int) - 1)).toNat]?=some (l.getLast (by intro e;rw [e] at h;exact h rfl)).enc:=by
 have hm':l.length≤9223372036854775807:=Nat.le_trans hm (by decide)
 rw [show w64 ((l.length:Int) - 1)=((l.length - 1:Nat):Int) from by rw [show w64 ((l.length:Int) - 1)=(l.length:Int) - 1 from zaf (by omega) (by omega)];omega]
 refine ⟨by omega,?_⟩
 rw [za3 (by omega),List.getLast_eq_getElem]
theorem zmk {h:Hrd} (hl:h.log ≠ []):lastT h=(h.log.getLast hl).term:=by
 unfold lastT;first | rw [List.getLast?_eq_some_getLast hl] | rw [List.getLast?_eq_getLast hl] | rw [List.getLast?_eq_getLast_of_ne_nil hl]
theorem zc1 (a:Hrd) (hm:a.log.length≤maxLen):Ctr Tryz.prog 48 [.ag a.enc] (.tu [iv (lastI a),iv (lastT a)]) []:=by
 refine sBody Tryz.func48 ?_;conv=>whnf
 refine tS ?_ ?_<;>intro h
 ·have h0 : a.log = [] := by
    simp only [List.length_map] at *
    exact List.eq_nil_of_length_eq_zero (by omega)
  refine zaa rfl ?_
  simp [lastI,lastT,h0]
 ·simp only [List.length_map] at *
  obtain ⟨h1,h2⟩:=zz0 (l:=a.log) (by omega) hm
  refine ⟨h1,_,h2,?_⟩
  conv=>whnf
  refine zaa rfl ?_
  have hne:a.log ≠ []:=fun e=>by simp_all
  rw [zmk hne,lastI,if_neg (by omega)]
theorem zbr (a:Hrd) (hm:a.log.length≤maxLen):Ctr Tryz.prog 151 [.ag a.enc] (.tu [iv (lastI a),iv (lastT a)]) []:=by
 refine sBody Tryz.func151 ?_;conv=>whnf
 refine tS ?_ ?_<;>intro h
 ·have h0 : a.log = [] := by
    simp only [List.length_map] at *
    exact List.eq_nil_of_length_eq_zero (by omega)
  refine zaa rfl ?_
  simp [lastI,lastT,h0]
 ·simp only [List.length_map] at *
  obtain ⟨h1,h2⟩:=zz0 (l:=a.log) (by omega) hm
  refine ⟨h1,_,h2,?_⟩
  conv=>whnf
  refine zaa rfl ?_
  have hne:a.log ≠ []:=fun e=>by simp_all
  rw [zmk hne,lastI,if_neg (by omega)]
def newer (h:Hrd) (i t:Int):Bool:=decide (lastT h < t) || (t == lastT h && decide (lastI h≤i))
theorem zyu (h:Hrd) (hm:h.log.length≤maxLen) (i t:Int):Ctr Tryz.prog 186 [.ag h.enc,iv i,iv t] (bv (newer h i t)) []:=by
 refine sBody Tryz.func186 ?_;conv=>whnf
 refine tC (zc1 h hm) ?_
 repeat' (first | (refine tS ?_ ?_<;>intro h) | fail)
 all_goals (refine zaa rfl ?_;simp [newer, *])
theorem zuz (h:Hrd) (hm:h.log.length≤maxLen) (i t:Int):Ctr Tryz.prog 159 [.ag h.enc,iv i,iv t] (bv (newer h i t)) []:=by
 refine sBody Tryz.func159 ?_;conv=>whnf
 refine tC (zbr h hm) ?_
 repeat' (first | (refine tS ?_ ?_<;>intro h) | fail)
 all_goals (refine zaa rfl ?_;simp [newer, *])
def asked (r:Rft) (m:Mg):Bool:=decide (r.hard.term < m.term) && (r.role != 3 && (decide (6≤r.quiet) && newer r.hard m.index m.logTerm))
theorem c_Asked (r:Rft) (hm:r.hard.log.length≤maxLen) (m:Mg):Ctr Tryz.prog 185 [.ag r.enc,.ag m.enc] (bv (asked r m)) []:=by
 refine sBody Tryz.func185 ?_;conv=>whnf
 repeat' (first | refine tC (zyu r.hard hm _ _) ?_ | (refine tS ?_ ?_<;>intro h) | fail)
 all_goals (refine zaa rfl ?_;simp [asked, *])
theorem z4i (r:Rft) (hm:r.hard.log.length≤maxLen) (m:Mg):Ctr Tryz.prog 91 [.ag r.enc,.ag m.enc] (bv (asked r m)) []:=by
 refine sBody Tryz.func91 ?_;conv=>whnf
 repeat' (first | refine tC (zuz r.hard hm _ _) ?_ | (refine tS ?_ ?_<;>intro h) | fail)
 all_goals (refine zaa rfl ?_;simp [asked, *])
def voted (r:Rft) (m:Mg):Bool:=m.term == r.hard.term && ((r.hard.vote == -1 || r.hard.vote == m.frm) && newer r.hard m.index m.logTerm)
theorem z1l (r:Rft) (hm:r.hard.log.length≤maxLen) (m:Mg):Ctr Tryz.prog 130 [.ag r.enc,.ag m.enc] (bv (voted r m)) []:=by
 refine sBody Tryz.func130 ?_;conv=>whnf
 repeat' (first | refine tC (zyu r.hard hm _ _) ?_ | (refine tS ?_ ?_<;>intro h) | fail)
 all_goals (refine zaa rfl ?_;simp [voted, *])
theorem zti (r:Rft) (hm:r.hard.log.length≤maxLen) (m:Mg):Ctr Tryz.prog 93 [.ag r.enc,.ag m.enc] (bv (voted r m)) []:=by
 refine sBody Tryz.func93 ?_;conv=>whnf
 repeat' (first | refine tC (zuz r.hard hm _ _) ?_ | (refine tS ?_ ?_<;>intro h) | fail)
 all_goals (refine zaa rfl ?_;simp [voted, *])
abbrev idx (h:Hrd) (k:Nat):Int:=w64 (w64 (h.base+k)+1)
def fwd (h:Hrd) (upto:Int):Nat→Conf×Int
 | 0=>(h.baseConf,h.base)
 | i+1=>match h.log[i]? with
  | some x=>if idx h i≤upto∧x.kind=2 then (x.conf,idx h i) else fwd h upto i
  | none=>fwd h upto i
def force (h:Hrd) (upto:Int):Conf×Int:=fwd h upto h.log.length
abbrev civ (x:Conf×Int):PV:=.tu [.ag x.1.enc,iv x.2]
theorem zr2 {h:Hrd}{upto:Int}{i:Nat} (hi:i < h.log.length) (h1:idx h i≤upto) (h2:(h.log[i]'hi).kind=2):fwd h upto (i+1)=((h.log[i]'hi).conf,idx h i):=by
 simp [fwd,hi,h1,h2]
theorem zh0 {h:Hrd}{upto:Int}{i:Nat} (hi:i < h.log.length) (h1:¬ (idx h i≤upto∧(h.log[i]'hi).kind=2)):fwd h upto (i+1)=fwd h upto i:=by
 simp only [fwd,List.getElem?_eq_getElem hi,h1,if_false]
theorem zk2 (a:Hrd) (hm:a.log.length≤maxLen) (upto:Int):Ctr Tryz.prog 152 [.ag a.enc,iv upto] (civ (force a upto)) []:=by
 have hm':a.log.length≤9223372036854775807:=Nat.le_trans hm (by decide)
 refine sBody Tryz.func152 ?_;conv=>whnf
 refine zh4 mixed (by kernel_rfl) (fun i:Nat=>i≤a.log.length) (fun i=>[(8,iv i),(7,iv (fwd a upto i).2)]) (fun i=>[(2,a.enc),(4,cz.enc),(6,(fwd a upto i).1.enc)]) [] (fun i=>a.log.length - i) 0 (Nat.zero_le _) ?_ ?_
 ·exact wkE
 ·intro i hi
  refine tS ?_ ?_<;>intro h
  ·simp only [List.length_map] at h
   have hlt:i < a.log.length:=by omega
   refine tS ?_ ?_<;>intro h
   ·refine ⟨by omega,_,za3 hlt,?_⟩
    conv=>whnf
    rename_i h0
    refine tS ?_ ?_<;>intro h
    ·refine ⟨by omega,_,za3 hlt,?_⟩
     conv=>whnf
     rename_i h1
     refine ⟨i+1,⟨by omega,by omega⟩,?_⟩
     conv=>whnf
     have e:=zr2 hlt h1 h
     (refine tWK ?_;and_intros<;>try exact ⟨⟩)
     all_goals first | exact w1 (by omega) | (rw [e])
    ·rename_i h1
     refine ⟨i+1,⟨by omega,by omega⟩,?_⟩
     conv=>whnf
     have e:=zh0 (upto:=upto) hlt (fun x=>h x.2)
     (refine tWK ?_;and_intros<;>try exact ⟨⟩)
     all_goals first | exact w1 (by omega) | (rw [e])
   ·rename_i h0
    refine ⟨i+1,⟨by omega,by omega⟩,?_⟩
    conv=>whnf
    have e:=zh0 hlt (fun x=>h x.1)
    (refine tWK ?_;and_intros<;>try exact ⟨⟩)
    all_goals first | exact w1 (by omega) | (rw [e])
  ·simp only [List.length_map] at h
   have:i=a.log.length:=by omega
   subst this
   exact zaa rfl rfl
theorem zkd (a:Hrd) (hm:a.log.length≤maxLen) (upto:Int):Ctr Tryz.prog 115 [.ag a.enc,iv upto] (civ (force a upto)) []:=by
 have hm':a.log.length≤9223372036854775807:=Nat.le_trans hm (by decide)
 refine sBody Tryz.func115 ?_;conv=>whnf
 refine zbe mixed (by kernel_rfl) (fun i:Nat=>i≤a.log.length∧fwd a upto i=force a upto) (fun i=>[(6,iv ((i:Int) - 1))]) [] (fun i=>i) a.log.length ⟨Nat.le_refl _,rfl⟩ ?_ ?_
 ·(refine tWK ?_;and_intros<;>try exact ⟨⟩)
  simp only [List.length_map];exact zaf (by omega) (by omega)
 ·rintro i ⟨hi,hf⟩
  refine tS ?_ ?_<;>intro h
  ·obtain ⟨k,rfl⟩:∃ k,i=k+1:=⟨i - 1,by omega⟩
   have ek:(((k+1:Nat):Int) - 1)=(k:Int):=by omega
   rw [ek]
   have hlt:k < a.log.length:=by omega
   refine ⟨by omega,_,za3 hlt,?_⟩
   refine tS ?_ ?_<;>intro h
   ·rename_i h0
    refine tS ?_ ?_<;>intro h
    ·refine ⟨by omega,_,za3 hlt,?_⟩
     conv=>whnf
     rename_i h1
     refine zaa rfl ?_
     rw [← hf,zr2 hlt h h1]
    ·rename_i h1
     refine ⟨k,⟨⟨by omega,?_⟩,by omega⟩,?_⟩
     ·rw [← hf,zh0 hlt (fun x=>h x.1)]
     ·(refine tWK ?_;and_intros<;>try exact ⟨⟩)
      exact zaf (by omega) (by omega)
   ·rename_i h0
    refine ⟨k,⟨⟨by omega,?_⟩,by omega⟩,?_⟩
    ·rw [← hf,zh0 hlt (fun x=>h x.2)]
    ·(refine tWK ?_;and_intros<;>try exact ⟨⟩)
     exact zaf (by omega) (by omega)
  ·have:i=0:=by omega
   subst this
   refine zaa rfl ?_
   rw [← hf];rfl
theorem zdp (r:Rft) (hm:r.hard.log.length≤maxLen):Ctr Tryz.prog 111 [.ag r.enc] (.ag (force r.hard (lastI r.hard)).1.enc) []:=by
 refine sBody Tryz.func111 ?_;conv=>whnf
 refine tC (zc1 r.hard hm) ?_
 refine tC (zkd r.hard hm _) ?_
 exact zaa rfl rfl
theorem zb6 (r:Rft) (hm:r.hard.log.length≤maxLen):Ctr Tryz.prog 76 [.ag r.enc] (.ag (force r.hard (lastI r.hard)).1.enc) []:=by
 refine sBody Tryz.func76 ?_;conv=>whnf
 refine tC (zbr r.hard hm) ?_
 refine tC (zk2 r.hard hm _) ?_
 exact zaa rfl rfl
abbrev zab (r:Rft):Conf:=(force r.hard (lastI r.hard)).1
theorem zmu (r:Rft) (hm:r.hard.log.length≤maxLen):Ctr Tryz.prog 123 [.ag r.enc] (bv (zak (zab r) r.votes)) []:=by
 refine sBody Tryz.func123 ?_;conv=>whnf
 refine tC (zdp r hm) ?_
 refine tC (zjz (zab r) _) ?_
 exact zaa rfl rfl
theorem zkw (r:Rft) (hm:r.hard.log.length≤maxLen):Ctr Tryz.prog 79 [.ag r.enc] (bv (zak (zab r) r.votes)) []:=by
 refine sBody Tryz.func79 ?_;conv=>whnf
 refine tC (zb6 r hm) ?_
 refine tC (zh7 (zab r) _) ?_
 exact zaa rfl rfl
theorem zor (r:Rft) (hm:r.hard.log.length≤maxLen):Ctr Tryz.prog 117 [.ag r.enc] (bv (bitB (bor (zab r).full (zab r).wit) r.id)) []:=by
 refine sBody Tryz.func117 ?_;conv=>whnf
 refine tC (zdp r hm) ?_
 refine tC (zoc (zab r)) ?_
 refine tC (c_bit _ _) ?_
 exact zaa rfl rfl
theorem zj1 (r:Rft) (hm:r.hard.log.length≤maxLen):Ctr Tryz.prog 78 [.ag r.enc] (bv (bitB (bor (zab r).full (zab r).wit) r.id)) []:=by
 refine sBody Tryz.func78 ?_;conv=>whnf
 refine tC (zqs _) ?_
 refine tS ?_ ?_<;>intro h
 ·refine tC (zb6 r hm) ?_
  refine tC (zk3 (zab r)) ?_
  refine tC (c_Has _ _) ?_
  refine zaa rfl ?_
  rw [zja h]
 ·refine zaa rfl ?_
  rw [zom h]
theorem zj6 (c:Conf) (i:Int):Ctr Tryz.prog 75 [.ag c.enc,iv i] (iv (delay c i)) []:=by
 refine sBody Tryz.func75 ?_;conv=>whnf
 refine tC (zn4 c i) ?_
 repeat' (first | (refine tS ?_ ?_<;>intro h) | fail)
 all_goals (refine zaa rfl ?_;have hf:=zls c i;have hw:=z3i c i;rw [Bool.eq_iff_iff,beq_iff_eq] at hf hw;simp_all [delay])
abbrev bz:ByteArray:=⟨#[]⟩
abbrev vz:VVal:=⟨0,0,bz⟩
abbrev kz:VCall:=⟨0,0,⟨0,bz,vz,vz⟩⟩
abbrev ez:Ent:=⟨0,0,kz,cz⟩
def entAt (h:Hrd) (i:Int):Option Ent:=if h.base < i∧i - h.base≤h.log.length then h.log[(i - h.base - 1).toNat]? else none
theorem zd1 {h:Hrd}{i:Int} (hh:¬ (h.base < i∧i - h.base≤h.log.length)):entAt h i=none:=by
 unfold entAt;rw [if_neg hh]
theorem zeo {h:Hrd}{i:Int} (h1:h.base < i) (h2:i - h.base≤h.log.length):entAt h i=some (h.log[(i - h.base - 1).toNat]'(by omega)):=by
 unfold entAt;rw [if_pos ⟨h1,h2⟩,List.getElem?_eq_getElem]
theorem zxi {α:Type}{f:α→List PV}{l:List α}{n:Int}{k:Nat} (hn:n=k) (h:k < l.length):0≤n∧(l.map f)[n.toNat]?=some (f (l[k]'h)):=by
 subst hn;exact ⟨by omega,za3 h⟩
theorem zy0 (a:Hrd) (hm:a.log.length≤maxLen) (hb:isI a.base) (i:Int) (hi:isI i):Ctr Tryz.prog 141 [.ag a.enc,iv i] (.tu [.ag ((entAt a i).getD ez).enc,bv (entAt a i).isSome]) []:=by
 have hm':a.log.length≤9223372036854775807:=Nat.le_trans hm (by decide)
 unfold isI at hb hi
 refine sBody Tryz.func141 ?_;conv=>whnf
 refine tS ?_ ?_<;>intro h
 ·refine zaa rfl ?_
  rw [zd1 (by omega)];rfl
 have h0:=h
 refine tS ?_ ?_<;>intro h
 ·refine zaa rfl ?_
  simp only [List.length_map] at h
  rw [zd1]
  ·rfl
  ·rw [zpz] at h;split at h<;>omega
 have h1:=h
 refine tS ?_ ?_<;>intro h
 ·refine zaa rfl ?_
  simp only [List.length_map] at h h1
  rw [zd1]
  ·rfl
  ·rw [zpz] at h;split at h<;>omega
 ·simp only [List.length_map] at h h1
  have e:IntKind.i64.wrap (i - a.base)=i - a.base:=by
   rw [zpz] at *;split at h<;>split<;>omega
  rw [e] at h h1
  have e2:IntKind.i64.wrap (IntKind.i64.wrap (i - a.base) - 1)=((i - a.base - 1).toNat:Int):=by
   rw [e,zaf (by omega) (by omega)];omega
  obtain ⟨r1,r2⟩:=zxi (f:=Ent.enc) (l:=a.log) e2 (by omega)
  refine ⟨r1,_,r2,?_⟩
  conv=>whnf
  refine zaa rfl ?_
  rw [zeo (by omega) (by omega)];rfl
def zau (h:Hrd) (i:Int):Int:=if i=h.base then h.baseTerm else match entAt h i with
 | some x=>x.term
 | none=>-1
theorem zm2 (a:Hrd) (hm:a.log.length≤maxLen) (hb:isI a.base) (i:Int) (hi:isI i):Ctr Tryz.prog 204 [.ag a.enc,iv i] (iv (zau a i)) []:=by
 refine sBody Tryz.func204 ?_;conv=>whnf
 refine tS ?_ ?_<;>intro h
 ·exact zaa rfl (by rw [zau,if_pos h])
 have h0:=h
 refine tC (zy0 a hm hb i hi) ?_
 cases he:entAt a i with
 | none =>
  conv=>whnf
  exact zaa rfl (by rw [zau,if_neg h0,he])
 | some x =>
  conv=>whnf
  exact zaa rfl (by rw [zau,if_neg h0,he];rfl)
def fits (h:Hrd) (i t:Int):Bool:=t != -1 && zau h i == t
theorem zs6 (a:Hrd) (hm:a.log.length≤maxLen) (hb:isI a.base) (i:Int) (hi:isI i) (t:Int):Ctr Tryz.prog 203 [.ag a.enc,iv i,iv t] (bv (fits a i t)) []:=by
 refine sBody Tryz.func203 ?_;conv=>whnf
 refine tS ?_ ?_<;>intro h
 ·refine tC (zm2 a hm hb i hi) ?_
  exact zaa rfl (by simp [fits,h])
 ·exact zaa rfl (by simp [fits,h])
theorem c_rAt (a:Hrd) (hm:a.log.length≤maxLen) (hb:0≤a.base) (hs:a.base+a.log.length < 9223372036854775808) (i:Int) (hi:isI i):Ctr Tryz.prog 54 [.ag a.enc,iv i] (.tu [.ag ((entAt a i).getD ez).enc,bv (entAt a i).isSome]) []:=by
 have hm':a.log.length≤9223372036854775807:=Nat.le_trans hm (by decide)
 unfold isI at hi
 refine sBody Tryz.func54 ?_;conv=>whnf
 refine tS ?_ ?_<;>intro h
 ·refine zaa rfl ?_
  rw [zd1 (by omega)];rfl
 have h0:=h
 refine tS ?_ ?_<;>intro h
 ·refine zaa rfl ?_
  simp only [List.length_map] at h
  rw [zaf (by omega) (by omega)] at h
  rw [zd1 (by omega)];rfl
 ·simp only [List.length_map] at h
  rw [zaf (by omega) (by omega)] at h
  have e2:IntKind.i64.wrap (IntKind.i64.wrap (i - a.base) - 1)=((i - a.base - 1).toNat:Int):=by
   rw [zaf (n:=i - a.base) (by omega) (by omega),zaf (by omega) (by omega)];omega
  obtain ⟨r1,r2⟩:=zxi (f:=Ent.enc) (l:=a.log) e2 (by omega)
  refine ⟨r1,_,r2,?_⟩
  conv=>whnf
  refine zaa rfl ?_
  rw [zeo (by omega) (by omega)];rfl
theorem zl6 (a:Hrd) (hm:a.log.length≤maxLen) (hb:0≤a.base) (hs:a.base+a.log.length < 9223372036854775808) (i:Int) (hi:isI i):Ctr Tryz.prog 58 [.ag a.enc,iv i] (iv (zau a i)) []:=by
 refine sBody Tryz.func58 ?_;conv=>whnf
 refine tS ?_ ?_<;>intro h
 ·exact zaa rfl (by rw [zau,if_pos h])
 have h0:=h
 refine tC (c_rAt a hm hb hs i hi) ?_
 cases he:entAt a i with
 | none =>
  conv=>whnf
  exact zaa rfl (by rw [zau,if_neg h0,he])
 | some x =>
  conv=>whnf
  exact zaa rfl (by rw [zau,if_neg h0,he];rfl)
def Arr.at (m:Arr):Nat→Int
 | 0=>m.a0
 | 1=>m.a1
 | 2=>m.a2
 | 3=>m.a3
 | 4=>m.a4
 | 5=>m.a5
 | 6=>m.a6
 | _=>0
noncomputable def haveB (m:Arr) (n:Int):Nat→Int
 | 0=>0
 | k+1=>if n≤m.at k then bor (haveB m n k) (shl 1 k) else haveB m n k
def down (p:Int→Bool) (base commit:Int):Nat→Int
 | 0=>commit
 | f+1=>if commit < base+f then (if p (base+f) then base+f else down p base commit f) else commit
noncomputable def hit (h:Hrd) (m:Arr) (n:Int):Bool:=fits h n h.term && zak (force h (lastI h)).1 (haveB m n 7)
noncomputable def zc9 (h:Hrd) (commit:Int) (m:Arr):Int:=down (hit h m) h.base commit (h.log.length+1)
theorem zua {h:Hrd} (hb:0≤h.base) (hs:h.base+h.log.length < 9223372036854775808):lastI h=h.base+h.log.length:=by
 unfold lastI
 split
 ·omega
 ·exact zaf (by omega) (by omega)
theorem zu8 (a:Hrd) (hm:a.log.length≤maxLen) (hb:0≤a.base) (hs:a.base+a.log.length < 9223372036854775808) (commit:Int) (m:Arr):Ctr Tryz.prog 192 [.ag a.enc,iv commit,.ag m.enc] (iv (zc9 a commit m)) []:=by
 have hbI:isI a.base:=by unfold isI;omega
 refine sBody Tryz.func192 ?_;conv=>whnf
 refine tC (zc1 a hm) ?_
 refine tC (zkd a hm _) ?_
 refine zbe mixed (by kernel_rfl) (fun f:Nat=>f≤a.log.length+1∧down (hit a m) a.base commit f=zc9 a commit m) (fun f=>[(11,iv (a.base+f - 1))]) [] (fun f=>f) (a.log.length+1) ⟨Nat.le_refl _,rfl⟩ ?_ ?_
 ·(refine tWK ?_;and_intros<;>try exact ⟨⟩)
  rw [zua hb hs];omega
 rintro f ⟨hf,hd⟩
 generalize hn:a.base+(f:Int) - 1=n
 refine tS ?_ ?_<;>intro h
 case refine_2 =>
  refine zaa rfl ?_
  rw [← hd]
  cases f with
  | zero=>rfl
  | succ k=>rw [down,if_neg (by omega)]
 have h1:=h
 refine tS ?_ ?_<;>intro h
 case refine_2 =>
  refine zaa rfl ?_
  rw [← hd]
  cases f with
  | zero=>rfl
  | succ k=>omega
 obtain ⟨k,rfl⟩:∃ k,f=k+1:=⟨f - 1,by omega⟩
 have hnk:n=a.base+k:=by omega
 refine zbe mixed (by kernel_rfl) (fun k:Nat=>k≤7) (fun k=>[(39,iv k),(12,iv (haveB m n k))]) [] (fun k=>7 - k) 0 (by decide) ?_ ?_
 ·exact wkE
 ·intro k hk
  rcases (by omega:k=0∨k=1∨k=2∨k=3∨k=4∨k=5∨k=6∨k=7) with rfl | rfl | rfl | rfl | rfl | rfl | rfl | rfl
  ·conv=>whnf
   refine tK2 ?_
   refine tS ?_ ?_<;>intro h
   ·refine tK2 ?_
    refine ⟨1,⟨by omega,by omega⟩,?_⟩
    conv=>whnf
    have e:haveB m n 1=bor (haveB m n 0) (shl 1 0):=if_pos h
    (refine tWK ?_;and_intros<;>try exact ⟨⟩)
    all_goals first | exact e.symm | rfl
   ·refine ⟨1,⟨by omega,by omega⟩,?_⟩
    conv=>whnf
    have e:haveB m n 1=haveB m n 0:=if_neg h
    (refine tWK ?_;and_intros<;>try exact ⟨⟩)
    all_goals first | exact e.symm | rfl
  ·conv=>whnf
   refine tK2 ?_
   refine tS ?_ ?_<;>intro h
   ·refine tK2 ?_
    refine ⟨2,⟨by omega,by omega⟩,?_⟩
    conv=>whnf
    have e:haveB m n 2=bor (haveB m n 1) (shl 1 1):=if_pos h
    (refine tWK ?_;and_intros<;>try exact ⟨⟩)
    all_goals first | exact e.symm | rfl
   ·refine ⟨2,⟨by omega,by omega⟩,?_⟩
    conv=>whnf
    have e:haveB m n 2=haveB m n 1:=if_neg h
    (refine tWK ?_;and_intros<;>try exact ⟨⟩)
    all_goals first | exact e.symm | rfl
  ·conv=>whnf
   refine tK2 ?_
   refine tS ?_ ?_<;>intro h
   ·refine tK2 ?_
    refine ⟨3,⟨by omega,by omega⟩,?_⟩
    conv=>whnf
    have e:haveB m n 3=bor (haveB m n 2) (shl 1 2):=if_pos h
    (refine tWK ?_;and_intros<;>try exact ⟨⟩)
    all_goals first | exact e.symm | rfl
   ·refine ⟨3,⟨by omega,by omega⟩,?_⟩
    conv=>whnf
    have e:haveB m n 3=haveB m n 2:=if_neg h
    (refine tWK ?_;and_intros<;>try exact ⟨⟩)
    all_goals first | exact e.symm | rfl
  ·conv=>whnf
   refine tK2 ?_
   refine tS ?_ ?_<;>intro h
   ·refine tK2 ?_
    refine ⟨4,⟨by omega,by omega⟩,?_⟩
    conv=>whnf
    have e:haveB m n 4=bor (haveB m n 3) (shl 1 3):=if_pos h
    (refine tWK ?_;and_intros<;>try exact ⟨⟩)
    all_goals first | exact e.symm | rfl
   ·refine ⟨4,⟨by omega,by omega⟩,?_⟩
    conv=>whnf
    have e:haveB m n 4=haveB m n 3:=if_neg h
    (refine tWK ?_;and_intros<;>try exact ⟨⟩)
    all_goals first | exact e.symm | rfl
  ·conv=>whnf
   refine tK2 ?_
   refine tS ?_ ?_<;>intro h
   ·refine tK2 ?_
    refine ⟨5,⟨by omega,by omega⟩,?_⟩
    conv=>whnf
    have e:haveB m n 5=bor (haveB m n 4) (shl 1 4):=if_pos h
    (refine tWK ?_;and_intros<;>try exact ⟨⟩)
    all_goals first | exact e.symm | rfl
   ·refine ⟨5,⟨by omega,by omega⟩,?_⟩
    conv=>whnf
    have e:haveB m n 5=haveB m n 4:=if_neg h
    (refine tWK ?_;and_intros<;>try exact ⟨⟩)
    all_goals first | exact e.symm | rfl
  ·conv=>whnf
   refine tK2 ?_
   refine tS ?_ ?_<;>intro h
   ·refine tK2 ?_
    refine ⟨6,⟨by omega,by omega⟩,?_⟩
    conv=>whnf
    have e:haveB m n 6=bor (haveB m n 5) (shl 1 5):=if_pos h
    (refine tWK ?_;and_intros<;>try exact ⟨⟩)
    all_goals first | exact e.symm | rfl
   ·refine ⟨6,⟨by omega,by omega⟩,?_⟩
    conv=>whnf
    have e:haveB m n 6=haveB m n 5:=if_neg h
    (refine tWK ?_;and_intros<;>try exact ⟨⟩)
    all_goals first | exact e.symm | rfl
  ·conv=>whnf
   refine tK2 ?_
   refine tS ?_ ?_<;>intro h
   ·refine tK2 ?_
    refine ⟨7,⟨by omega,by omega⟩,?_⟩
    conv=>whnf
    have e:haveB m n 7=bor (haveB m n 6) (shl 1 6):=if_pos h
    (refine tWK ?_;and_intros<;>try exact ⟨⟩)
    all_goals first | exact e.symm | rfl
   ·refine ⟨7,⟨by omega,by omega⟩,?_⟩
    conv=>whnf
    have e:haveB m n 7=haveB m n 6:=if_neg h
    (refine tWK ?_;and_intros<;>try exact ⟨⟩)
    all_goals first | exact e.symm | rfl
  ·conv=>whnf
   have hnI:isI n:=by unfold isI;omega
   refine tC (zs6 a hm hbI n hnI _) ?_
   refine tS ?_ ?_<;>intro h
   ·have h2:=h
    refine tC (zjz (force a (lastI a)).1 _) ?_
    refine tS ?_ ?_<;>intro h
    ·refine zaa rfl ?_
     rw [← hd,down,if_pos (by omega),if_pos (by rw [← hnk];simp [hit,h2,h]),hnk]
    ·refine ⟨k,⟨⟨by omega,?_⟩,by omega⟩,?_⟩
     ·rw [← hd,down,if_pos (by omega),if_neg (by rw [← hnk];simp [hit,h2,h])]
     ·(refine tWK ?_;and_intros<;>try exact ⟨⟩)
      rw [zaf (by omega) (by omega)];omega
   ·refine ⟨k,⟨⟨by omega,?_⟩,by omega⟩,?_⟩
    ·rw [← hd,down,if_pos (by omega),if_neg (by rw [← hnk];simp [hit,h])]
    ·(refine tWK ?_;and_intros<;>try exact ⟨⟩)
     rw [zaf (by omega) (by omega)];omega
theorem zt7 (c:Conf):Ctr Tryz.prog 31 [.ag c.enc] (.ag [iv 0,iv (-1),iv 0,iv 0,iv c.full,iv c.wit,iv c.learn,iv c.lwit,.nl,.nl]) []:=by
 refine sBody Tryz.func31 ?_;conv=>whnf
 exact zaa rfl rfl
abbrev et (t:Int):Ent:=⟨t,0,kz,cz⟩
abbrev h17:Hrd:=⟨2,-1,0,0,⟨7,0,0,0⟩,[],[et 1,et 1,et 2]⟩
theorem zn7 {p:Int→Bool}{base commit:Int}:∀ f,commit≤down p base commit f
 | 0=>Int.le_refl _
 | f+1=>by
  unfold down
  split
  ·split
   ·omega
   ·exact zn7 f
  ·exact Int.le_refl _
theorem zlv {p:Int→Bool}{base commit:Int}:∀ f,down p base commit f=commit∨(commit < down p base commit f∧base≤down p base commit f∧down p base commit f < base+f∧p (down p base commit f)=true)
 | 0=>.inl rfl
 | f+1=>by
  unfold down
  split
  ·split
   ·rename_i h1 h2
    exact .inr ⟨h1,by omega,by omega,h2⟩
   ·rcases zlv (p:=p) (base:=base) (commit:=commit) f with h | ⟨h1,h2,h3,h4⟩
    ·exact .inl h
    ·exact .inr ⟨h1,h2,by omega,h4⟩
  ·exact .inl rfl
end Go.Proofs
