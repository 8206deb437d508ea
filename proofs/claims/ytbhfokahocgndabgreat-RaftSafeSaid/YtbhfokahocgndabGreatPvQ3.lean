import Derived.Test.YtbhfokahocgndabGreatC1
import Derived.KernelRfl
import Derived.Test.YtbhfokahocgndabGreatPvN
import Derived.Test.YtbhfokahocgndabGreatPvU2
/-
  Code that is cut where its ways meet: a piece at a time. Generic over the program.
-/
set_option linter.unusedSimpArgs false
set_option linter.unusedVariables false
namespace Go.Pv
theorem zkn {P : Program} (hm : P.follows .mixedOrders = true) {f : Nat} {fn : Func} {code : Code} {args : List PV} {r : PV} {os : List (Nat × List (List PV))} (hf : P.funcs[f]? = some fn) (hb : fn.body = some code) (hname : (fn.name == "runtime.NumGoroutine") = false) (hok : zb0 code = true)
    (h:Tri P code (exitQ P fn.results.toList r os) ⟨args++List.replicate (fn.ntmps - args.length) .bad,[],[]⟩):Ctr P f args r os:=by
 refine ⟨?_⟩
 intro w st vs hst hvs
 left
 refine ⟨by simp [callFunc,hf,hb];simpa using hname,?_⟩
 refine calls_of_wp hf hb ?_
 have hlen:=hvs.length
 have hrel:Rel w (fun _=>False) (Base.of st) (zbp st) (CSt.st ⟨args++List.replicate (fn.ntmps - args.length) .bad,[],[]⟩) { tmps:=vs.toArray++Array.replicate (fn.ntmps - vs.toArray.size) undef,defers:=[] } w:=by
  refine ⟨{ os:=rfl,tape:=rfl,out:=rfl,size:=Nat.le_refl _,kept:=fun _ _ _=>rfl,stlt:=hst,stok:=fun b hb=>.inl hb,box:=?_,boxKey:=?_,obj:=?_,objKey:=?_,boxNe:=?_,objNe:=?_,boxObj:=?_,pinB:=?_,pinO:=?_,nwok:=(fun _ h=>h.elim),c00:=⟨fun _ h=>.inl h,fun _ h=>h.elim⟩ },rfl,?_,?_⟩
  ·intro k ls hk;cases hk
  ·intro k b hk;cases hk
  ·intro k a b c hk;cases hk
  ·intro k L hk;cases hk
  ·intro k k' b hk;cases hk
  ·intro k k' o o' L L' hk;cases hk
  ·intro k k' b o L hk;cases hk
  ·intro k b hk;cases hk
  ·intro k b hk;cases hk
  ·simp [CSt.st,hlen]
  ·intro t
   simp only [CSt.st]
   rw [List.getD_eq_getElem?_getD,Array.getD_eq_getD_getElem?,List.getElem?_append,Array.getElem?_append]
   by_cases ht:t < args.length
   ·rw [if_pos ht,if_pos (by simp;omega)]
    obtain ⟨c,hc,hv⟩:=hvs.get t (p:=args[t]) (by simp [ht])
    simp [ht,hc]
    exact hv
   ·rw [if_neg ht]
    rw [List.getElem?_replicate]
    split<;>simp [RV]
 refine wp_mono (h.run w (fun _=>False) (Base.of st) (zbp st) _ w hrel) ?_
 rintro e a' w' ⟨c',M',hr',hq⟩
 cases e with
 | ret =>
  obtain ⟨v,h1,M'',h2,h3⟩:=zgu (fn:=fn) hr' hq
  exact ⟨hr'.dfr,v,h1,v,M'',rfl,h2,h3⟩
 | normal =>
  obtain ⟨v,h1,M'',h2,h3⟩:=zgu (fn:=fn) hr' hq
  exact ⟨hr'.dfr,v,h1,v,M'',rfl,h2,h3⟩
 | exit i=>exact hq.elim
 | goto i=>exact hq.elim
 | panic ch=>exact hq.elim
 | outgrown=>exact hq.elim
theorem zay {P : Program} (hm : P.follows .mixedOrders = true) {f : Nat} {fn : Func} {code : Code} {args : List PV} {r : PV} {bx bx' : List (Nat × List PV)} {ob ob' : List (Nat × Option (Bool × Nat × List (List PV)))} (hf : P.funcs[f]? = some fn) (hb : fn.body = some code) (hname : (fn.name == "runtime.NumGoroutine") = false) (hok : zb0 code = true)
    (h:Tri P code (z07 P fn.results.toList r bx' ob') ⟨args++List.replicate (fn.ntmps - args.length) .bad,bx,ob⟩):CtrE P f args bx ob r bx' ob':=by
 refine ⟨?_⟩
 intro w X M vs h0 hvs
 left
 refine ⟨by simp [callFunc,hf,hb];simpa using hname,?_⟩
 refine calls_of_wp hf hb ?_
 have hlen:=hvs.length
 have hrel:Rel w X (zgk M) M (CSt.st ⟨args++List.replicate (fn.ntmps - args.length) .bad,bx,ob⟩) { tmps:=vs.toArray++Array.replicate (fn.ntmps - vs.toArray.size) undef,defers:=[] } w:=by
  refine ⟨h0,rfl,?_,?_⟩
  ·simp [CSt.st,hlen]
  ·intro t
   simp only [CSt.st]
   rw [List.getD_eq_getElem?_getD,Array.getD_eq_getD_getElem?,List.getElem?_append,Array.getElem?_append]
   by_cases ht:t < args.length
   ·rw [if_pos ht,if_pos (by simp;omega)]
    obtain ⟨c,hc,hv⟩:=hvs.get t (p:=args[t]) (by simp [ht])
    simp [ht,hc]
    exact hv
   ·rw [if_neg ht]
    rw [List.getElem?_replicate]
    split<;>simp [RV]
 refine wp_mono (h.run w X (zgk M) M _ w hrel) ?_
 rintro e a' w' ⟨c',M',hr',hq⟩
 cases e with
 | ret =>
  obtain ⟨v,h1,M'',h2,h3⟩:=zfm (fn:=fn) hr' hq
  exact ⟨hr'.dfr,v,h1,v,M'',rfl,h2,h3⟩
 | normal =>
  obtain ⟨v,h1,M'',h2,h3⟩:=zfm (fn:=fn) hr' hq
  exact ⟨hr'.dfr,v,h1,v,M'',rfl,h2,h3⟩
 | exit i=>exact hq.elim
 | goto i=>exact hq.elim
 | panic ch=>exact hq.elim
 | outgrown=>exact hq.elim
theorem tri_seq {P : Program} (hm : P.follows .mixedOrders = true) {x y : Code} {Q : Exit → CSt → Prop} {c : CSt} (hok : zb0 x = true)
    (h:pwp P x c fun e c'=>match e with | .normal=>Tri P y Q c' | e=>Q e c'):Tri P (.seq x y) Q c:=by
 refine ⟨?_⟩
 intro w0 X S0 M a w hr
 refine wp_seq (wp_mono ((zb2 hm x c _ hok h).run w0 X S0 M a w hr) ?_)
 rintro e a' w' ⟨c',M',hr',hq⟩
 cases e with
 | normal=>exact Tri.run hq w0 X S0 M' a' w' hr'
 | exit i=>exact ⟨c',M',hr',hq⟩
 | goto i=>exact ⟨c',M',hr',hq⟩
 | ret=>exact ⟨c',M',hr',hq⟩
 | panic ch=>exact ⟨c',M',hr',hq⟩
 | outgrown=>exact ⟨c',M',hr',hq⟩
theorem Tri.wk' {P:Program}{code:Code}{Q:Exit→CSt→Prop}{c c':CSt} (hw:Wk c c') (h:Tri P code Q c'):Tri P code Q c:=by
 refine ⟨?_⟩
 intro w0 X S0 M a w hr
 obtain ⟨M',hr'⟩:=hw w0 X S0 M a w hr
 exact h.run w0 X S0 M' a w hr'
theorem tri_cut {P : Program} (hm : P.follows .mixedOrders = true) {x y : Code} {Q : Exit → CSt → Prop} {tm : List PV} {bx : List (Nat × List PV)} {ob : List (Nat × Option (Bool × Nat × List (List PV)))} (hok : zb0 x = true) {β : Type} (I : β → Prop) (V : β → List (Nat × PV)) (W : β → List (Nat × List PV)) (O : β → List (Nat × Option (Bool × Nat × List (List PV))))
    (h1:pwp P x ⟨tm,bx,ob⟩ fun e c'=>match e with | .normal=>∃ b rn,I b∧headK x tm (V b) fun tm'=>wkK rn [] c' tm' (W b) (O b) | e=>Q e c')
    (h2:∀ b,I b→headK x tm (V b) fun tm'=>Tri P y Q ⟨tm',W b,O b⟩):Tri P (.seq x y) Q ⟨tm,bx,ob⟩:=by
 refine ⟨?_⟩
 intro w0 X S0 M a w hr
 refine wp_seq (wp_mono ((zb2 hm x _ _ hok h1).run w0 X S0 M a w hr) ?_)
 rintro e a' w' ⟨c',M',hr',hq⟩
 cases e with
 | normal =>
  obtain ⟨b,rn,hI,hk⟩:=hq
  have h:=h2 b hI
  rw [zc6] at hk h
  exact (Tri.wk' (zc4 hk) h).run w0 X S0 M' a' w' hr'
 | exit i=>exact ⟨c',M',hr',hq⟩
 | goto i=>exact ⟨c',M',hr',hq⟩
 | ret=>exact ⟨c',M',hr',hq⟩
 | panic ch=>exact ⟨c',M',hr',hq⟩
 | outgrown=>exact ⟨c',M',hr',hq⟩
theorem tSeq {P : Program} {x y : Code} {Q : Exit → CSt → Prop} {c : CSt}
    (h:pwp P x c fun e c'=>match e with | .normal=>Tri P y Q c' | e=>Q e c') (hm:P.follows .mixedOrders=true:=by exact mixed) (hok:zb0 x=true:=by kernel_rfl):Tri P (.seq x y) Q c:=tri_seq hm hok h
theorem tCut {P : Program} {x y : Code} {Q : Exit → CSt → Prop} {tm : List PV} {bx : List (Nat × List PV)} {ob : List (Nat × Option (Bool × Nat × List (List PV)))} {β : Type} (I : β → Prop) (V : β → List (Nat × PV)) (W : β → List (Nat × List PV)) (O : β → List (Nat × Option (Bool × Nat × List (List PV))))
    (h1:pwp P x ⟨tm,bx,ob⟩ fun e c'=>match e with | .normal=>∃ b rn,I b∧headK x tm (V b) fun tm'=>wkK rn [] c' tm' (W b) (O b) | e=>Q e c')
    (h2:∀ b,I b→headK x tm (V b) fun tm'=>Tri P y Q ⟨tm',W b,O b⟩) (hm:P.follows .mixedOrders=true:=by exact mixed) (hok:zb0 x=true:=by kernel_rfl):Tri P (.seq x y) Q ⟨tm,bx,ob⟩:=tri_cut hm hok I V W O h1 h2
theorem zza {P : Program} {body : Code} {Q : Exit → CSt → Prop} {c : CSt} {β : Type} (I : β → Prop) (S : β → CSt) (μ : β → Nat) (b0 : β) (h0 : I b0) (hw : Wk c (S b0))
    (N:β→CSt→Prop) (hN:∀ b c',N b c'→∃ b',I b'∧μ b' < μ b∧Wk c' (S b')) (round:∀ b,I b→Tri P body (loopQ Q (N b)) (S b)):Tri P (.loop body) Q c:=by
 refine ⟨?_⟩
 intro w0 X S0 M a w hr
 obtain ⟨M0,hr0⟩:=hw w0 X S0 M a w hr
 intro fb k cs
 have key:∀ n b,μ b=n→I b→∀ M a w,Rel w0 X S0 M (S b).st a w→∃ e a' w',(∃ c' M',Rel w0 X S0 M' c'.st a' w'∧Q e c')∧Arrives P (lone (fb.at a (.code body :: .inLoop body :: k)) cs w) fb k cs e a' w':=by
  intro n
  induction n using Nat.strongRecOn with
  | _ n ih =>
   intro b hb hI M a w hr
   obtain ⟨e,a₁,w₁,⟨c1,M1,hr1,hq⟩,harr⟩:=(round b hI).run w0 X S0 M a w hr fb (.inLoop body :: k) cs
   cases e with
   | normal =>
    obtain ⟨b',hI',hlt,hwk⟩:=hN b c1 hq
    obtain ⟨M2,hr2⟩:=hwk w0 X S0 M1 a₁ w₁ hr1
    obtain ⟨e₂,a₂,w₂,hq₂,harr₂⟩:=ih (μ b') (hb ▸ hlt) b' rfl hI' M2 a₁ w₁ hr2
    exact ⟨e₂,a₂,w₂,hq₂,.of_steps (Steps.trans harr (.one step_inLoop)) harr₂⟩
   | exit id=>exact ⟨_,a₁,w₁,⟨c1,M1,hr1,hq⟩,.pass (x:=.inLoop body) rfl (fun _ _=>.inl (by simp)) harr⟩
   | goto l=>exact ⟨_,a₁,w₁,⟨c1,M1,hr1,hq⟩,.pass (x:=.inLoop body) rfl (fun _ _=>.inl (by simp)) harr⟩
   | ret=>exact ⟨_,a₁,w₁,⟨c1,M1,hr1,hq⟩,.pass (x:=.inLoop body) rfl (fun _ _=>.inl (by simp)) harr⟩
   | panic ch=>exact ⟨_,a₁,w₁,⟨c1,M1,hr1,hq⟩,.pass (x:=.inLoop body) rfl (fun _ _=>.inl (by simp)) harr⟩
   | outgrown=>exact ⟨_,a₁,w₁,⟨c1,M1,hr1,hq⟩,.pass (x:=.inLoop body) rfl (fun _ _=>.inl (by simp)) harr⟩
 obtain ⟨e,a',w',hq,harr⟩:=key _ b0 rfl h0 M0 a w hr0
 exact ⟨e,a',w',hq,.of_steps (.one step_loop) harr⟩
theorem zt4 {P : Program} {body : Code} {Q : Exit → CSt → Prop} {tm : List PV} {bx : List (Nat × List PV)} {ob : List (Nat × Option (Bool × Nat × List (List PV)))} {β : Type} (I : β → Prop) (V : β → List (Nat × PV)) (W : β → List (Nat × List PV)) (O : β → List (Nat × Option (Bool × Nat × List (List PV)))) (rn0 : List (Nat × Nat)) (μ : β → Nat) (b0 : β) (h0 : I b0)
    (hw:headK body tm (V b0) fun tm'=>wkK rn0 [] ⟨tm,bx,ob⟩ tm' (W b0) (O b0))
    (round:∀ b,I b→headK body tm (V b) fun tm'=>Tri P body (loopQ Q fun c'=>∃ b' rn,(I b'∧μ b' < μ b)∧headK body tm (V b') fun tm'=>wkK rn [] c' tm' (W b') (O b')) ⟨tm',W b,O b⟩):Tri P (.loop body) Q ⟨tm,bx,ob⟩:=by
 refine zza I (fun b=>⟨headT body tm (V b),W b,O b⟩) μ b0 h0 ?_ (fun b c'=>∃ b' rn,(I b'∧μ b' < μ b)∧headK body tm (V b') fun tm'=>wkK rn [] c' tm' (W b') (O b')) ?_ ?_
 ·rw [zc6] at hw
  exact zc4 hw
 ·rintro b c' ⟨b',rn,⟨h1,h2⟩,h3⟩
  rw [zc6] at h3
  exact ⟨b',h1,h2,zc4 h3⟩
 ·intro b hb
  have h:=round b hb
  rw [zc6] at h
  exact h
theorem zue {P : Program} {x y : Code} {Q : Exit → CSt → Prop} {c : CSt}
    (h:Tri P x (fun e c'=>match e with | .normal=>Tri P y Q c' | e=>Q e c') c):Tri P (.seq x y) Q c:=by
 refine ⟨?_⟩
 intro w0 X S0 M a w hr
 refine wp_seq (wp_mono (h.run w0 X S0 M a w hr) ?_)
 rintro e a' w' ⟨c',M',hr',hq⟩
 cases e with
 | normal=>exact Tri.run hq w0 X S0 M' a' w' hr'
 | exit i=>exact ⟨c',M',hr',hq⟩
 | goto i=>exact ⟨c',M',hr',hq⟩
 | ret=>exact ⟨c',M',hr',hq⟩
 | panic ch=>exact ⟨c',M',hr',hq⟩
 | outgrown=>exact ⟨c',M',hr',hq⟩
theorem zfo {P : Program} {x y : Code} {Q : Exit → CSt → Prop} {tm : List PV} {bx : List (Nat × List PV)} {ob : List (Nat × Option (Bool × Nat × List (List PV)))} {β : Type} (I : β → Prop) (V : β → List (Nat × PV)) (W : β → List (Nat × List PV)) (O : β → List (Nat × Option (Bool × Nat × List (List PV))))
    (h1:Tri P x (fun e c'=>match e with | .normal=>∃ b rn,I b∧headK x tm (V b) fun tm'=>wkK rn [] c' tm' (W b) (O b) | e=>Q e c') ⟨tm,bx,ob⟩)
    (h2:∀ b,I b→headK x tm (V b) fun tm'=>Tri P y Q ⟨tm',W b,O b⟩):Tri P (.seq x y) Q ⟨tm,bx,ob⟩:=by
 refine ⟨?_⟩
 intro w0 X S0 M a w hr
 refine wp_seq (wp_mono (h1.run w0 X S0 M a w hr) ?_)
 rintro e a' w' ⟨c',M',hr',hq⟩
 cases e with
 | normal =>
  obtain ⟨b,rn,hI,hk⟩:=hq
  have h:=h2 b hI
  rw [zc6] at hk h
  exact (Tri.wk' (zc4 hk) h).run w0 X S0 M' a' w' hr'
 | exit i=>exact ⟨c',M',hr',hq⟩
 | goto i=>exact ⟨c',M',hr',hq⟩
 | ret=>exact ⟨c',M',hr',hq⟩
 | panic ch=>exact ⟨c',M',hr',hq⟩
 | outgrown=>exact ⟨c',M',hr',hq⟩
theorem zff {P:Program}{id:Nat}{body:Code}{Q:Exit→CSt→Prop}{c:CSt} (h:Tri P body (zlh id Q) c):Tri P (.block id body) Q c:=by
 refine ⟨?_⟩
 intro w0 X S0 M a w hr
 refine wp_block (wp_mono (h.run w0 X S0 M a w hr) ?_)
 rintro e a' w' ⟨c',M',hr',hq⟩
 cases e with
 | exit i =>
  simp only [Exit.inBlock]
  by_cases hi:i=id
  ·subst hi
   rw [if_pos rfl]
   simp only [zlh,Nat.beq_refl,cond_true] at hq
   exact ⟨c',M',hr',hq⟩
  ·rw [if_neg hi]
   simp only [zlh,zbj hi,cond_false] at hq
   exact ⟨c',M',hr',hq⟩
 | normal=>exact ⟨c',M',hr',hq⟩
 | goto i=>exact ⟨c',M',hr',hq⟩
 | ret=>exact ⟨c',M',hr',hq⟩
 | panic ch=>exact ⟨c',M',hr',hq⟩
 | outgrown=>exact ⟨c',M',hr',hq⟩
theorem zei {P:Program}{x:Operand}{a b:Code}{Q:Exit→CSt→Prop}{c:CSt} (h:condK x (fun c Q=>Tri P a Q c) (fun c Q=>Tri P b Q c) c Q):Tri P (.cond x a b) Q c:=by
 refine ⟨?_⟩
 intro w0 X S0 M ac w hr
 unfold condK at h
 rw [za5] at h
 split at h
 ·rename_i t ht
  rw [zir] at h
  have hv:=hr.eval x
  have ht':aev c.st.tmps x=.sc (.bool t):=ht
  rw [ht'] at hv
  simp only [RV] at hv
  refine wp_cond (t:=t) hv ?_
  cases t
  ·exact h.run w0 X S0 M ac w hr
  ·exact h.run w0 X S0 M ac w hr
 ·rename_i φ ht
  have hv:=hr.eval x
  have ht':aev c.st.tmps x=.ub φ:=ht
  rw [ht'] at hv
  simp only [RV] at hv
  obtain ⟨t,hv,hφ⟩:=hv
  refine wp_cond (t:=t) hv ?_
  cases t
  ·exact h.2.run w0 X S0 M ac w hr
  ·exact (h.1 (hφ rfl)).run w0 X S0 M ac w hr
 ·exact h.elim
theorem z2j {tm : List PV} {bx : List (Nat × List PV)} {ob : List (Nat × Option (Bool × Nat × List (List PV)))} (k off key sz : Nat) (ls : List PV) (hb : lkA bx k = some ls) (hs : ls[off]? = some .nl) (hk : lkA ob key = none) :
    Wk ⟨tm,bx,ob⟩ ⟨tm,setA bx k (ls.set off (.ow key 0 0)),(key,some (false,sz,[])) :: ob⟩:=by
 intro w0 X S0 M a w hr
 obtain ⟨M',h1,hle,L,hL,hn⟩:=hr.toHRel.born key sz hk
 refine ⟨M',?_,hr.dfr,hr.len,fun t=>RV.mono hle _ _ (hr.tmp t)⟩
 have e:lkA ((key,some (false,sz,[])) :: ob)=upd (lkA ob) [(key,some (false,sz,[]))]:=by
  funext j
  rw [zaz]
  by_cases hk:j=key
  ·subst hk;simp [lkA]
  ·rw [if_neg hk]
   simp only [lkA]
   rw [zbj (fun e=>hk e.symm)];rfl
 show HRel w0 X S0 M' (lkA (setA bx k (ls.set off (.ow key 0 0)))) (lkA ((key,some (false,sz,[])) :: ob)) w
 rw [e]
 obtain ⟨b,T,cs,b1,b2,b3,b4⟩:=h1.box k ls hb
 refine ⟨h1.os,h1.tape,h1.out,h1.size,h1.kept,h1.stlt,h1.stok,?_,?_,h1.obj,h1.objKey,h1.boxNe,h1.objNe,h1.boxObj,h1.pinB,h1.pinO,h1.nwok,h1.c00⟩
 ·intro j ms hj
  rw [ze6] at hj
  by_cases ej:j=k
  ·subst ej
   rw [if_pos rfl] at hj
   cases hj
   refine ⟨b,T,cs,b1,b2,b3,?_⟩
   obtain ⟨c,hc,hv⟩:=b4.get off hs
   simp only [RV] at hv
   have hnew:RV M' w (.ow key 0 0) c:=by
    simp only [RV]
    exact ⟨L,hL,.inl ⟨hn,rfl,hv⟩⟩
   have key2:∀ (off:Nat) (ls:List PV) (cs:List Value),RVL M' w ls cs→cs[off]?=some c→RVL M' w (ls.set off (.ow key 0 0)) cs:=by
    intro off
    induction off with
    | zero =>
     intro ls cs h hc
     cases ls with
     | nil=>simpa using h
     | cons p ls =>
      simp only [RVL] at h
      obtain ⟨c',r,rfl,_,h2⟩:=h
      simp at hc
      subst hc
      simp only [List.set_cons_zero,RVL]
      exact ⟨_,r,rfl,hnew,h2⟩
    | succ off ih =>
     intro ls cs h hc
     cases ls with
     | nil=>simpa using h
     | cons p ls =>
      simp only [RVL] at h
      obtain ⟨c',r,rfl,h1,h2⟩:=h
      simp only [List.getElem?_cons_succ] at hc
      simp only [List.set_cons_succ,RVL]
      exact ⟨c',r,rfl,h1,ih ls r h2 hc⟩
   exact key2 off ls cs.toList b4 hc
  ·rw [if_neg ej] at hj
   exact h1.box j ms hj
 ·intro j b' hj
  rw [ze6]
  by_cases ej:j=k
  ·exact ⟨_,if_pos ej⟩
  ·rw [if_neg ej];exact h1.boxKey j b' hj
def mv1 (K k:Nat) (p:PV):PV :=
 match p with
 | .ow j lo len=>match Nat.beq j K with
  | true=>.ow k lo len
  | false=>.ow j lo len
 | p=>p
theorem mv1_ow (K k j lo len:Nat):(j=K∧Pv.mv1 K k (.ow j lo len)=.ow k lo len)∨(j ≠ K∧Pv.mv1 K k (.ow j lo len)=.ow j lo len):=by
 cases hb:Nat.beq j K with
 | true=>exact .inl ⟨Nat.eq_of_beq_eq_true hb,by unfold Pv.mv1;simp only [hb]⟩
 | false =>
  refine .inr ⟨fun e=>?_,?_⟩
  ·subst e
   rw [show Nat.beq j j=true from Nat.beq_refl j] at hb
   cases hb
  ·unfold Pv.mv1
   simp only [hb]
theorem RV.mv1 {M M':Mem}{w:World}{K k:Nat} (hle:M.Le M' w w) (h:∀ L,M.ob K=some L→M'.ob k=some L) (p:PV) (v:Value) (hv:RV M w p v):RV M' w (Pv.mv1 K k p) v:=by
 cases p with
 | ow j lo len =>
  rcases mv1_ow K k j lo len with ⟨rfl,e⟩ | ⟨_,e⟩
  ·rw [e]
   simp only [RV] at hv ⊢
   obtain ⟨L,hL,h2⟩:=hv
   exact ⟨L,h L hL,h2⟩
  ·rw [e];exact RV.mono hle _ _ hv
 | _=>exact RV.mono hle _ _ hv
theorem RVL.mv1 {M M':Mem}{w:World}{K k:Nat} (hle:M.Le M' w w) (h:∀ L,M.ob K=some L→M'.ob k=some L):∀ (ps:List PV) (cs:List Value),RVL M w ps cs→RVL M' w (ps.map (Pv.mv1 K k)) cs
 | [],cs,hv=>by simpa [RVL] using hv
 | p :: ps,cs,hv=>by
  simp only [RVL] at hv
  obtain ⟨c,r,rfl,h1,h2⟩:=hv
  simp only [List.map_cons,RVL]
  exact ⟨c,r,rfl,RV.mv1 hle h p c h1,RVL.mv1 hle h ps r h2⟩
def mvB (K k:Nat) (bx:List (Nat×List PV)):List (Nat×List PV):=bx.map fun q=>(q.1,q.2.map (Pv.mv1 K k))
theorem zsr (K k:Nat):∀ (bx:List (Nat×List PV)) (j:Nat),lkA (mvB K k bx) j=(lkA bx j).map fun ls=>ls.map (Pv.mv1 K k)
 | [],j=>rfl
 | (i,ls) :: bx,j=>by
  have ih:=zsr K k bx j
  unfold mvB at *
  simp only [List.map_cons,lkA]
  by_cases e:i=j
  ·subst e;simp
  ·rw [zbj e];exact ih
theorem wk_mv {tm : List PV} {bx : List (Nat × List PV)} {ob : List (Nat × Option (Bool × Nat × List (List PV)))} (K k : Nat) {q : Bool × Nat × List (List PV)} (hK : lkA ob K = some (some q)) (hk : lkA ob k = none) :
    Wk ⟨tm,bx,ob⟩ ⟨tm.map (Pv.mv1 K k),mvB K k bx,(k,some q) :: (K,none) :: ob⟩:=by
 intro w0 X S0 M a w hr
 have h:=hr.toHRel
 have hMk:M.ob k=none:=h.ob_none hk
 have hKk:K ≠ k:=fun e=>by
  have hK':lkA ob K=some (some q):=hK
  rw [e,hk] at hK';cases hK'
 let M':Mem:=⟨M.st,M.bx,fun j=>if j=k then M.ob K else M.ob j,M.nw⟩
 have hob:∀ j,j ≠ k→M'.ob j=M.ob j:=fun j hj=>if_neg hj
 have hobk:M'.ob k=M.ob K:=if_pos rfl
 have hle:M.Le M' w w:=⟨fun _ h=>h,fun _ _ h=>h,fun j L hj=>by
  have:j ≠ k:=fun e=>by rw [e,hMk] at hj;cases hj
  rw [hob j this];exact hj,fun _ _=>rfl,fun _ h=>h,fun _ _=>rfl⟩
 have hmv:∀ L,M.ob K=some L→M'.ob k=some L:=fun L hL=>by rw [hobk];exact hL
 have hO:∀ j o,lkA ((k,some q) :: (K,none) :: ob) j=some o→(j=k∧o=some q)∨(j=K∧o=none)∨(j ≠ k∧j ≠ K∧lkA ob j=some o):=by
  intro j o hj
  by_cases e1:j=k
  ·subst e1;simp [lkA] at hj;exact .inl ⟨rfl,hj.symm⟩
  ·by_cases e2:j=K
   ·subst e2
    simp only [lkA] at hj
    rw [zbj (fun e=>e1 e.symm)] at hj
    simp at hj
    exact .inr (.inl ⟨rfl,hj.symm⟩)
   ·simp only [lkA] at hj
    rw [zbj (fun e=>e1 e.symm),zbj (fun e=>e2 e.symm)] at hj
    exact .inr (.inr ⟨e1,e2,hj⟩)
 -- a key that is live,with what it was
 have hlive:∀ j o L,lkA ((k,some q) :: (K,none) :: ob) j=some (some o)→M'.ob j=some L→∃ j0,lkA ob j0=some (some o)∧M.ob j0=some L∧((j=k∧j0=K)∨(j ≠ k∧j ≠ K∧j0=j)):=by
  intro j o L hj hL
  rcases hO j _ hj with ⟨rfl,e⟩ | ⟨_,e⟩ | ⟨e1,e2,hj⟩
  ·cases e
   rw [hobk] at hL
   exact ⟨K,hK,hL,.inl ⟨rfl,rfl⟩⟩
  ·cases e
  ·rw [hob j e1] at hL
   exact ⟨j,hj,hL,.inr ⟨e1,e2,rfl⟩⟩
 refine ⟨M',⟨h.os,h.tape,h.out,h.size,h.kept,h.stlt,h.stok,?_,?_,?_,?_,h.boxNe,?_,?_,h.pinB,?_,h.nwok,h.c00⟩,hr.dfr,?_,?_⟩
 ·intro j ls hj
  have hj:lkA (mvB K k bx) j=some ls:=hj
  rw [zsr] at hj
  cases hl:lkA bx j with
  | none=>rw [hl] at hj;cases hj
  | some ls0 =>
   rw [hl] at hj
   cases hj
   obtain ⟨b,T,cs,g1,g2,g3,g4⟩:=h.box j ls0 hl
   exact ⟨b,T,cs,g1,g2,g3,RVL.mv1 hle hmv _ _ g4⟩
 ·intro j b hj
  obtain ⟨ls,hl⟩:=h.boxKey j b hj
  have hl:lkA bx j=some ls:=hl
  exact ⟨_,by show lkA (mvB K k bx) j=_;rw [zsr,hl];rfl⟩
 ·intro j fz sz rows hj
  rcases hO j _ hj with ⟨rfl,e⟩ | ⟨_,e⟩ | ⟨e1,e2,hj⟩
  ·simp only [Option.some.injEq] at e
   subst e
   obtain ⟨L,g1,g2,g3⟩:=h.obj K fz sz rows hK
   refine ⟨L,hmv L g1,g2,?_⟩
   rcases g3 with g3 | ⟨g3,hf,ho,c,E,h5,h6,h7,h8,h9⟩
   ·exact .inl g3
   ·exact .inr ⟨g3,hf,ho,c,E,h5,h6,h7,h8,RVR.mono hle.cl _ _ _ h9⟩
  ·cases e
  ·obtain ⟨L,g1,g2,g3⟩:=h.obj j fz sz rows hj
   refine ⟨L,by rw [hob j e1];exact g1,g2,?_⟩
   rcases g3 with g3 | ⟨g3,hf,ho,c,E,h5,h6,h7,h8,h9⟩
   ·exact .inl g3
   ·exact .inr ⟨g3,hf,ho,c,E,h5,h6,h7,h8,RVR.mono hle.cl _ _ _ h9⟩
 ·intro j L hj
  show ∃ o,lkA ((k,some q) :: (K,none) :: ob) j=some o
  by_cases e1:j=k
  ·subst e1;exact ⟨_,by simp [lkA];rfl⟩
  ·by_cases e2:j=K
   ·subst e2
    exact ⟨none,by simp only [lkA];rw [zbj (fun e=>e1 e.symm)];simp⟩
   ·rw [hob j e1] at hj
    obtain ⟨o,ho⟩:=h.objKey j L hj
    exact ⟨o,by simp only [lkA];rw [zbj (fun e=>e1 e.symm),zbj (fun e=>e2 e.symm)];exact ho⟩
 ·intro j j' o o' L L' hj hj' hL hL' hn hn' heq
  obtain ⟨i,a1,a2,a3⟩:=hlive j _ L hj hL
  obtain ⟨i',b1,b2,b3⟩:=hlive j' _ L' hj' hL'
  have:=h.objNe i i' o o' L L' a1 b1 a2 b2 hn hn' heq
  rcases a3 with ⟨a3,a4⟩ | ⟨a3,a4,a5⟩<;>rcases b3 with ⟨b3,b4⟩ | ⟨b3,b4,b5⟩
  ·rw [a3,b3]
  ·exact absurd (by rw [← b5,← this,a4]) b4
  ·exact absurd (by rw [← a5,this,b4]) a4
  ·rw [← a5,this,b5]
 ·intro j j' b o L hj hj' hL hn
  obtain ⟨i',b1,b2,_⟩:=hlive j' _ L hj' hL
  exact h.boxObj j i' b o L hj b1 b2 hn
 ·intro j L hj
  have:=h.pinO j L hj
  have hjk:j ≠ k:=fun e=>by rw [e,hMk] at this;cases this
  rw [hob j hjk];exact this
 ·have:=hr.len
  show (tm.map (Pv.mv1 K k)).length=_
  rw [List.length_map];exact this
 ·intro t
  have ht:RV M w (tm.getD t .bad) (a.tmps.getD t undef):=hr.tmp t
  show RV M' w ((tm.map (Pv.mv1 K k)).getD t .bad) _
  have:=RV.mv1 hle hmv _ _ ht
  rw [List.getD_eq_getElem?_getD,List.getElem?_map]
  rw [List.getD_eq_getElem?_getD] at this
  cases hg:tm[t]? with
  | none=>simp only [Option.map_none,Option.getD_none];rw [hg] at this;simpa [Pv.mv1] using this
  | some p=>simp only [Option.map_some,Option.getD_some];rw [hg] at this;simpa using this
theorem Wk.trans' {a b c:CSt} (h1:Wk a b) (h2:Wk b c):Wk a c:=by
 intro w0 X S0 M ac w hr
 obtain ⟨M1,hr1⟩:=h1 w0 X S0 M ac w hr
 exact h2 w0 X S0 M1 ac w hr1
theorem z1g {P : Program} {code : Code} {Q : Exit → CSt → Prop} {tm : List PV} {bx : List (Nat × List PV)} {ob : List (Nat × Option (Bool × Nat × List (List PV)))} (K k : Nat) {q : Bool × Nat × List (List PV)} (hK : lkA ob K = some (some q)) (hk : lkA ob k = none)
    (g:Tri P code Q ⟨tm.map (Pv.mv1 K k),mvB K k bx,(k,some q) :: (K,none) :: ob⟩):Tri P code Q ⟨tm,bx,ob⟩:=by
 refine ⟨?_⟩
 intro w0 X S0 M a w hr
 obtain ⟨M',hr'⟩:=wk_mv K k hK hk w0 X S0 M a w hr
 exact g.run w0 X S0 M' a w hr'
theorem z2e {c : CSt} {p r : PV} {bx' : List (Nat × List PV)} {ob' : List (Nat × Option (Bool × Nat × List (List PV)))} (K k : Nat) {q : Bool × Nat × List (List PV)} (hK : lkA c.ob K = some (some q)) (hk : lkA c.ob k = none)
    (h:ExitE ⟨c.tm,mvB K k c.bx,(k,some q) :: (K,none) :: c.ob⟩ (Pv.mv1 K k p) r bx' ob'):ExitE c p r bx' ob' :=
 ⟨Wk.trans' (wk_mv K k hK hk) h.ok⟩
theorem zdv {c : CSt} {p r : PV} {bx' : List (Nat × List PV)} {ob' : List (Nat × Option (Bool × Nat × List (List PV)))} (j off key sz : Nat) (ls : List PV) (hb : lkA c.bx j = some ls) (hs : ls[off]? = some .nl) (hk : lkA c.ob key = none)
    (h:ExitE ⟨c.tm,setA c.bx j (ls.set off (.ow key 0 0)),(key,some (false,sz,[])) :: c.ob⟩ p r bx' ob'):ExitE c p r bx' ob' :=
 ⟨Wk.trans' (z2j j off key sz ls hb hs hk) h.ok⟩
theorem wk_frz {tm : List PV} {bx : List (Nat × List PV)} {ob : List (Nat × Option (Bool × Nat × List (List PV)))} (K : Nat) {sz : Nat} {rows : List (List PV)} (hK : lkA ob K = some (some (false, sz, rows))) :
    Wk ⟨tm,bx,ob⟩ ⟨tm,bx,(K,some (true,sz,rows)) :: ob⟩:=by
 intro w0 X S0 M a w hr
 obtain ⟨M1,h1,hle,_⟩:=hr.toHRel.freezeAll [(K,false,sz,rows)] (fun q hq=>by rw [List.mem_singleton.1 hq];exact hK)
 refine ⟨M1,?_,hr.dfr,hr.len,fun t=>RV.mono hle _ _ (hr.tmp t)⟩
 have e:lkA ((K,some (true,sz,rows)) :: ob)=upd (lkA ob) (zbt [(K,false,sz,rows)]):=by
  funext j
  show _=upd (lkA ob) [(K,some (true,sz,rows))] j
  rw [zaz]
  by_cases hk:j=K
  ·subst hk;simp [lkA]
  ·rw [if_neg hk]
   simp only [lkA]
   rw [zbj (fun e=>hk e.symm)];rfl
 show HRel w0 X S0 M1 (lkA bx) (lkA ((K,some (true,sz,rows)) :: ob)) w
 rw [e]
 exact h1
theorem zx4 {P : Program} {code : Code} {Q : Exit → CSt → Prop} {tm : List PV} {bx : List (Nat × List PV)} {ob : List (Nat × Option (Bool × Nat × List (List PV)))} (K : Nat) {sz : Nat} {rows : List (List PV)} (hK : lkA ob K = some (some (false, sz, rows)))
    (g:Tri P code Q ⟨tm,bx,(K,some (true,sz,rows)) :: ob⟩):Tri P code Q ⟨tm,bx,ob⟩:=by
 refine ⟨?_⟩
 intro w0 X S0 M a w hr
 obtain ⟨M',hr'⟩:=wk_frz K hK w0 X S0 M a w hr
 exact g.run w0 X S0 M' a w hr'
theorem z0y {c : CSt} {p r : PV} {bx' : List (Nat × List PV)} {ob' : List (Nat × Option (Bool × Nat × List (List PV)))} (K : Nat) {sz : Nat} {rows : List (List PV)} (hK : lkA c.ob K = some (some (false, sz, rows)))
    (h:ExitE ⟨c.tm,c.bx,(K,some (true,sz,rows)) :: c.ob⟩ p r bx' ob'):ExitE c p r bx' ob' :=
 ⟨Wk.trans' (wk_frz K hK) h.ok⟩
theorem zts {tm : List PV} {bx : List (Nat × List PV)} {ob : List (Nat × Option (Bool × Nat × List (List PV)))} (k off K n : Nat) {sz : Nat} {rows : List (List PV)} (ls : List PV) (hb : lkA bx k = some ls) (hs : ls[off]? = some (.ow K 0 n)) (hn : n = rows.length) (hK : lkA ob K = some (some (true, sz, rows))) :
    Wk ⟨tm,bx,ob⟩ ⟨tm,setA bx k (ls.set off (.sl sz rows)),ob⟩:=by
 intro w0 X S0 M a w hr
 have h1:=hr.toHRel
 refine ⟨M,?_,hr.dfr,hr.len,hr.tmp⟩
 show HRel w0 X S0 M (lkA (setA bx k (ls.set off (.sl sz rows)))) (lkA ob) w
 obtain ⟨b,T,cs,b1,b2,b3,b4⟩:=h1.box k ls hb
 refine ⟨h1.os,h1.tape,h1.out,h1.size,h1.kept,h1.stlt,h1.stok,?_,?_,h1.obj,h1.objKey,h1.boxNe,h1.objNe,h1.boxObj,h1.pinB,h1.pinO,h1.nwok,h1.c00⟩
 ·intro j ms hj
  rw [ze6] at hj
  by_cases ej:j=k
  ·subst ej
   rw [if_pos rfl] at hj
   cases hj
   refine ⟨b,T,cs,b1,b2,b3,?_⟩
   obtain ⟨c,hc,hv⟩:=b4.get off hs
   have hnew:RV M w (.sl sz rows) c:=by
    have hq:ResE [] [] [(K,true,sz,rows)] (.ow K 0 n) (.sl sz ((rows.drop 0).take n)):=by
     simp only [ResE]
     exact .inr ⟨true,sz,rows,List.Mem.head _,by omega,rfl⟩
    have:=ResE.sound h1 (fun q hq=>by rw [List.mem_singleton.1 hq];exact hK) _ _ c hq hv
    rw [List.drop_zero,hn,List.take_length] at this
    simp only [RV,ztl] at this ⊢
    exact this
   have key2:∀ (off:Nat) (ls:List PV) (cs:List Value),RVL M w ls cs→cs[off]?=some c→RVL M w (ls.set off (.sl sz rows)) cs:=by
    intro off
    induction off with
    | zero =>
     intro ls cs h hc
     cases ls with
     | nil=>simpa using h
     | cons p ls =>
      simp only [RVL] at h
      obtain ⟨c',r,rfl,_,h2⟩:=h
      simp at hc
      subst hc
      simp only [List.set_cons_zero,RVL]
      exact ⟨_,r,rfl,hnew,h2⟩
    | succ off ih =>
     intro ls cs h hc
     cases ls with
     | nil=>simpa using h
     | cons p ls =>
      simp only [RVL] at h
      obtain ⟨c',r,rfl,h1,h2⟩:=h
      simp only [List.getElem?_cons_succ] at hc
      simp only [List.set_cons_succ,RVL]
      exact ⟨c',r,rfl,h1,ih ls r h2 hc⟩
   exact key2 off ls cs.toList b4 hc
  ·rw [if_neg ej] at hj
   exact h1.box j ms hj
 ·intro j b' hj
  rw [ze6]
  by_cases ej:j=k
  ·exact ⟨_,if_pos ej⟩
  ·rw [if_neg ej];exact h1.boxKey j b' hj
theorem zpl {P : Program} {code : Code} {Q : Exit → CSt → Prop} {tm : List PV} {bx : List (Nat × List PV)} {ob : List (Nat × Option (Bool × Nat × List (List PV)))} (k off K n : Nat) {sz : Nat} {rows : List (List PV)} (ls : List PV) (hb : lkA bx k = some ls) (hs : ls[off]? = some (.ow K 0 n)) (hn : n = rows.length) (hK : lkA ob K = some (some (true, sz, rows)))
    (g:Tri P code Q ⟨tm,setA bx k (ls.set off (.sl sz rows)),ob⟩):Tri P code Q ⟨tm,bx,ob⟩:=by
 refine ⟨?_⟩
 intro w0 X S0 M a w hr
 obtain ⟨M',hr'⟩:=zts k off K n ls hb hs hn hK w0 X S0 M a w hr
 exact g.run w0 X S0 M' a w hr'
theorem zrb {c : CSt} {p r : PV} {bx' : List (Nat × List PV)} {ob' : List (Nat × Option (Bool × Nat × List (List PV)))} (k off K n : Nat) {sz : Nat} {rows : List (List PV)} (ls : List PV) (hb : lkA c.bx k = some ls) (hs : ls[off]? = some (.ow K 0 n)) (hn : n = rows.length) (hK : lkA c.ob K = some (some (true, sz, rows)))
    (h:ExitE ⟨c.tm,setA c.bx k (ls.set off (.sl sz rows)),c.ob⟩ p r bx' ob'):ExitE c p r bx' ob' :=
 ⟨Wk.trans' (zts k off K n ls hb hs hn hK) h.ok⟩
theorem zzt {c : CSt} {p r : PV} {bx' : List (Nat × List PV)} {ob' : List (Nat × Option (Bool × Nat × List (List PV)))} (k off K n : Nat) {sz : Nat} {rows : List (List PV)} (ls : List PV) (hb : lkA c.bx k = some ls) (hs : ls[off]? = some (.ow K 0 n)) (hn : n = rows.length) (hK : lkA c.ob K = some (some (false, sz, rows)))
    (h:ExitE ⟨c.tm,setA c.bx k (ls.set off (.sl sz rows)),(K,some (true,sz,rows)) :: c.ob⟩ p r bx' ob'):ExitE c p r bx' ob' :=
 z0y K hK (zrb k off K n ls hb hs hn (by simp [lkA]) h)
theorem z2h {P:Program}{f:Nat}{ps qs:List PV}{r:PV}{b bx bx':List (Nat×List PV)}{o ob ob':List (Nat×Option (Bool×Nat×List (List PV)))}{K:PV→List (Nat×List PV)→List (Nat×Option (Bool×Nat×List (List PV)))→Prop} (h:CtrE P f qs bx ob r bx' ob') (e1:ps=qs) (e2:b=bx) (e3:o=ob) (k:K r bx' ob'):∃ r bx' ob',CtrE P f ps b o r bx' ob'∧K r bx' ob':=by
 subst e1 e2 e3
 exact ⟨r,bx',ob',h,k⟩
theorem zdw {P : Program} {f : Nat} {ps qs : List PV} {r r2 : PV} {b bx bx' wb : List (Nat × List PV)} {o ob ob' : List (Nat × Option (Bool × Nat × List (List PV)))} {kc ko : List (Nat × Nat)} {kc2 : List (Nat × Nat)}
    {NM:List (Nat×Option (Bool×Nat×List (List PV)))→Bool}{K:List (Nat×Option (Bool×Nat×List (List PV)))→PV→List (Nat×List PV)→Prop}
    (h:CtrE P f qs bx ob r bx' ob') (e1:ps=qs) (e2:b=bx) (e3:o=ob) (er:shE kc ko r=r2) (eb:tkA (shEL kc ko) bx' kc2=wb) (k:okK (NM ob') (K ob' r2 wb)) :
    ∃ r bx' ob',CtrE P f ps b o r bx' ob'∧okK (NM ob') (shEK kc ko r fun r'=>tkBK kc ko bx' kc2 fun wb=>K ob' r' wb):=by
 subst e1 e2 e3
 refine ⟨r,bx',ob',h,?_⟩
 rw [zq6,er,zsf,eb]
 exact k
theorem cFast {P : Program} {f : Nat} {ps qs : List PV} {r r2 : PV} {b bx bx' wb : List (Nat × List PV)} {o ob ob' : List (Nat × Option (Bool × Nat × List (List PV)))} {kc ko : List (Nat × Nat)} {kc2 : List (Nat × Nat)}
    {NM:List (Nat×Option (Bool×Nat×List (List PV)))→Bool}{K:List (Nat×Option (Bool×Nat×List (List PV)))→PV→List (Nat×List PV)→Prop}
    (h:CtrE P f qs bx ob r bx' ob') (k:okK (NM ob') (K ob' r2 wb)) (e1:ps=qs:=by kernel_rfl) (e2:b=bx:=by kernel_rfl) (e3:o=ob:=by kernel_rfl) (er:shE kc ko r=r2:=by kernel_rfl) (eb:tkA (shEL kc ko) bx' kc2=wb:=by kernel_rfl) :
    ∃ r bx' ob',CtrE P f ps b o r bx' ob'∧okK (NM ob') (shEK kc ko r fun r'=>tkBK kc ko bx' kc2 fun wb=>K ob' r' wb):=zdw h e1 e2 e3 er eb k
mutual
def SubV:PV→PV→Prop
 | .nl,q=>q=.nl∨∃ sz,q=.sl sz []
 | .ag ps,q=>∃ qs,q=.ag qs∧SubVL ps qs
 | .tu ps,q=>∃ qs,q=.tu qs∧SubVL ps qs
 | .cl f ps,q=>∃ qs,q=.cl f qs∧SubVL ps qs
 | .cm f ps,q=>∃ qs,q=.cm f qs∧SubVL ps qs
 | .sl sz rows,q=>∃ rows',q=.sl sz rows'∧SubVR rows rows'
 | .ep ps,q=>∃ qs,q=.ep qs∧SubVL ps qs
 | .sc v,q=>q=.sc v
 | .pt k off,q=>q=.pt k off
 | .bs k off len,q=>q=.bs k off len
 | .ow k lo len,q=>q=.ow k lo len
 | .eo k i off,q=>q=.eo k i off
 | .ub φ,q=>q=.ub φ
 | .nn kd,q=>q=.nn kd
 | .ls sz rows,q=>q=.ls sz rows
 | .lp s,q=>q=.lp s
 | .fs sz rows,q=>q=.fs sz rows
 | .bad,q=>q=.bad
def SubVL:List PV→List PV→Prop
 | [],qs=>qs=[]
 | p :: ps,qs=>∃ q r,qs=q :: r∧SubV p q∧SubVL ps r
def SubVR:List (List PV)→List (List PV)→Prop
 | [],qs=>qs=[]
 | p :: ps,qs=>∃ q r,qs=q :: r∧SubVL p q∧SubVR ps r
end
theorem SubVL.len:∀ {ps qs:List PV},SubVL ps qs→qs.length=ps.length
 | [],qs,h=>by simp only [SubVL] at h;simp [h]
 | p :: ps,qs,h=>by
  simp only [SubVL] at h
  obtain ⟨q,r,rfl,_,h2⟩:=h
  simp [SubVL.len h2]
theorem SubVR.len:∀ {ps qs:List (List PV)},SubVR ps qs→qs.length=ps.length
 | [],qs,h=>by simp only [SubVR] at h;simp [h]
 | p :: ps,qs,h=>by
  simp only [SubVR] at h
  obtain ⟨q,r,rfl,_,h2⟩:=h
  simp [SubVR.len h2]
mutual
theorem SubV.sound {M:Mem}{w:World}:∀ (p q:PV) (v:Value),SubV p q→RV M w p v→RV M w q v
 | .nl,q,v,h,hv=>by
  simp only [SubV] at h
  rcases h with rfl | ⟨sz,rfl⟩
  ·exact hv
  ·exact sub_nl hv
 | .ag ps,q,v,h,hv=>by
  simp only [SubV] at h
  obtain ⟨qs,rfl,h⟩:=h
  simp only [RV] at hv ⊢
  obtain ⟨cs,e,r⟩:=hv
  exact ⟨cs,e,SubVL.sound ps qs _ h r⟩
 | .tu ps,q,v,h,hv=>by
  simp only [SubV] at h
  obtain ⟨qs,rfl,h⟩:=h
  simp only [RV] at hv ⊢
  obtain ⟨cs,e,r⟩:=hv
  exact ⟨cs,e,SubVL.sound ps qs _ h r⟩
 | .cl f ps,q,v,h,hv=>by
  simp only [SubV] at h
  obtain ⟨qs,rfl,h⟩:=h
  simp only [RV] at hv ⊢
  obtain ⟨cs,e,r⟩:=hv
  exact ⟨cs,e,SubVL.sound ps qs _ h r⟩
 | .cm f ps,q,v,h,hv=>by
  simp only [SubV] at h
  obtain ⟨qs,rfl,h⟩:=h
  simp only [RV] at hv ⊢
  obtain ⟨cs,e,r⟩:=hv
  exact ⟨cs,e,SubVL.sound ps qs _ h r⟩
 | .sl sz rows,q,v,h,hv=>by
  simp only [SubV] at h
  obtain ⟨rows',rfl,h⟩:=h
  simp only [RV] at hv ⊢
  obtain ⟨a,n,c,e,hn,hc,r⟩:=hv
  refine ⟨a,n,c,e,by rw [h.len];exact hn,hc,?_⟩
  rcases r with rfl | ⟨b,off,cs,ha,hs,hcl,hR⟩
  ·left;simpa [SubVR] using h
  ·exact .inr ⟨b,off,cs,ha,hs,hcl,SubVR.sound sz rows rows' cs h hR⟩
 | .ep ps,q,v,h,hv=>by
  simp only [SubV] at h
  obtain ⟨qs,rfl,h⟩:=h
  simp only [RV] at hv ⊢
  obtain ⟨b,off,cs,e,hs,hcl,hr⟩:=hv
  exact ⟨b,off,cs,e,hs,hcl,SubVL.sound ps qs cs h hr⟩
 | .sc x,q,v,h,hv=>by simp only [SubV] at h;subst h;exact hv
 | .pt ..,q,v,h,hv=>by simp only [SubV] at h;subst h;exact hv
 | .bs ..,q,v,h,hv=>by simp only [SubV] at h;subst h;exact hv
 | .ow ..,q,v,h,hv=>by simp only [SubV] at h;subst h;exact hv
 | .eo ..,q,v,h,hv=>by simp only [SubV] at h;subst h;exact hv
 | .ub ..,q,v,h,hv=>by simp only [SubV] at h;subst h;exact hv
 | .nn ..,q,v,h,hv=>by simp only [SubV] at h;subst h;exact hv
 | .ls ..,q,v,h,hv=>by simp only [SubV] at h;subst h;exact hv
 | .lp ..,q,v,h,hv=>by simp only [SubV] at h;subst h;exact hv
 | .fs ..,q,v,h,hv=>by simp only [SubV] at h;subst h;exact hv
 | .bad,q,v,h,hv=>by simp only [SubV] at h;subst h;exact hv
theorem SubVL.sound {M:Mem}{w:World}:∀ (ps qs:List PV) (cs:List Value),SubVL ps qs→RVL M w ps cs→RVL M w qs cs
 | [],qs,cs,h,hv=>by simp only [SubVL] at h;subst h;exact hv
 | p :: ps,qs,cs,h,hv=>by
  simp only [SubVL] at h
  obtain ⟨q,r,rfl,h1,h2⟩:=h
  simp only [RVL] at hv ⊢
  obtain ⟨c,rr,e,h3,h4⟩:=hv
  exact ⟨c,rr,e,SubV.sound p q c h1 h3,SubVL.sound ps r rr h2 h4⟩
theorem SubVR.sound {M:Mem}{w:World} (sz:Nat):∀ (ps qs:List (List PV)) (cs:List Value),SubVR ps qs→RVR M w sz ps cs→RVR M w sz qs cs
 | [],qs,cs,h,hv=>by simp only [SubVR] at h;subst h;exact hv
 | p :: ps,qs,cs,h,hv=>by
  simp only [SubVR] at h
  obtain ⟨q,r,rfl,h1,h2⟩:=h
  simp only [RVR] at hv ⊢
  obtain ⟨c1,c2,e,hl,h3,h4⟩:=hv
  exact ⟨c1,c2,e,h1.len.trans hl,SubVL.sound p q c1 h1 h3,SubVR.sound sz ps r c2 h2 h4⟩
end
theorem Ctr.deep {P:Program}{f:Nat}{ps qs:List PV}{r:PV}{os:List (Nat×List (List PV))} (h:Ctr P f qs r os) (hs:SubVL ps qs):Ctr P f ps r os :=
 ⟨fun w st vs hst hv=>h.run w st vs hst (SubVL.sound ps qs vs hs hv)⟩
theorem zfh {P:Program}{f:Nat}{ps qs:List PV}{r:PV}{os:List (Nat×List (List PV))}{K:PV→List (Nat×List (List PV))→Prop} (h:Ctr P f qs r os) (hs:SubVL ps qs) (k:K r os):∃ r os,Ctr P f ps r os∧K r os:=⟨r,os,h.deep hs,k⟩
mutual
theorem SubV.refl:∀ p:PV,SubV p p
 | .nl=>by simp [SubV]
 | .ag ps=>by simp only [SubV];exact ⟨ps,rfl,SubVL.refl ps⟩
 | .tu ps=>by simp only [SubV];exact ⟨ps,rfl,SubVL.refl ps⟩
 | .cl f ps=>by simp only [SubV];exact ⟨ps,rfl,SubVL.refl ps⟩
 | .cm f ps=>by simp only [SubV];exact ⟨ps,rfl,SubVL.refl ps⟩
 | .sl sz rows=>by simp only [SubV];exact ⟨rows,rfl,SubVR.refl rows⟩
 | .ep ps=>by simp only [SubV];exact ⟨ps,rfl,SubVL.refl ps⟩
 | .sc x=>by simp [SubV]
 | .pt ..=>by simp [SubV]
 | .bs ..=>by simp [SubV]
 | .ow ..=>by simp [SubV]
 | .eo ..=>by simp [SubV]
 | .ub ..=>by simp [SubV]
 | .nn ..=>by simp [SubV]
 | .ls ..=>by simp [SubV]
 | .lp ..=>by simp [SubV]
 | .fs ..=>by simp [SubV]
 | .bad=>by simp [SubV]
theorem SubVL.refl:∀ ps:List PV,SubVL ps ps
 | []=>by simp [SubVL]
 | p :: ps=>by simp only [SubVL];exact ⟨p,ps,rfl,SubV.refl p,SubVL.refl ps⟩
theorem SubVR.refl:∀ ps:List (List PV),SubVR ps ps
 | []=>by simp [SubVR]
 | p :: ps=>by simp only [SubVR];exact ⟨p,ps,rfl,SubVL.refl p,SubVR.refl ps⟩
end
theorem zcl {sz:Nat}:SubV .nl (.sl sz []):=by simp only [SubV];exact .inr ⟨sz,rfl⟩
theorem zdf {sz:Nat}{rows rows':List (List PV)} (h:SubVR rows rows'):SubV (.sl sz rows) (.sl sz rows'):=by simp only [SubV];exact ⟨rows',rfl,h⟩
theorem zdk {sz n:Nat}{r:List (List PV)} (h:r.length=n):SubV (.sl sz ((r.drop 0).take n)) (.sl sz r):=by subst h;rw [List.drop_zero,List.take_length];exact SubV.refl _
theorem zdd {ps qs:List PV} (h:SubVL ps qs):SubV (.ag ps) (.ag qs):=by simp only [SubV];exact ⟨qs,rfl,h⟩
theorem zde {ps qs:List PV} (h:SubVL ps qs):SubV (.ep ps) (.ep qs):=by simp only [SubV];exact ⟨qs,rfl,h⟩
theorem zbo {p q:PV}{ps qs:List PV} (h1:SubV p q) (h2:SubVL ps qs):SubVL (p :: ps) (q :: qs):=by simp only [SubVL];exact ⟨q,qs,rfl,h1,h2⟩
theorem zb1:SubVL [] []:=by simp [SubVL]
theorem zbn {p q:List PV}{ps qs:List (List PV)} (h1:SubVL p q) (h2:SubVR ps qs):SubVR (p :: ps) (q :: qs):=by simp only [SubVR];exact ⟨q,qs,rfl,h1,h2⟩
theorem zb5:SubVR [] []:=by simp [SubVR]
end Go.Pv
namespace Go.Proofs
open Go.Pv
set_option maxRecDepth 100000
theorem z3u {α:Type}{f:α→List PV}{l:List α}{n:Nat}{x:List PV} (hn:n=(l.map f).length) (y:α) (hx:x=f y):(l.map f).take n++[x]=(l++[y]).map f:=by
 subst hn;subst hx;simp [List.take_of_length_le]
theorem zbi {b:Bool}{sz sz':Nat}{r r':List (List PV)} (h:sz=sz') (h2:r=r'):(b,sz,r)=(b,sz',r'):=by subst h;subst h2;rfl
end Go.Proofs
namespace Go.Pv
structure Wp (q:Prop):Prop where
 out:q
theorem tC {α p q:Prop} (k:α) (h:q) (f:α→Wp q→p:=by intro k h;(conv=>whnf);(try (refine Exists.intro none ?_;conv=>whnf));(with_reducible refine zhm k ?_);(conv=>whnf);exact h.out):p:=f k ⟨h⟩
theorem tCE {α p q:Prop} (k:α) (h:q) (f:α→Wp q→p:=by intro k h;(conv=>whnf);(try (refine Exists.intro none ?_;conv=>whnf));refine znq k (by simp only [List.drop_zero,List.take_length]) ?_;(conv=>whnf);exact h.out):p:=f k ⟨h⟩
theorem tCR {α p q:Prop} (k:α) (h:q) (f:α→Wp q→p:=by intro k h;(conv=>whnf);(try (refine Exists.intro none ?_;conv=>whnf));refine znq k (by kernel_rfl) ?_;(conv=>whnf);exact h.out):p:=f k ⟨h⟩
theorem tCD {α p q:Prop} (k:α) (h:q) (f:α→Wp q→p:=by intro k h;(conv=>whnf);(try (refine Exists.intro none ?_;conv=>whnf));refine zfh k (by (repeat' (first | exact zb1 | exact zb5 | refine zbo ?_ ?_ | refine zbn ?_ ?_ | exact SubV.refl _ | exact zcl | (with_reducible exact zdk rfl) | refine zdd ?_ | refine zdf ?_ | refine zde ?_))) ?_;(conv=>whnf);exact h.out):p:=f k ⟨h⟩
theorem tE {β:Type}{α q:Prop}{F:Option β→Prop} (m:β) (k:α) (h:q) (f:α→Wp q→F (some m):=by intro k h;(conv=>whnf);(with_reducible refine zuj k ?_);(conv=>whnf);exact h.out):∃ m,F m:=⟨some m,f k ⟨h⟩⟩
theorem tER {β:Type}{α q:Prop}{F:Option β→Prop} (m:β) (k:α) (h:q) (f:α→Wp q→F (some m):=by intro k h;(conv=>whnf);refine z2h k (by kernel_rfl) (by kernel_rfl) (by kernel_rfl) ?_;(conv=>whnf);exact h.out):∃ m,F m:=⟨some m,f k ⟨h⟩⟩
theorem tE0 {β:Type}{α q:Prop}{F:Option β→Prop} (m:β) (k:α) (h:q) (f:α→Wp q→F (some m):=by intro k h;(conv=>whnf);(with_reducible refine zuj k ?_);(conv=>whnf);refine And.intro (And.intro rfl rfl) ?_;(conv=>whnf);exact h.out):∃ m,F m:=⟨some m,f k ⟨h⟩⟩
theorem tB0 {α p q:Prop} (k:α) (h:q) (f:α→Wp q→p:=by intro k h;(conv=>whnf);refine Exists.intro (some ([],[],[(999998,0)])) ?_;(conv=>whnf);(repeat (refine tOwn0 ?_;(conv=>whnf)));refine znq k (by first | rfl | simp only [List.drop_zero,List.take_length]) ?_;(conv=>whnf);refine And.intro (by intro q hq;cases hq) ?_;(conv=>whnf);refine Exists.intro _ (And.intro rfl (And.intro (by intro i hi;exact absurd hi (Nat.not_lt_zero i)) ?_));(conv=>whnf);exact h.out):p:=f k ⟨h⟩
theorem tB1 {α β p q:Prop} (k:α) (s:β) (h:q) (f:α→β→Wp q→p:=by intro k s h;refine Exists.intro (some ([],[],[(999998,0)])) ?_;(conv=>whnf);(repeat (refine tOwn0 ?_;(conv=>whnf)));refine znq k (by first | rfl | simp only [List.drop_zero,List.take_length]) ?_;(conv=>whnf);refine And.intro (by intro q hq;rw [List.mem_singleton.1 hq];exact s) ?_;(conv=>whnf);refine Exists.intro _ (And.intro rfl (And.intro (by intro i hi;simp only [List.length_cons,List.length_nil,Nat.lt_one_iff,Nat.zero_add] at hi;subst hi;rfl) ?_));(conv=>whnf);exact h.out):p:=f k s ⟨h⟩
theorem tN0 {p q:Prop} (h:q) (f:Wp q→p:=by intro h;(conv=>whnf);refine tNew0 ?_;(conv=>whnf);exact h.out):p:=f ⟨h⟩
theorem tN1 {p q:Prop} (h:q) (f:Wp q→p:=by intro h;(refine Exists.intro _ (And.intro rfl (And.intro (by intro q hq;first | (cases hq;done) | (simp only [List.mem_cons,List.not_mem_nil,or_false] at hq;rcases hq with rfl | rfl<;>(simp only [List.length_cons,List.length_nil];omega)) | (simp only [List.mem_cons,List.not_mem_nil,or_false] at hq;subst hq;simp only [List.length_cons,List.length_nil];omega)) (And.intro (by intro i hi;simp only [List.length_cons,List.length_nil,Nat.lt_one_iff,Nat.zero_add] at hi;subst hi;rfl) ?_)));conv=>whnf);exact h.out):p:=f ⟨h⟩
theorem tN2 {p q:Prop} (h:q) (f:Wp q→p:=by intro h;(refine Exists.intro _ (And.intro rfl (And.intro (by intro q hq;first | (cases hq;done) | (simp only [List.mem_cons,List.not_mem_nil,or_false] at hq;rcases hq with rfl | rfl<;>(simp only [List.length_cons,List.length_nil];omega)) | (simp only [List.mem_cons,List.not_mem_nil,or_false] at hq;subst hq;simp only [List.length_cons,List.length_nil];omega)) (And.intro (by intro i hi;rcases i with _ | _ | i;rfl;rfl;exact absurd hi (by simp)) ?_)));conv=>whnf);exact h.out):p:=f ⟨h⟩
theorem tN3 {p q:Prop} (h:q) (f:Wp q→p:=by intro h;(refine Exists.intro _ (And.intro rfl (And.intro (by intro q hq;first | (cases hq;done) | (simp only [List.mem_cons,List.not_mem_nil,or_false] at hq;rcases hq with rfl | rfl<;>(simp only [List.length_cons,List.length_nil];omega)) | (simp only [List.mem_cons,List.not_mem_nil,or_false] at hq;subst hq;simp only [List.length_cons,List.length_nil];omega)) (And.intro (by intro i hi;rcases i with _ | _ | _ | i;rfl;rfl;rfl;exact absurd hi (by simp)) ?_)));conv=>whnf);exact h.out):p:=f ⟨h⟩
theorem tA1 {p q:Prop} (h:q) (f:Wp q→p:=by intro h;(refine And.intro rfl ?_;(conv=>whnf);refine And.intro (And.intro (And.intro (by kernel_rfl) (And.intro (by simp) (And.intro (small (by simp only [List.length_cons,List.length_nil];omega) (by kernel_rfl)) (And.intro (zad (by simp only [List.length_cons,List.length_nil];omega)) (by intro r hr;rw [List.mem_singleton.1 hr];rfl))))) (And.intro (by decide) rfl)) ?_;conv=>whnf);exact h.out):p:=f ⟨h⟩
theorem tAB {a b p q:Prop} (k:a) (l:b) (h:q) (f:a→b→Wp q→p:=by intro k l h;(refine And.intro rfl ?_;(conv=>whnf);refine And.intro (And.intro (And.intro (by kernel_rfl) (And.intro (Nat.le_refl _) (And.intro (k) (And.intro (l) (by intro r hr;rw [List.mem_singleton.1 hr];rfl))))) (And.intro (by decide) rfl)) ?_;conv=>whnf);exact h.out):p:=f k l ⟨h⟩
theorem tO {p q:Prop} (h:q) (f:Wp q→p:=by intro h;(conv=>whnf);(try (refine Exists.intro none ?_;conv=>whnf));refine tOwn0 ?_;(conv=>whnf);exact h.out):p:=f ⟨h⟩
theorem tAt {A q:Prop}{β:Type}{v:β}{E K:β→Prop} (e:E v) (h:q) (a:A:=by omega) (f:Wp q→K v:=by intro h;(conv=>whnf);exact h.out):A∧∃ v,E v∧K v:=⟨a,v,e,f ⟨h⟩⟩
theorem tK2 {p q:Prop} (h:q) (f:Wp q→p:=by intro h;((with_reducible refine And.intro (And.intro (by first | decide | omega) (by first | decide | omega)) ?_);conv=>whnf);exact h.out):p:=f ⟨h⟩
theorem tR {p q:Prop} (h:q) (f:Wp q→p:=by intro h;((with_reducible refine And.intro (by with_unfolding_all decide) ?_);refine Exists.intro _ (And.intro (by with_unfolding_all rfl) ?_);conv=>whnf);exact h.out):p:=f ⟨h⟩
theorem tSame {p q:Prop} (h:q) (f:Wp q→p:=by intro h;((first | (with_reducible refine z2o rfl ?_) | (with_reducible refine z3x rfl ?_) | (with_reducible refine zns (beq_self_eq_true _) ?_) | (with_reducible refine znw (bne_self_eq_false _) ?_));conv=>whnf);exact h.out):p:=f ⟨h⟩
theorem tS {p c d q r:Prop} (k:c→q) (l:d→r) (f:Wp (c→q)→Wp (d→r)→p:=by intro k l;(conv=>whnf);refine tSp (fun h=>?_) (fun h=>?_)<;>(conv=>whnf);exact k.out h;exact l.out h):p:=f ⟨k⟩ ⟨l⟩
theorem tK {p q:Prop} (h:q) (f:Wp q→p:=by intro h;(conv=>whnf);(first | refine tYes ?_ | refine tNo ?_);(conv=>whnf);exact h.out):p:=f ⟨h⟩
theorem tKA {p q:Prop} (h:q) (f:Wp q→p:=by intro h;(conv=>whnf);(first | refine tYesA ?_ | refine tNoA ?_);(conv=>whnf);exact h.out):p:=f ⟨h⟩
theorem tV {c : CSt} {p r : PV} {bx' : List (Nat × List PV)} {ob' : List (Nat × Option (Bool × Nat × List (List PV)))} {n sz : Nat} {rows : List (List PV)} {ls : List PV} (off K : Nat) (h : ExitE ⟨c.tm, setA c.bx 9990 (ls.set off (.sl sz rows)), (K, some (true, sz, rows)) :: c.ob⟩ p r bx' ob')
    (hb:lkA c.bx 9990=some ls:=by exact rfl) (hs:ls[off]?=some (.ow K 0 n):=by exact rfl) (hK:lkA c.ob K=some (some (false,sz,rows)):=by exact rfl) (hn:n=rows.length:=by exact rfl):ExitE c p r bx' ob':=zzt 9990 off K n ls hb hs hn hK h
inductive Dd:Prop→Prop where
 | any (p:Prop):Dd p
theorem ddT:Dd True:=.any _
theorem tWK {p p1 p2 p3 p4 p5 p6 p7 p8 p9 p10 p11 p12 p13 p14 p15 p16 p17 p18 p19 p20 p21 p22 p23 p24 : Prop} (h : p1 ∧ p2 ∧ p3 ∧ p4 ∧ p5 ∧ p6 ∧ p7 ∧ p8 ∧ p9 ∧ p10 ∧ p11 ∧ p12 ∧ p13 ∧ p14 ∧ p15 ∧ p16 ∧ p17 ∧ p18 ∧ p19 ∧ p20 ∧ p21 ∧ p22 ∧ p23 ∧ p24) (f : Wp p1 → Wp p2 → Wp p3 → Wp p4 → Wp p5 → Wp p6 → Wp p7 → Wp p8 → Wp p9 → Wp p10 → Wp p11 → Wp p12 → Wp p13 → Wp p14 → Wp p15 → Wp p16 → Wp p17 → Wp p18 → Wp p19 → Wp p20 → Wp p21 → Wp p22 → Wp p23 → Wp p24 → p := by intro h1 h2 h3 h4 h5 h6 h7 h8 h9 h10 h11 h12 h13 h14 h15 h16 h17 h18 h19 h20 h21 h22 h23 h24; (conv => whnf); (refine wkx ?_; refine ⟨?_, ?_, ?_⟩ <;> (conv => whnf) <;> repeat' first | exact wkc | (with_reducible refine And.intro ?_ ?_) <;> first | exact wks | refine wko ?_ | refine wki ?_ | refine wkb ?_ | (refine znh ?_; conv => whnf) | (refine zat ?_; conv => whnf) | (refine zao ?_; conv => whnf) | conv => whnf); all_goals with_reducible first | exact h1.out | exact h2.out | exact h3.out | exact h4.out | exact h5.out | exact h6.out | exact h7.out | exact h8.out | exact h9.out | exact h10.out | exact h11.out | exact h12.out | exact h13.out | exact h14.out | exact h15.out | exact h16.out | exact h17.out | exact h18.out | exact h19.out | exact h20.out | exact h21.out | exact h22.out | exact h23.out | exact h24.out)
    (z:Dd p1∧Dd p2∧Dd p3∧Dd p4∧Dd p5∧Dd p6∧Dd p7∧Dd p8∧Dd p9∧Dd p10∧Dd p11∧Dd p12∧Dd p13∧Dd p14∧Dd p15∧Dd p16∧Dd p17∧Dd p18∧Dd p19∧Dd p20∧Dd p21∧Dd p22∧Dd p23∧Dd p24:=by refine ⟨?_,?_,?_,?_,?_,?_,?_,?_,?_,?_,?_,?_,?_,?_,?_,?_,?_,?_,?_,?_,?_,?_,?_,?_⟩<;>with_reducible first | exact ddT | exact .any _):p:=f ⟨h.1⟩ ⟨h.2.1⟩ ⟨h.2.2.1⟩ ⟨h.2.2.2.1⟩ ⟨h.2.2.2.2.1⟩ ⟨h.2.2.2.2.2.1⟩ ⟨h.2.2.2.2.2.2.1⟩ ⟨h.2.2.2.2.2.2.2.1⟩ ⟨h.2.2.2.2.2.2.2.2.1⟩ ⟨h.2.2.2.2.2.2.2.2.2.1⟩ ⟨h.2.2.2.2.2.2.2.2.2.2.1⟩ ⟨h.2.2.2.2.2.2.2.2.2.2.2.1⟩ ⟨h.2.2.2.2.2.2.2.2.2.2.2.2.1⟩ ⟨h.2.2.2.2.2.2.2.2.2.2.2.2.2.1⟩ ⟨h.2.2.2.2.2.2.2.2.2.2.2.2.2.2.1⟩ ⟨h.2.2.2.2.2.2.2.2.2.2.2.2.2.2.2.1⟩ ⟨h.2.2.2.2.2.2.2.2.2.2.2.2.2.2.2.2.1⟩ ⟨h.2.2.2.2.2.2.2.2.2.2.2.2.2.2.2.2.2.1⟩ ⟨h.2.2.2.2.2.2.2.2.2.2.2.2.2.2.2.2.2.2.1⟩ ⟨h.2.2.2.2.2.2.2.2.2.2.2.2.2.2.2.2.2.2.2.1⟩ ⟨h.2.2.2.2.2.2.2.2.2.2.2.2.2.2.2.2.2.2.2.2.1⟩ ⟨h.2.2.2.2.2.2.2.2.2.2.2.2.2.2.2.2.2.2.2.2.2.1⟩ ⟨h.2.2.2.2.2.2.2.2.2.2.2.2.2.2.2.2.2.2.2.2.2.2.1⟩ ⟨h.2.2.2.2.2.2.2.2.2.2.2.2.2.2.2.2.2.2.2.2.2.2.2⟩
theorem wkE {p:Prop} (h:p:=by (conv=>whnf);exact wkD):p:=h
theorem wkB {p:Prop} (h:p:=by (conv=>whnf);(refine wkx ?_;refine ⟨?_,?_,?_⟩<;>(conv=>whnf)<;>repeat' first | exact wkc | (with_reducible refine And.intro ?_ ?_)<;>first | exact wks | refine wko ?_ | refine wki ?_ | refine wkb ?_ | (refine znh ?_;conv=>whnf) | (refine zat ?_;conv=>whnf) | (refine zao ?_;conv=>whnf) | conv=>whnf);all_goals first | exact wk_w1 (by omega) | (refine zz8 (by kernel_rfl) ?_;rw [List.take_of_length_le (Nat.le_refl _)];done) | (refine zz8 (by kernel_rfl) ?_;rw [List.take_of_length_le (Nat.le_refl _)];rfl) | exact List.length_append.symm | rfl):p:=h
theorem eX {c:CSt}{p r:PV}{bx':List (Nat×List PV)}{ob':List (Nat×Option (Bool×Nat×List (List PV)))} (rn:List (Nat×Nat)) (h:wkK rn [] ⟨[p],c.bx,c.ob⟩ [r] bx' ob':=by (conv=>whnf);exact wkD):ExitE c p r bx' ob':=zcm rn [] h
theorem eV {p:Prop} (h:p:=by refine tV 9 9990 ?_;refine tV 10 9991 ?_;refine tV 39 9992 ?_;refine tV 40 9993 ?_;exact eX [(9990,9990),(9991,9991),(9992,9992),(9993,9993)]):p:=h
theorem tQ {P:Program}{x y:Code}{Q:Exit→CSt→Prop}{c:CSt}{q:Prop} (h:q) (f:Wp q→Tri P (.seq x y) Q c:=by intro h;refine tSeq ?_;(conv=>whnf);exact h.out):Tri P (.seq x y) Q c:=f ⟨h⟩
theorem tZ {p q:Prop} (h:q) (f:Wp q→p:=by intro h;refine pwS ?_;(conv=>whnf);exact h.out):p:=f ⟨h⟩
end Go.Pv
namespace Go.Proofs
open Go.Pv
set_option maxRecDepth 100000
def cnt (b:Int):Nat→Int
 | 0=>0
 | n+1=>cnt b n+nb (tb b n)
def count (b:Int):Int:=cnt b 7
theorem zpf (b:Int):∀ n,0≤cnt b n∧cnt b n≤n
 | 0=>by simp [cnt]
 | n+1=>by
  have:=zpf b n
  simp only [cnt]
  rcases zg0 (tb b n) with h | h<;>rw [h]<;>omega
theorem zjx (b:Int):0≤count b∧count b≤7:=zpf b 7
theorem zcz (b:Int) (i:Nat) (hi:i < 64):hasB b i=tb b i:=by
 unfold hasB
 rw [zbz (by omega) (by omega),zes b i hi]
 cases tb b i<;>rfl
theorem z3s (b:Int):Ctr Tryz.prog 17 [iv b] (iv (count b)) []:=by
 refine sBody Tryz.func17 ?_;conv=>whnf
 refine zbe mixed (by kernel_rfl) (fun i:Nat=>i≤7) (fun i=>[(4,iv i),(3,iv (cnt b i))]) [] (fun i=>7 - i) 0 (by decide) ?_ ?_
 ·exact wkE
 ·intro i hi
  conv=>whnf
  repeat' (first | (refine tS ?_ ?_<;>intro h) | refine tC (c_Has _ _) ?_ | fail)
  ·refine ⟨i+1,by omega,?_⟩
   conv=>whnf
   rename_i h1
   rw [zcz b i (by omega)] at h
   have:=zpf b i
   (refine tWK ?_;and_intros<;>try exact ⟨⟩)
   ·simp only [cnt,h,nb_true];exact zaf (by omega) (by omega)
   ·rw [zaf (by omega) (by omega)];rfl
  ·refine ⟨i+1,by omega,?_⟩
   conv=>whnf
   rename_i h1
   rw [zcz b i (by omega)] at h
   (refine tWK ?_;and_intros<;>try exact ⟨⟩)
   ·simp [cnt,h]
   ·rw [zaf (by omega) (by omega)];rfl
  ·have:i=7:=by omega
   subst this
   exact zaa rfl rfl
theorem c_Count (b:Int):Ctr Tryz.prog 176 [iv b] (iv (count b)) []:=by
 refine sBody Tryz.func176 ?_;conv=>whnf
 refine zby mixed (by kernel_rfl) 8 ?_
 conv=>whnf
 repeat' (first | refine tK2 ?_ | fail)
 refine zaa rfl ?_
 have h0:=zes b 0 (by decide)
 have h1:=zes b 1 (by decide)
 have h2:=zes b 2 (by decide)
 have h3:=zes b 3 (by decide)
 have h4:=zes b 4 (by decide)
 have h5:=zes b 5 (by decide)
 have h6:=zes b 6 (by decide)
 show iv (w64 (w64 (w64 (w64 (w64 (w64 (w64 (0+band (shr b ((0:Nat):Int)) 1)+band (shr b ((1:Nat):Int)) 1)+band (shr b ((2:Nat):Int)) 1)+band (shr b ((3:Nat):Int)) 1)+band (shr b ((4:Nat):Int)) 1)+band (shr b ((5:Nat):Int)) 1)+band (shr b ((6:Nat):Int)) 1))=_
 rw [h0,h1,h2,h3,h4,h5,h6]
 have e:∀ k,k≤6→w64 (cnt b k+nb (tb b k))=cnt b (k+1):=by
  intro k hk
  have:=zpf b k
  rcases zg0 (tb b k) with h | h<;>simp only [cnt,h]<;>exact zaf (by omega) (by omega)
 rw [show (0:Int)=cnt b 0 from rfl,e 0 (by decide),e 1 (by decide),e 2 (by decide),e 3 (by decide),e 4 (by decide),e 5 (by decide),e 6 (by decide)]
 rfl
noncomputable def ztc (c:Conf):Int :=
 if c.full < 0∨127 < c.full∨band c.full 0 ≠ 0 then 14 else
 if c.wit < 0∨127 < c.wit∨band c.wit (bor 0 c.full) ≠ 0 then 14 else
 if c.learn < 0∨127 < c.learn∨band c.learn (bor (bor 0 c.full) c.wit) ≠ 0 then 14 else
 if c.lwit < 0∨127 < c.lwit∨band c.lwit (bor (bor (bor 0 c.full) c.wit) c.learn) ≠ 0 then 14 else
 if c.full=0 then 14 else 0
theorem z2k (c:Conf):Ctr Tryz.prog 71 [.ag c.enc] (iv (ztc c)) []:=by
 refine sBody Tryz.func71 ?_;conv=>whnf
 refine zby mixed (by kernel_rfl) 5 ?_
 conv=>whnf
 repeat' (first | (refine tS ?_ ?_<;>intro h) | refine tR ?_ | fail)
 all_goals (refine zaa rfl ?_)
 all_goals simp [ztc,band,bor, *]
structure Cok (c:Conf):Prop where
 f:Bits7 c.full
 w:Bits7 c.wit
 l:Bits7 c.learn
 x:Bits7 c.lwit
 ne:c.full ≠ 0
 fw:∀ i:Nat,(tb c.full i && tb c.wit i)=false
 fl:∀ i:Nat,(tb c.full i && tb c.learn i)=false
 wl:∀ i:Nat,(tb c.wit i && tb c.learn i)=false
 fx:∀ i:Nat,(tb c.full i && tb c.lwit i)=false
 wx:∀ i:Nat,(tb c.wit i && tb c.lwit i)=false
 lx:∀ i:Nat,(tb c.learn i && tb c.lwit i)=false
theorem and0 {a b:Int}:band a b=0 ↔ ∀ i:Nat,(tb a i && tb b i)=false:=by
 rw [eq0_iff (zel a b)]
 constructor
 ·intro h i
  by_cases hi:i < 64
  ·rw [← zdr];exact h i hi
  ·rw [show tb a i=false from BitVec.getLsbD_of_ge _ _ (by omega)];rfl
 ·intro h i _
  rw [zdr];exact h i
theorem zci (c:Conf):confB c=true ↔ Cok c:=by
 unfold confB
 simp only [Bool.and_eq_true,zav,decide_eq_true_eq,bne_iff_ne,beq_iff_eq,and0]
 constructor
 ·rintro ⟨h1,h2,h3,h4,h5,h6,h7,h9⟩
  refine ⟨h1,h2,h3,h4,h5,h6,?_,?_,?_,?_,?_⟩<;>intro i<;>have h7:=h7 i<;>have h9:=h9 i<;>rw [tb_or] at h7<;>rw [tb_or,tb_or] at h9<;>revert h7 h9<;>cases tb c.full i<;>cases tb c.wit i<;>cases tb c.learn i<;>cases tb c.lwit i<;>simp
 ·rintro ⟨h1,h2,h3,h4,h5,h6,h7,h8,h9,h10,h11⟩
  refine ⟨h1,h2,h3,h4,h5,h6,?_,?_⟩<;>intro i<;>simp only [tb_or]<;>have h7:=h7 i<;>have h8:=h8 i<;>have h9:=h9 i<;>have h10:=h10 i<;>have h11:=h11 i<;>revert h7 h8 h9 h10 h11<;>cases tb c.full i<;>cases tb c.wit i<;>cases tb c.learn i<;>cases tb c.lwit i<;>simp
theorem z0x (c:Conf):ztc c=if confB c then 0 else 14:=by
 have hc:∀ a b:Int,band a b=band b a:=by
  intro a b
  exact ext64 (zel _ _) (zel _ _) fun i _=>by rw [zdr,zdr,Bool.and_comm]
 have h0:∀ a:Int,band a 0=0:=by
  intro a;rw [and0];intro i;simp [ze9]
 have ho:∀ a x:Int,band a (bor 0 x)=band x a:=by
  intro a x
  exact ext64 (zel _ _) (zel _ _) fun i _=>by rw [zdr,zdr,tb_or,ze9,Bool.false_or,Bool.and_comm]
 have ho2:∀ a x y:Int,band a (bor (bor 0 x) y)=band (bor x y) a:=by
  intro a x y
  exact ext64 (zel _ _) (zel _ _) fun i _=>by simp only [zdr,tb_or,ze9,Bool.false_or];rw [Bool.and_comm]
 have ho3:∀ a x y z:Int,band a (bor (bor (bor 0 x) y) z)=band (bor (bor x y) z) a:=by
  intro a x y z
  exact ext64 (zel _ _) (zel _ _) fun i _=>by simp only [zdr,tb_or,ze9,Bool.false_or];rw [Bool.and_comm]
 unfold ztc
 simp only [h0,ho,ho2,ho3]
 by_cases h:confB c=true
 ·rw [if_pos h]
  unfold confB at h
  simp only [Bool.and_eq_true,zav,decide_eq_true_eq,bne_iff_ne,beq_iff_eq] at h
  obtain ⟨h1,h2,h3,h4,h5,h6,h7,h8⟩:=h
  rw [if_neg (by omega),if_neg (by omega),if_neg (by omega),if_neg (by omega),if_neg h5]
 ·rw [if_neg h]
  unfold confB at h
  simp only [Bool.and_eq_true,zav,decide_eq_true_eq,bne_iff_ne,beq_iff_eq] at h
  repeat' split
  all_goals first | rfl | skip
  exfalso;apply h
  refine ⟨?_,?_,?_,?_,?_,?_,?_,?_⟩<;>omega
theorem zhl (c:Conf):Ctr Tryz.prog 71 [.ag c.enc] (iv (if confB c then 0 else 14)) []:=by
 rw [← z0x];exact z2k c
theorem zoc (c:Conf):Ctr Tryz.prog 177 [.ag c.enc] (iv (bor c.full c.wit)) []:=by
 refine sBody Tryz.func177 ?_;conv=>whnf
 exact zaa rfl rfl
theorem zk3 (c:Conf):Ctr Tryz.prog 18 [.ag c.enc] (iv (bor c.full c.wit)) []:=by
 refine sBody Tryz.func18 ?_;conv=>whnf
 exact zaa rfl rfl
theorem c_All (c:Conf):Ctr Tryz.prog 113 [.ag c.enc] (iv (bor (bor (bor c.full c.wit) c.learn) c.lwit)) []:=by
 refine sBody Tryz.func113 ?_;conv=>whnf
 exact zaa rfl rfl
noncomputable def zak (c:Conf) (b:Int):Bool:=decide (count (bor c.full c.wit) < 2 * count (band (bor c.full c.wit) b))
theorem zjz (c:Conf) (b:Int):Ctr Tryz.prog 116 [.ag c.enc,iv b] (bv (zak c b)) []:=by
 refine sBody Tryz.func116 ?_;conv=>whnf
 repeat' (first | (first | refine tC (zoc c) ?_ | refine tC (c_Count _) ?_) | refine tK2 ?_ | fail)
 refine zaa rfl ?_
 have h1:=zjx (bor c.full c.wit)
 have h2:=zjx (band (bor c.full c.wit) b)
 show bv (decide (w64 ((count (bor c.full c.wit)).tdiv 2) < count (band (bor c.full c.wit) b)))=_
 rw [Int.tdiv_eq_ediv_of_nonneg h1.1]
 rw [show w64 (count (bor c.full c.wit) / 2)=count (bor c.full c.wit) / 2 from zaf (by omega) (by omega)]
 exact congrArg (fun b:Bool=>bv b) (decide_eq_decide.2 (by omega))
theorem zh7 (c:Conf) (b:Int):Ctr Tryz.prog 155 [.ag c.enc,iv b] (bv (zak c b)) []:=by
 refine sBody Tryz.func155 ?_;conv=>whnf
 repeat' (first | (first | refine tC (zk3 c) ?_ | refine tC (z3s _) ?_) | refine tK2 ?_ | fail)
 refine zaa rfl ?_
 have h1:=zjx (bor c.full c.wit)
 have h2:=zjx (band (bor c.full c.wit) b)
 have e1:∀ x y:Int,(∀ i,i < 7→tb x i=tb y i)→count x=count y:=by
  intro x y h
  simp only [count,cnt,h 0 (by decide),h 1 (by decide),h 2 (by decide),h 3 (by decide),h 4 (by decide),h 5 (by decide),h 6 (by decide)]
 show bv (decide (count (band (bor c.full c.wit) 127) < w64 (2 * count (band (band (bor c.full c.wit) 127) b))))=_
 rw [e1 (band (bor c.full c.wit) 127) (bor c.full c.wit) (fun i hi=>by rw [zdr,tb_127];simp [hi]),
  e1 (band (band (bor c.full c.wit) 127) b) (band (bor c.full c.wit) b) (fun i hi=>by rw [zdr,zdr,zdr,tb_127];simp [hi])]
 rw [show w64 (2 * count (band (bor c.full c.wit) b))=2 * count (band (bor c.full c.wit) b) from zaf (by omega) (by omega)]
 rfl
end Go.Proofs
