import Derived.Test.YtbhfokahocgndabGreatC24
import Derived.KernelRfl
import Derived.Test.YtbhfokahocgndabGreatC13
import Derived.Test.YtbhfokahocgndabGreatPvN
import Derived.Test.YtbhfokahocgndabGreatPvX
import Derived.Test.YtbhfokahocgndabGreatC1
import Derived.Test.YtbhfokahocgndabGreatC5
/- A call that writes, its boxes zc7 back in one go: what they hold then is given, and checked by the kernel. -/
set_option linter.unusedSimpArgs false
set_option linter.unusedVariables false
namespace Go.Pv
theorem zbf {P : Program} {f : Nat} {ps qs : List PV} {r r2 : PV} {b bx bx' wb : List (Nat × List PV)} {o ob ob' : List (Nat × Option (Bool × Nat × List (List PV)))} {kc ko : List (Nat × Nat)} {kc2 : List (Nat × Nat)}
    {NM:List (Nat×Option (Bool×Nat×List (List PV)))→Bool}{K:List (Nat×Option (Bool×Nat×List (List PV)))→PV→List (Nat×List PV)→Prop}
    (h:CtrE P f qs bx ob r bx' ob') (e1:ps=qs) (e2:b=bx) (e3:o=ob) (er:shE kc ko r=r2) (eb:tkA (shEL kc ko) bx' kc2=wb) (k:okK (NM ob') (K ob' r2 wb)) :
    ∃ r bx' ob',CtrE P f ps b o r bx' ob'∧okK (NM ob') (shEK kc ko r fun r'=>tkBK kc ko bx' kc2 fun wb=>K ob' r' wb):=by
 subst e1 e2 e3
 refine ⟨r,bx',ob',h,?_⟩
 rw [zoc,er,zon,eb]
 exact k
theorem cFast {P : Program} {f : Nat} {ps qs : List PV} {r r2 : PV} {b bx bx' wb : List (Nat × List PV)} {o ob ob' : List (Nat × Option (Bool × Nat × List (List PV)))} {kc ko : List (Nat × Nat)} {kc2 : List (Nat × Nat)}
    {NM:List (Nat×Option (Bool×Nat×List (List PV)))→Bool}{K:List (Nat×Option (Bool×Nat×List (List PV)))→PV→List (Nat×List PV)→Prop}
    (h:CtrE P f qs bx ob r bx' ob') (k:okK (NM ob') (K ob' r2 wb)) (e1:ps=qs:=by kernel_rfl) (e2:b=bx:=by kernel_rfl) (e3:o=ob:=by kernel_rfl) (er:shE kc ko r=r2:=by kernel_rfl) (eb:tkA (shEL kc ko) bx' kc2=wb:=by kernel_rfl) :
    ∃ r bx' ob',CtrE P f ps b o r bx' ob'∧okK (NM ob') (shEK kc ko r fun r'=>tkBK kc ko bx' kc2 fun wb=>K ob' r' wb):=zbf h e1 e2 e3 er eb k
mutual
def SubV:PV→PV→Prop
 | .nl,q=>q=.nl∨∃ sz,q=.sl sz []
 | .ag ps,q=>∃ qs,q=.ag qs∧SubVL ps qs
 | .tu ps,q=>∃ qs,q=.tu qs∧SubVL ps qs
 | .cl f ps,q=>∃ qs,q=.cl f qs∧SubVL ps qs
 | .cm f ps,q=>∃ qs,q=.cm f qs∧SubVL ps qs
 | .sl sz rows,q=>∃ rows',q=.sl sz rows'∧SubVR rows rows'
 | .ep ps,q=>∃ qs,q=.ep qs∧SubVL ps qs
 | .sc v,q=>q=.sc v
 | .pt k off,q=>q=.pt k off
 | .bs k off len,q=>q=.bs k off len
 | .ow k lo len,q=>q=.ow k lo len
 | .eo k i off,q=>q=.eo k i off
 | .ub φ,q=>q=.ub φ
 | .nn kd,q=>q=.nn kd
 | .ls sz rows,q=>q=.ls sz rows
 | .lp s,q=>q=.lp s
 | .bad,q=>q=.bad
def SubVL:List PV→List PV→Prop
 | [],qs=>qs=[]
 | p :: ps,qs=>∃ q r,qs=q :: r∧SubV p q∧SubVL ps r
def SubVR:List (List PV)→List (List PV)→Prop
 | [],qs=>qs=[]
 | p :: ps,qs=>∃ q r,qs=q :: r∧SubVL p q∧SubVR ps r
end
theorem SubVL.len:∀ {ps qs:List PV},SubVL ps qs→qs.length=ps.length
 | [],qs,h=>by simp only [SubVL] at h;simp [h]
 | p :: ps,qs,h=>by
  simp only [SubVL] at h
  obtain ⟨q,r,rfl,_,h2⟩:=h
  simp [SubVL.len h2]
theorem SubVR.len:∀ {ps qs:List (List PV)},SubVR ps qs→qs.length=ps.length
 | [],qs,h=>by simp only [SubVR] at h;simp [h]
 | p :: ps,qs,h=>by
  simp only [SubVR] at h
  obtain ⟨q,r,rfl,_,h2⟩:=h
  simp [SubVR.len h2]
mutual
theorem SubV.sound {M:Mem}{w:World}:∀ (p q:PV) (v:Value),SubV p q→RV M w p v→RV M w q v
 | .nl,q,v,h,hv=>by
  simp only [SubV] at h
  rcases h with rfl | ⟨sz,rfl⟩
  ·exact hv
  ·exact sub_nl hv
 | .ag ps,q,v,h,hv=>by
  simp only [SubV] at h
  obtain ⟨qs,rfl,h⟩:=h
  simp only [RV] at hv ⊢
  obtain ⟨cs,e,r⟩:=hv
  exact ⟨cs,e,SubVL.sound ps qs _ h r⟩
 | .tu ps,q,v,h,hv=>by
  simp only [SubV] at h
  obtain ⟨qs,rfl,h⟩:=h
  simp only [RV] at hv ⊢
  obtain ⟨cs,e,r⟩:=hv
  exact ⟨cs,e,SubVL.sound ps qs _ h r⟩
 | .cl f ps,q,v,h,hv=>by
  simp only [SubV] at h
  obtain ⟨qs,rfl,h⟩:=h
  simp only [RV] at hv ⊢
  obtain ⟨cs,e,r⟩:=hv
  exact ⟨cs,e,SubVL.sound ps qs _ h r⟩
 | .cm f ps,q,v,h,hv=>by
  simp only [SubV] at h
  obtain ⟨qs,rfl,h⟩:=h
  simp only [RV] at hv ⊢
  obtain ⟨cs,e,r⟩:=hv
  exact ⟨cs,e,SubVL.sound ps qs _ h r⟩
 | .sl sz rows,q,v,h,hv=>by
  simp only [SubV] at h
  obtain ⟨rows',rfl,h⟩:=h
  simp only [RV] at hv ⊢
  obtain ⟨a,n,c,e,hn,hc,r⟩:=hv
  refine ⟨a,n,c,e,by rw [h.len];exact hn,hc,?_⟩
  rcases r with rfl | ⟨b,off,cs,ha,hs,hcl,hR⟩
  ·left;simpa [SubVR] using h
  ·exact .inr ⟨b,off,cs,ha,hs,hcl,SubVR.sound sz rows rows' cs h hR⟩
 | .ep ps,q,v,h,hv=>by
  simp only [SubV] at h
  obtain ⟨qs,rfl,h⟩:=h
  simp only [RV] at hv ⊢
  obtain ⟨b,off,cs,e,hs,hcl,hr⟩:=hv
  exact ⟨b,off,cs,e,hs,hcl,SubVL.sound ps qs cs h hr⟩
 | .sc x,q,v,h,hv=>by simp only [SubV] at h;subst h;exact hv
 | .pt ..,q,v,h,hv=>by simp only [SubV] at h;subst h;exact hv
 | .bs ..,q,v,h,hv=>by simp only [SubV] at h;subst h;exact hv
 | .ow ..,q,v,h,hv=>by simp only [SubV] at h;subst h;exact hv
 | .eo ..,q,v,h,hv=>by simp only [SubV] at h;subst h;exact hv
 | .ub ..,q,v,h,hv=>by simp only [SubV] at h;subst h;exact hv
 | .nn ..,q,v,h,hv=>by simp only [SubV] at h;subst h;exact hv
 | .ls ..,q,v,h,hv=>by simp only [SubV] at h;subst h;exact hv
 | .lp ..,q,v,h,hv=>by simp only [SubV] at h;subst h;exact hv
 | .bad,q,v,h,hv=>by simp only [SubV] at h;subst h;exact hv
theorem SubVL.sound {M:Mem}{w:World}:∀ (ps qs:List PV) (cs:List Value),SubVL ps qs→RVL M w ps cs→RVL M w qs cs
 | [],qs,cs,h,hv=>by simp only [SubVL] at h;subst h;exact hv
 | p :: ps,qs,cs,h,hv=>by
  simp only [SubVL] at h
  obtain ⟨q,r,rfl,h1,h2⟩:=h
  simp only [RVL] at hv ⊢
  obtain ⟨c,rr,e,h3,h4⟩:=hv
  exact ⟨c,rr,e,SubV.sound p q c h1 h3,SubVL.sound ps r rr h2 h4⟩
theorem SubVR.sound {M:Mem}{w:World} (sz:Nat):∀ (ps qs:List (List PV)) (cs:List Value),SubVR ps qs→RVR M w sz ps cs→RVR M w sz qs cs
 | [],qs,cs,h,hv=>by simp only [SubVR] at h;subst h;exact hv
 | p :: ps,qs,cs,h,hv=>by
  simp only [SubVR] at h
  obtain ⟨q,r,rfl,h1,h2⟩:=h
  simp only [RVR] at hv ⊢
  obtain ⟨c1,c2,e,hl,h3,h4⟩:=hv
  exact ⟨c1,c2,e,h1.len.trans hl,SubVL.sound p q c1 h1 h3,SubVR.sound sz ps r c2 h2 h4⟩
end
theorem Ctr.deep {P:Program}{f:Nat}{ps qs:List PV}{r:PV}{os:List (Nat×List (List PV))} (h:Ctr P f qs r os) (hs:SubVL ps qs):Ctr P f ps r os :=
 ⟨fun w st vs hst hv=>h.run w st vs hst (SubVL.sound ps qs vs hs hv)⟩
theorem zaw {P:Program}{f:Nat}{ps qs:List PV}{r:PV}{os:List (Nat×List (List PV))}{K:PV→List (Nat×List (List PV))→Prop} (h:Ctr P f qs r os) (hs:SubVL ps qs) (k:K r os):∃ r os,Ctr P f ps r os∧K r os:=⟨r,os,h.deep hs,k⟩
mutual
theorem SubV.refl:∀ p:PV,SubV p p
 | .nl=>by simp [SubV]
 | .ag ps=>by simp only [SubV];exact ⟨ps,rfl,SubVL.refl ps⟩
 | .tu ps=>by simp only [SubV];exact ⟨ps,rfl,SubVL.refl ps⟩
 | .cl f ps=>by simp only [SubV];exact ⟨ps,rfl,SubVL.refl ps⟩
 | .cm f ps=>by simp only [SubV];exact ⟨ps,rfl,SubVL.refl ps⟩
 | .sl sz rows=>by simp only [SubV];exact ⟨rows,rfl,SubVR.refl rows⟩
 | .ep ps=>by simp only [SubV];exact ⟨ps,rfl,SubVL.refl ps⟩
 | .sc x=>by simp [SubV]
 | .pt ..=>by simp [SubV]
 | .bs ..=>by simp [SubV]
 | .ow ..=>by simp [SubV]
 | .eo ..=>by simp [SubV]
 | .ub ..=>by simp [SubV]
 | .nn ..=>by simp [SubV]
 | .ls ..=>by simp [SubV]
 | .lp ..=>by simp [SubV]
 | .bad=>by simp [SubV]
theorem SubVL.refl:∀ ps:List PV,SubVL ps ps
 | []=>by simp [SubVL]
 | p :: ps=>by simp only [SubVL];exact ⟨p,ps,rfl,SubV.refl p,SubVL.refl ps⟩
theorem SubVR.refl:∀ ps:List (List PV),SubVR ps ps
 | []=>by simp [SubVR]
 | p :: ps=>by simp only [SubVR];exact ⟨p,ps,rfl,SubVL.refl p,SubVR.refl ps⟩
end
theorem za2 {sz:Nat}:SubV .nl (.sl sz []):=by simp only [SubV];exact .inr ⟨sz,rfl⟩
theorem za8 {sz:Nat}{rows rows':List (List PV)} (h:SubVR rows rows'):SubV (.sl sz rows) (.sl sz rows'):=by simp only [SubV];exact ⟨rows',rfl,h⟩
theorem za7 {sz n:Nat}{r:List (List PV)} (h:r.length=n):SubV (.sl sz ((r.drop 0).take n)) (.sl sz r):=by subst h;rw [List.drop_zero,List.take_length];exact SubV.refl _
theorem za6 {ps qs:List PV} (h:SubVL ps qs):SubV (.ag ps) (.ag qs):=by simp only [SubV];exact ⟨qs,rfl,h⟩
theorem za5 {ps qs:List PV} (h:SubVL ps qs):SubV (.ep ps) (.ep qs):=by simp only [SubV];exact ⟨qs,rfl,h⟩
theorem zar {p q:PV}{ps qs:List PV} (h1:SubV p q) (h2:SubVL ps qs):SubVL (p :: ps) (q :: qs):=by simp only [SubVL];exact ⟨q,qs,rfl,h1,h2⟩
theorem zav:SubVL [] []:=by simp [SubVL]
theorem zaq {p q:List PV}{ps qs:List (List PV)} (h1:SubVL p q) (h2:SubVR ps qs):SubVR (p :: ps) (q :: qs):=by simp only [SubVR];exact ⟨q,qs,rfl,h1,h2⟩
theorem zau:SubVR [] []:=by simp [SubVR]
end Go.Pv
namespace Go.Proofs
open Go.Pv
set_option maxRecDepth 100000
theorem zzq {α:Type}{f:α→List PV}{l:List α}{n:Nat}{x:List PV} (hn:n=(l.map f).length) (y:α) (hx:x=f y):(l.map f).take n++[x]=(l++[y]).map f:=by
 subst hn;subst hx;simp [List.take_of_length_le]
theorem zaz {b:Bool}{sz sz':Nat}{r r':List (List PV)} (h:sz=sz') (h2:r=r'):(b,sz,r)=(b,sz',r'):=by subst h;subst h2;rfl
theorem zxj (f w l x:Bool):((kind4 f w l x).toList == (ByteArray.mk #[102,117,108,108]).toList)=f:=by
 cases f<;>cases w<;>cases l<;>cases x<;>decide +kernel
theorem zxv (f w l x:Bool) (h:one4 f w l x=true):((kind4 f w l x).toList == (ByteArray.mk #[119,105,116]).toList)=w:=by
 revert h;cases f<;>cases w<;>cases l<;>cases x<;>decide +kernel
theorem zzw (f w l x:Bool) (h:one4 f w l x=true):((kind4 f w l x).toList == (ByteArray.mk #[108,101,97,114,110]).toList)=l:=by
 revert h;cases f<;>cases w<;>cases l<;>cases x<;>decide +kernel
theorem zyv (f w l x:Bool) (h:one4 f w l x=true):((kind4 f w l x).toList == (ByteArray.mk #[108,101,97,114,110,119,105,116]).toList)=x:=by
 revert h;cases f<;>cases w<;>cases l<;>cases x<;>decide +kernel
noncomputable def zcx (c:Conf) (n:Nat):List Conf :=
 if tb c.full n then [dele c n] else if tb c.wit n then [dele c n] else if tb c.learn n then [dele c n,proL c n] else if tb c.lwit n then [dele c n,proX c n] else [addL c n,addX c n]
noncomputable def zb2 (c:Conf):Nat→List Conf
 | 0=>[]
 | n+1=>zb2 c n++zcx c n
theorem zos (c:Conf) (n:Nat):(zcx c n).length≤2:=by unfold zcx;(repeat' split)<;>simp
theorem zf0 (c:Conf):∀ n,(zb2 c n).length≤2 * n
 | 0=>by simp [zb2]
 | n+1=>by have:=zf0 c n;have:=zos c n;simp only [zb2,List.length_append];omega
theorem ze4 {x:Int}{n:Nat} (hx:Bits7 x) (hn:n < 7) (h:tb x n=false):bandn x (shl 1 n)=x:=ext7 (zky hx) hx fun i _=>by
 rw [zlq,zga n i (by omega)]
 by_cases e:n=i
 ·subst e;simp [h]
 ·simp [e]
set_option maxHeartbeats 2000000 in
theorem zq4 (c:Conf) (hk:Cok c):Ctr Tryz.prog 170 [.ag c.enc] (.ow 0 0 ((zb2 c 7).map Conf.enc).length) [(4,(zb2 c 7).map Conf.enc)]:=by
 refine sBody Tryz.func170 ?_;conv=>whnf
 refine zgp 3 1000 4 rfl rfl ?_
 conv=>whnf
 refine tFor (fun i:Nat=>i≤7) (fun i=>[(4,iv i),(3,.ow 1000 0 (zb2 c i).length)]) (fun _=>[(1,c.enc)]) (fun i=>[(1000,some (false,4,(zb2 c i).map Conf.enc))]) [(1000,1000)] (fun i=>7 - i) 0 (by decide) ?_ ?_
 ·conv=>whnf
  exact wkD
 intro n hn
 conv=>whnf
 (refine tSp (fun h=>?_) (fun h=>?_)<;>conv=>whnf)
 ·have hn:n < 7:=by omega
  have one:=hk.one n
  have hlen:=zf0 c n
  have hb:=zwf hn
  have hsu:ishl IntKind.i64 1 (IntKind.u64.wrap (n:Int))=shl 1 n:=shl_u hn
  have bf:=hk.f
  have bw:=hk.w
  have bl:=hk.l
  have bx:=hk.x
  unfold Bits7 at bf bw bl bx
  have q1:=zxj (tb c.full n) (tb c.wit n) (tb c.learn n) (tb c.lwit n)
  have q2:=zxv _ _ _ _ one
  have q3:=zzw _ _ _ _ one
  have q4:=zyv _ _ _ _ one
  rw [← kind_4 c hn] at q1 q2 q3 q4
  refine ⟨⟨by decide,zeq _⟩,?_⟩
  conv=>whnf
  ((try (refine Exists.intro none ?_;conv=>whnf));(with_reducible refine zaa (zl8 c n) ?_);conv=>whnf)
  cases hf:tb c.full n
  all_goals rw [hf] at q1
  ·((first | refine tYesA ?_ | refine tNoA ?_ | refine tSp (fun h=>?_) (fun h=>?_))<;>conv=>whnf)
   cases hw:tb c.wit n
   all_goals rw [hw] at q2
   ·((first | refine tYesA ?_ | refine tNoA ?_ | refine tSp (fun h=>?_) (fun h=>?_))<;>conv=>whnf)
    cases hl:tb c.learn n
    all_goals rw [hl] at q3
    ·((first | refine tYesA ?_ | refine tNoA ?_ | refine tSp (fun h=>?_) (fun h=>?_))<;>conv=>whnf)
     cases hx:tb c.lwit n
     all_goals rw [hx] at q4
     ·((first | refine tYesA ?_ | refine tNoA ?_ | refine tSp (fun h=>?_) (fun h=>?_))<;>conv=>whnf)
      have e:zcx c n=[addL c n,addX c n]:=by unfold zcx;rw [hf,hw,hl,hx];rfl
      have w1':IntKind.i64.wrap (c.learn+ishl IntKind.i64 1 (IntKind.u64.wrap n))=bor c.learn (shl 1 n):=by rw [hsu,zal (by omega) (by omega),zjt hk.l hn hl]
      have w2':IntKind.i64.wrap (c.lwit+ishl IntKind.i64 1 (IntKind.u64.wrap n))=bor c.lwit (shl 1 n):=by rw [hsu,zal (by omega) (by omega),zjt hk.x hn hx]
      (refine And.intro rfl ?_;(conv=>whnf);refine And.intro (And.intro (And.intro (by kernel_rfl) (And.intro (by simp) (And.intro (small (by simp only [List.length_cons,List.length_nil];omega) (by kernel_rfl)) (And.intro (zak (by simp only [List.length_cons,List.length_nil];omega)) (by intro r hr;rw [List.mem_singleton.1 hr];rfl))))) (And.intro (by decide) rfl)) ?_;conv=>whnf)
      (refine And.intro rfl ?_;(conv=>whnf);refine And.intro (And.intro (And.intro (by kernel_rfl) (And.intro (by simp) (And.intro (small (by simp only [List.length_cons,List.length_nil];omega) (by kernel_rfl)) (And.intro (zak (by simp only [List.length_cons,List.length_nil];omega)) (by intro r hr;rw [List.mem_singleton.1 hr];rfl))))) (And.intro (by decide) rfl)) ?_;conv=>whnf)
      refine ⟨n+1,[(1000,608)],⟨by omega,by omega⟩,?_⟩
      conv=>whnf
      (refine wkx ?_;refine ⟨?_,?_,?_⟩<;>(conv=>whnf)<;>repeat' first | exact wkc | (with_reducible refine And.intro ?_ ?_)<;>first | exact wks | refine wko ?_ | refine wki ?_ | refine wkb ?_ | (refine zan ?_;conv=>whnf) | (refine zah ?_;conv=>whnf) | (refine zag ?_;conv=>whnf) | conv=>whnf)
      all_goals first | exact w1 (by omega) | (simp [zb2,e];done) | (refine zaz (by kernel_rfl) ?_;simp [List.take_of_length_le,zb2,e,w1',w2'];done) | rfl
     ·((first | refine tYesA ?_ | refine tNoA ?_ | refine tSp (fun h=>?_) (fun h=>?_))<;>conv=>whnf)
      have e:zcx c n=[dele c n,proX c n]:=by unfold zcx;rw [hf,hw,hl,hx];rfl
      have ed:dele c n=⟨c.full,c.wit,c.learn,bandn c.lwit (shl 1 n)⟩:=by unfold dele;rw [ze4 hk.f hn hf,ze4 hk.w hn hw,ze4 hk.l hn hl]
      have w1':IntKind.i64.wrap (c.lwit - ishl IntKind.i64 1 (IntKind.u64.wrap n))=bandn c.lwit (shl 1 n):=by rw [hsu,zal (by omega) (by omega),zli hk.x hn hx]
      have w2':IntKind.i64.wrap (c.wit+ishl IntKind.i64 1 (IntKind.u64.wrap n))=bor c.wit (shl 1 n):=by rw [hsu,zal (by omega) (by omega),zjt hk.w hn hw]
      (refine And.intro rfl ?_;(conv=>whnf);refine And.intro (And.intro (And.intro (by kernel_rfl) (And.intro (by simp) (And.intro (small (by simp only [List.length_cons,List.length_nil];omega) (by kernel_rfl)) (And.intro (zak (by simp only [List.length_cons,List.length_nil];omega)) (by intro r hr;rw [List.mem_singleton.1 hr];rfl))))) (And.intro (by decide) rfl)) ?_;conv=>whnf)
      (refine And.intro rfl ?_;(conv=>whnf);refine And.intro (And.intro (And.intro (by kernel_rfl) (And.intro (by simp) (And.intro (small (by simp only [List.length_cons,List.length_nil];omega) (by kernel_rfl)) (And.intro (zak (by simp only [List.length_cons,List.length_nil];omega)) (by intro r hr;rw [List.mem_singleton.1 hr];rfl))))) (And.intro (by decide) rfl)) ?_;conv=>whnf)
      refine ⟨n+1,[(1000,1600)],⟨by omega,by omega⟩,?_⟩
      conv=>whnf
      (refine wkx ?_;refine ⟨?_,?_,?_⟩<;>(conv=>whnf)<;>repeat' first | exact wkc | (with_reducible refine And.intro ?_ ?_)<;>first | exact wks | refine wko ?_ | refine wki ?_ | refine wkb ?_ | (refine zan ?_;conv=>whnf) | (refine zah ?_;conv=>whnf) | (refine zag ?_;conv=>whnf) | conv=>whnf)
      all_goals first | exact w1 (by omega) | (simp [zb2,e];done) | (refine zaz (by kernel_rfl) ?_;simp [List.take_of_length_le,zb2,e,ed,w1',w2'];done) | rfl
    ·((first | refine tYesA ?_ | refine tNoA ?_ | refine tSp (fun h=>?_) (fun h=>?_))<;>conv=>whnf)
     have hx:tb c.lwit n=false:=by have:=hk.lx n;rw [hl] at this;simpa using this
     have e:zcx c n=[dele c n,proL c n]:=by unfold zcx;rw [hf,hw,hl];rfl
     have ed:dele c n=⟨c.full,c.wit,bandn c.learn (shl 1 n),c.lwit⟩:=by unfold dele;rw [ze4 hk.f hn hf,ze4 hk.w hn hw,ze4 hk.x hn hx]
     have w1':IntKind.i64.wrap (c.learn - ishl IntKind.i64 1 (IntKind.u64.wrap n))=bandn c.learn (shl 1 n):=by rw [hsu,zal (by omega) (by omega),zli hk.l hn hl]
     have w2':IntKind.i64.wrap (c.full+ishl IntKind.i64 1 (IntKind.u64.wrap n))=bor c.full (shl 1 n):=by rw [hsu,zal (by omega) (by omega),zjt hk.f hn hf]
     (refine And.intro rfl ?_;(conv=>whnf);refine And.intro (And.intro (And.intro (by kernel_rfl) (And.intro (by simp) (And.intro (small (by simp only [List.length_cons,List.length_nil];omega) (by kernel_rfl)) (And.intro (zak (by simp only [List.length_cons,List.length_nil];omega)) (by intro r hr;rw [List.mem_singleton.1 hr];rfl))))) (And.intro (by decide) rfl)) ?_;conv=>whnf)
     (refine And.intro rfl ?_;(conv=>whnf);refine And.intro (And.intro (And.intro (by kernel_rfl) (And.intro (by simp) (And.intro (small (by simp only [List.length_cons,List.length_nil];omega) (by kernel_rfl)) (And.intro (zak (by simp only [List.length_cons,List.length_nil];omega)) (by intro r hr;rw [List.mem_singleton.1 hr];rfl))))) (And.intro (by decide) rfl)) ?_;conv=>whnf)
     refine ⟨n+1,[(1000,1280)],⟨by omega,by omega⟩,?_⟩
     conv=>whnf
     (refine wkx ?_;refine ⟨?_,?_,?_⟩<;>(conv=>whnf)<;>repeat' first | exact wkc | (with_reducible refine And.intro ?_ ?_)<;>first | exact wks | refine wko ?_ | refine wki ?_ | refine wkb ?_ | (refine zan ?_;conv=>whnf) | (refine zah ?_;conv=>whnf) | (refine zag ?_;conv=>whnf) | conv=>whnf)
     all_goals first | exact w1 (by omega) | (simp [zb2,e];done) | (refine zaz (by kernel_rfl) ?_;simp [List.take_of_length_le,zb2,e,ed,w1',w2'];done) | rfl
   ·((first | refine tYesA ?_ | refine tNoA ?_ | refine tSp (fun h=>?_) (fun h=>?_))<;>conv=>whnf)
    have hl:tb c.learn n=false:=by have:=hk.wl n;rw [hw] at this;simpa using this
    have hx:tb c.lwit n=false:=by have:=hk.wx n;rw [hw] at this;simpa using this
    have e:zcx c n=[dele c n]:=by unfold zcx;rw [hf,hw];rfl
    have ed:dele c n=⟨c.full,bandn c.wit (shl 1 n),c.learn,c.lwit⟩:=by unfold dele;rw [ze4 hk.f hn hf,ze4 hk.l hn hl,ze4 hk.x hn hx]
    have w1':IntKind.i64.wrap (c.wit - ishl IntKind.i64 1 (IntKind.u64.wrap n))=bandn c.wit (shl 1 n):=by rw [hsu,zal (by omega) (by omega),zli hk.w hn hw]
    (refine And.intro rfl ?_;(conv=>whnf);refine And.intro (And.intro (And.intro (by kernel_rfl) (And.intro (by simp) (And.intro (small (by simp only [List.length_cons,List.length_nil];omega) (by kernel_rfl)) (And.intro (zak (by simp only [List.length_cons,List.length_nil];omega)) (by intro r hr;rw [List.mem_singleton.1 hr];rfl))))) (And.intro (by decide) rfl)) ?_;conv=>whnf)
    refine ⟨n+1,[(1000,960)],⟨by omega,by omega⟩,?_⟩
    conv=>whnf
    (refine wkx ?_;refine ⟨?_,?_,?_⟩<;>(conv=>whnf)<;>repeat' first | exact wkc | (with_reducible refine And.intro ?_ ?_)<;>first | exact wks | refine wko ?_ | refine wki ?_ | refine wkb ?_ | (refine zan ?_;conv=>whnf) | (refine zah ?_;conv=>whnf) | (refine zag ?_;conv=>whnf) | conv=>whnf)
    all_goals first | exact w1 (by omega) | (simp [zb2,e];done) | (refine zaz (by kernel_rfl) ?_;simp [List.take_of_length_le,zb2,e,ed,w1'];done) | rfl
  ·((first | refine tYesA ?_ | refine tNoA ?_ | refine tSp (fun h=>?_) (fun h=>?_))<;>conv=>whnf)
   have hw:tb c.wit n=false:=by have:=hk.fw n;rw [hf] at this;simpa using this
   have hl:tb c.learn n=false:=by have:=hk.fl n;rw [hf] at this;simpa using this
   have hx:tb c.lwit n=false:=by have:=hk.fx n;rw [hf] at this;simpa using this
   have e:zcx c n=[dele c n]:=by unfold zcx;rw [hf];rfl
   have ed:dele c n=⟨bandn c.full (shl 1 n),c.wit,c.learn,c.lwit⟩:=by unfold dele;rw [ze4 hk.w hn hw,ze4 hk.l hn hl,ze4 hk.x hn hx]
   have w1':IntKind.i64.wrap (c.full - ishl IntKind.i64 1 (IntKind.u64.wrap n))=bandn c.full (shl 1 n):=by rw [hsu,zal (by omega) (by omega),zli hk.f hn hf]
   (refine And.intro rfl ?_;(conv=>whnf);refine And.intro (And.intro (And.intro (by kernel_rfl) (And.intro (by simp) (And.intro (small (by simp only [List.length_cons,List.length_nil];omega) (by kernel_rfl)) (And.intro (zak (by simp only [List.length_cons,List.length_nil];omega)) (by intro r hr;rw [List.mem_singleton.1 hr];rfl))))) (And.intro (by decide) rfl)) ?_;conv=>whnf)
   refine ⟨n+1,[(1000,784)],⟨by omega,by omega⟩,?_⟩
   conv=>whnf
   (refine wkx ?_;refine ⟨?_,?_,?_⟩<;>(conv=>whnf)<;>repeat' first | exact wkc | (with_reducible refine And.intro ?_ ?_)<;>first | exact wks | refine wko ?_ | refine wki ?_ | refine wkb ?_ | (refine zan ?_;conv=>whnf) | (refine zah ?_;conv=>whnf) | (refine zag ?_;conv=>whnf) | conv=>whnf)
   all_goals first | exact w1 (by omega) | (simp [zb2,e];done) | (refine zaz (by kernel_rfl) ?_;simp [List.take_of_length_le,zb2,e,ed,w1'];done) | rfl
 ·have:n=7:=by omega
  subst this
  exact zbd [(0,1000)] rfl ⟨rfl,True.intro⟩ (zbj rfl rfl (by simp))
noncomputable def nearL (a b:Conf):Bool:=confB a && (confB b && ((zb2 a 7).any (fun x=>decide (x=b)) || decide (a=b)))
theorem zvm (a b:Conf):Ctr Tryz.prog 169 [.ag a.enc,.ag b.enc] (bv (nearL a b)) []:=by
 refine sBody Tryz.func169 ?_;conv=>whnf
 ((try (refine Exists.intro none ?_;conv=>whnf));(with_reducible refine zaa (zhx a) ?_);conv=>whnf)
 (refine tSp (fun h=>?_) (fun h=>?_)<;>conv=>whnf)
 ·exact zab rfl (by simp [nearL,h])
 have ha:=h
 ((try (refine Exists.intro none ?_;conv=>whnf));(with_reducible refine zaa (zhx b) ?_);conv=>whnf)
 (refine tSp (fun h=>?_) (fun h=>?_)<;>conv=>whnf)
 ·exact zab rfl (by simp [nearL,ha,h])
 have hb:=h
 have hA:=(zeo a).1 ha
 ((try (refine Exists.intro none ?_;conv=>whnf));(with_reducible refine zaa (zq4 a hA) ?_);conv=>whnf)
 (refine Exists.intro _ (And.intro rfl (And.intro (by intro q hq;first | (cases hq;done) | (simp only [List.mem_cons,List.not_mem_nil,or_false] at hq;rcases hq with rfl | rfl<;>(simp only [List.length_cons,List.length_nil];omega)) | (simp only [List.mem_cons,List.not_mem_nil,or_false] at hq;subst hq;simp only [List.length_cons,List.length_nil];omega)) (And.intro (by intro i hi;simp only [List.length_cons,List.length_nil,Nat.lt_one_iff,Nat.zero_add] at hi;subst hi;rfl) ?_)));conv=>whnf)
 have hlen:(zb2 a 7).length≤14:=zf0 a 7
 refine zlk mixed (by kernel_rfl) (fun i:Nat=>i≤(zb2 a 7).length∧∀ j (hj:j < (zb2 a 7).length),j < i→decide ((zb2 a 7)[j]'hj=b)=false) (fun i=>[(6,iv i)]) (fun _=>[(2,a.enc),(3,b.enc)]) [(256,256)] (fun i=>(zb2 a 7).length - i) 0 ⟨Nat.zero_le _,fun j _ h=>absurd h (Nat.not_lt_zero _)⟩ ?_ ?_
 ·conv=>whnf
  exact wkD
 rintro i ⟨hi,hp⟩
 conv=>whnf
 (refine tSp (fun h=>?_) (fun h=>?_)<;>conv=>whnf)
 ·simp only [List.length_map] at h
  have hlt:i < (zb2 a 7).length:=by omega
  refine ⟨by simp only [List.length_map];omega,?_⟩
  conv=>whnf
  refine ⟨_,by rw [Nat.zero_add];exact zbn hlt,?_⟩
  conv=>whnf
  ((try (refine Exists.intro none ?_;conv=>whnf));(with_reducible refine zaa (zi2 ((zb2 a 7)[i]'hlt) b) ?_);conv=>whnf)
  (refine tSp (fun h=>?_) (fun h=>?_)<;>conv=>whnf)
  ·refine zab rfl ?_
   have:=any_at (p:=fun x:Conf=>decide (x=b)) hlt (by simpa using h)
   simp [nearL,ha,hb,this]
  ·refine ⟨i+1,⟨⟨by omega,?_⟩,by omega⟩,?_⟩
   ·intro j hj hji
    by_cases e:j=i
    ·subst e;simpa using h
    ·exact hp j hj (by omega)
   ·conv=>whnf
    exact wkD
 ·simp only [List.length_map] at h
  have:i=(zb2 a 7).length:=by omega
  subst this
  ((try (refine Exists.intro none ?_;conv=>whnf));(with_reducible refine zaa (zi2 a b) ?_);conv=>whnf)
  refine zab rfl ?_
  have:=zz0 (p:=fun x:Conf=>decide (x=b)) fun j hj=>hp j hj hj
  simp only [nearL,ha,hb,this,Bool.true_and,Bool.false_or]
theorem zop (a:Hrd) (hm:a.log.length≤maxLen) (hb:0≤a.base) (hs:a.base+a.log.length < 9223372036854775808) (i:Int) (hi:isI i) (t:Int):Ctr Tryz.prog 198 [.ag a.enc,iv i,iv t] (bv (fits a i t)) []:=by
 refine sBody Tryz.func198 ?_;conv=>whnf
 (refine tSp (fun h=>?_) (fun h=>?_)<;>conv=>whnf)
 ·((try (refine Exists.intro none ?_;conv=>whnf));(with_reducible refine zaa (zjs a hm hb hs i hi) ?_);conv=>whnf)
  exact zab rfl (by simp [fits,h])
 ·exact zab rfl (by simp [fits,h])
abbrev hzv:List PV:=[iv 0,iv 0,iv 0,iv 0,iv 0,iv 0,iv 0,iv 0,.nl,.nl]
theorem c_twin (h:Hrd) (h1:h.snap.length≤4294967296) (h2:h.log.length≤4294967296):Ctr Tryz.prog 222 [.ag h.enc] (.ag (h.own 0)) h.obs:=by
 refine sBody Tryz.func222 ?_;conv=>whnf
 ((try (refine Exists.intro none ?_;conv=>whnf));(with_reducible refine zaa (zdq h.snap h1) ?_);conv=>whnf)
 (refine Exists.intro _ (And.intro rfl (And.intro (by intro q hq;first | (cases hq;done) | (simp only [List.mem_cons,List.not_mem_nil,or_false] at hq;rcases hq with rfl | rfl<;>(simp only [List.length_cons,List.length_nil];omega)) | (simp only [List.mem_cons,List.not_mem_nil,or_false] at hq;subst hq;simp only [List.length_cons,List.length_nil];omega)) (And.intro (by intro i hi;simp only [List.length_cons,List.length_nil,Nat.lt_one_iff,Nat.zero_add] at hi;subst hi;rfl) ?_)));conv=>whnf)
 ((try (refine Exists.intro none ?_;conv=>whnf));(with_reducible refine zaa (zc2 h.log h2) ?_);conv=>whnf)
 (refine Exists.intro _ (And.intro rfl (And.intro (by intro q hq;first | (cases hq;done) | (simp only [List.mem_cons,List.not_mem_nil,or_false] at hq;rcases hq with rfl | rfl<;>(simp only [List.length_cons,List.length_nil];omega)) | (simp only [List.mem_cons,List.not_mem_nil,or_false] at hq;subst hq;simp only [List.length_cons,List.length_nil];omega)) (And.intro (by intro i hi;simp only [List.length_cons,List.length_nil,Nat.lt_one_iff,Nat.zero_add] at hi;subst hi;rfl) ?_)));conv=>whnf)
 refine zbd [(0,80),(1,128)] rfl ⟨rfl,rfl,True.intro⟩ (zag ?_)
 conv=>whnf
 repeat' (first | exact rfl | ((with_reducible refine And.intro ?_ ?_)<;>(first | (with_reducible exact zaj _ rfl) | exact zbj rfl rfl rfl | (conv=>whnf))))
def putM:List Ent→List Ent→List Ent
 | g,[]=>g
 | [],x :: l=>x :: l
 | y :: g,x :: l=>if y.term=x.term then y :: putM g l else x :: l
def putG (g:List Ent) (n:Nat) (l:List Ent):List Ent:=g.take n++putM (g.drop n) l
def putH (h:Hrd) (i:Int) (l:List Ent):Hrd:={ h with log:=putG h.log (i - h.base).toNat l }
def alike (g:List Ent) (n:Nat) (l:List Ent) (j:Nat):Prop:=∀ k,k < j→∃ h1:n+k < g.length,∃ h2:k < l.length,(g[n+k]'h1).term=(l[k]'h2).term
theorem zqo:∀ (g l:List Ent),(∀ k,k < l.length→∃ h1:k < g.length,∃ h2:k < l.length,(g[k]'h1).term=(l[k]'h2).term)→putM g l=g
 | g,[],_=>by cases g<;>rfl
 | [],x :: l,h=>by obtain ⟨h1,_⟩:=h 0 (by simp);simp at h1
 | y :: g,x :: l,h=>by
  obtain ⟨_,_,h0⟩:=h 0 (by simp)
  simp only [List.getElem_cons_zero] at h0
  rw [putM,if_pos h0,zqo g l]
  intro k hk
  obtain ⟨h1,h2,h3⟩:=h (k+1) (by simpa using hk)
  simp only [List.getElem_cons_succ] at h3
  exact ⟨by simpa using h1,hk,h3⟩
theorem zwc:∀ (g l:List Ent) (j:Nat),(∀ k,k < j→∃ h1:k < g.length,∃ h2:k < l.length,(g[k]'h1).term=(l[k]'h2).term)→(hj:j < l.length)→(∀ h1:j < g.length,(g[j]'h1).term ≠ (l[j]'hj).term)→putM g l=g.take j++l.drop j
 | g,[],j,_,hj,_=>by simp at hj
 | [],x :: l,0,_,_,_=>rfl
 | [],x :: l,j+1,h,_,_=>by obtain ⟨h1,_⟩:=h 0 (by omega);simp at h1
 | y :: g,x :: l,0,_,_,hn=>by
  have:=hn (by simp)
  simp only [List.getElem_cons_zero] at this
  rw [putM,if_neg this];rfl
 | y :: g,x :: l,j+1,h,hj,hn=>by
  obtain ⟨_,_,h0⟩:=h 0 (by omega)
  simp only [List.getElem_cons_zero] at h0
  rw [putM,if_pos h0,zwc g l j ?_ (by simpa using hj) ?_]
  ·rfl
  ·intro k hk
   obtain ⟨h1,h2,h3⟩:=h (k+1) (by omega)
   simp only [List.getElem_cons_succ] at h3
   exact ⟨by simpa using h1,by simpa using h2,h3⟩
  ·intro h1
   have:=hn (by simpa using h1)
   simpa using this
theorem zq5 {g l:List Ent}{n:Nat} (h:alike g n l l.length):putG g n l=g:=by
 unfold putG
 rw [zqo,List.take_append_drop]
 intro k hk
 obtain ⟨h1,h2,h3⟩:=h k hk
 exact ⟨by rw [List.length_drop];omega,h2,by rw [List.getElem_drop];exact h3⟩
theorem zpn {g l:List Ent}{n j:Nat} (h:alike g n l j) (hn:n≤g.length) (hj:j < l.length) (hd:∀ h1:n+j < g.length,(g[n+j]'h1).term ≠ (l[j]'hj).term):putG g n l=g.take (n+j)++l.drop j:=by
 unfold putG
 rw [zwc (g.drop n) l j ?_ hj ?_,← List.append_assoc]
 ·congr 1
  rw [List.take_add]
 ·intro k hk
  obtain ⟨h1,h2,h3⟩:=h k hk
  exact ⟨by rw [List.length_drop];omega,h2,by rw [List.getElem_drop];exact h3⟩
 ·intro h1
  rw [List.getElem_drop]
  exact hd (by rw [List.length_drop] at h1;omega)
noncomputable def putHE (h:Hrd) (i:Int) (l:List Ent):Int:=if hardB h=true then (if (h.base≤i∧i≤lastI h)∧rowB l (zbh h i) h.term=true then 0 else 1) else 6
theorem zt0 {h:Hrd}{i:Int}{l:List Ent} (e:putHE h i l=0):hardB h=true∧(h.base≤i∧i≤lastI h)∧rowB l (zbh h i) h.term=true:=by
 unfold putHE at e
 by_cases h1:hardB h=true
 ·rw [if_pos h1] at e
  by_cases h2:(h.base≤i∧i≤lastI h)∧rowB l (zbh h i) h.term=true
  ·exact ⟨h1,h2⟩
  ·rw [if_neg h2] at e;omega
 ·rw [if_neg h1] at e;omega
def resV (e:Int) (x:Hrd):PV:=if e=0 then .tu [.ag (x.own 0),iv 0] else .tu [.ag hzv,iv e]
def resO (e:Int) (x:Hrd):List (Nat×List (List PV)):=if e=0 then x.obs else []
def resW (e:Int) (x:Hrd):PV:=if e=0 then .tu [.ag x.enc,iv 0] else .tu [.ag hzv,iv e]
theorem zea {e:Int}{x:Hrd} (he:e=0):resV e x=.tu [.ag (x.own 0),iv 0]∧resO e x=x.obs∧resW e x=.tu [.ag x.enc,iv 0]:=by
 subst he;exact ⟨rfl,rfl,rfl⟩
theorem zc0 {e:Int}{x:Hrd} (he:¬ e=0):resV e x=.tu [.ag hzv,iv e]∧resO e x=[]∧resW e x=.tu [.ag hzv,iv e]:=by
 unfold resV resO resW
 rw [if_neg he,if_neg he,if_neg he];exact ⟨rfl,rfl,rfl⟩
theorem za9 {h:Hrd} (e:hardB h=true):HardA h∧confB h.baseConf=true∧(h.snap.length≤16384∧(0 < h.base∨h.snap.length=0))∧rowB h.log h.baseTerm h.term=true:=by
 unfold hardB at e
 simp only [Bool.and_eq_true,decide_eq_true_eq] at e
 obtain ⟨e1,e2,e3,e4⟩:=e
 refine ⟨?_,e2,e3,e4⟩
 apply Classical.byContradiction
 intro hn
 rw [zis hn] at e1;cases e1
theorem zbk {h:Hrd} (hb:0≤h.base) (hs:h.base+h.log.length < 9223372036854775808):lastI h=h.base+h.log.length:=by
 unfold lastI
 split
 ·omega
 ·exact zal (by omega) (by omega)
theorem zwn (g:List Ent) (n:Nat) (l:List Ent):alike g n l 0:=fun k hk=>absurd hk (Nat.not_lt_zero _)
theorem zk7 {g:List Ent}{n:Nat}{l:List Ent}{j:Nat} (h:alike g n l j) (h1:n+j < g.length) (h2:j < l.length) (e:(g[n+j]'h1).term=(l[j]'h2).term):alike g n l (j+1):=by
 intro k hk
 by_cases ek:k=j
 ·subst ek;exact ⟨h1,h2,e⟩
 ·exact h k (by omega)
theorem zq3 {g:List Ent}{n:Nat}{l:List Ent}{j:Nat} (h:alike g n l j) (hn:n≤g.length):n+j≤g.length:=by
 by_cases ek:j=0
 ·omega
 ·obtain ⟨h1,_⟩:=h (j - 1) (by omega);omega
set_option maxHeartbeats 4000000 in
theorem c_lPut (a : Hrd) (h1 : a.snap.length ≤ 4294967296) (h2 : a.log.length ≤ 4294967) (hb : isI a.base) (i : Int) (hi : isI i) (l : List Ent) (h3 : l.length ≤ 4294967) :
    Ctr Tryz.prog 211 [.ag a.enc,iv i,.sl 16 (l.map Ent.enc)] (resV (putHE a i l) (putH a i l)) (resO (putHE a i l) (putH a i l)):=by
 have hm:a.log.length≤maxLen:=zak (by omega)
 have hml:l.length≤maxLen:=zak (by omega)
 have hck:=zg6 a hm
 by_cases hB:hardB a=true
 ·rw [hB] at hck
  simp only [if_true] at hck
  have hA:=(za9 hB).1
  have hb0:=hA.b
  have hla:lastI a=a.base+a.log.length:=zbk hb0.1 (by omega)
  have hr:=zf8 l hml (zbh a i) a.term
  by_cases hk:(a.base≤i∧i≤lastI a)∧rowB l (zbh a i) a.term=true
  ·have e:putHE a i l=0:=by unfold putHE;rw [if_pos hB,if_pos hk]
   rw [(zea e).1,(zea e).2.1]
   rw [hk.2] at hr
   obtain ⟨⟨hk1,hk2⟩,_⟩:=hk
   generalize hn:(i - a.base).toNat=n
   have hn':i - a.base=(n:Int):=by omega
   have hnl:n≤a.log.length:=by omega
   refine sBody Tryz.func211 ?_;conv=>whnf
   ((try (refine Exists.intro none ?_;conv=>whnf));(with_reducible refine zaa (hck) ?_);conv=>whnf)
   ((try (refine Exists.intro none ?_;conv=>whnf));(with_reducible refine zaa (zd4 a hm) ?_);conv=>whnf)
   (refine tSp (fun h=>?_) (fun h=>?_)<;>conv=>whnf)
   ·exfalso;omega
   (refine tSp (fun h=>?_) (fun h=>?_)<;>conv=>whnf)
   ·exfalso;omega
   ((try (refine Exists.intro none ?_;conv=>whnf));(with_reducible refine zaa (znp a hm hb i hi) ?_);conv=>whnf)
   ((try (refine Exists.intro none ?_;conv=>whnf));(with_reducible refine zaa (hr) ?_);conv=>whnf)
   ((try (refine Exists.intro none ?_;conv=>whnf));(with_reducible refine zaa (c_twin a h1 (by omega)) ?_);conv=>whnf)
   (refine Exists.intro _ (And.intro rfl (And.intro (by intro q hq;first | (cases hq;done) | (simp only [List.mem_cons,List.not_mem_nil,or_false] at hq;rcases hq with rfl | rfl<;>(simp only [List.length_cons,List.length_nil];omega)) | (simp only [List.mem_cons,List.not_mem_nil,or_false] at hq;subst hq;simp only [List.length_cons,List.length_nil];omega)) (And.intro (by intro i hi;rcases i with _ | _ | i;rfl;rfl;exact absurd hi (by simp)) ?_)));conv=>whnf)
   refine tFor (fun j:Nat=>j≤l.length∧alike a.log n l j) (fun j=>[(49,iv j)]) (fun _=>[(3,a.own 736),(6,hzv)]) (fun _=>[(736,some (false,1,a.snap.map encB)),(737,some (false,16,a.log.map Ent.enc))]) [(736,736),(737,737)] (fun j=>l.length - j) 0 ⟨Nat.zero_le _,zwn _ _ _⟩ ?_ ?_
   ·conv=>whnf
    exact wkD
   rintro j ⟨hj,hal⟩
   have hle:=zq3 hal hnl
   conv=>whnf
   (refine tSp (fun h=>?_) (fun h=>?_)<;>conv=>whnf)
   ·simp only [List.length_map] at h
    have hlt:j < l.length:=by omega
    (first | ((with_reducible refine And.intro (by omega) (Exists.intro _ (And.intro (zbn hlt) ?_)));conv=>whnf))
    have e1:IntKind.i64.wrap (IntKind.i64.wrap (i - a.base)+(j:Int))=((n+j:Nat):Int):=by
     rw [hn',show IntKind.i64.wrap (n:Int)=(n:Int) from zal (by omega) (by omega),zal (by omega) (by omega)];omega
    rw [e1]
    (refine tSp (fun h=>?_) (fun h=>?_)<;>conv=>whnf)
    ·simp only [List.length_map] at h
     have hat:n+j < a.log.length:=by omega
     have hrow:(a.log.map Ent.enc)[0+((n+j:Nat):Int).toNat]?=some ((a.log[n+j]'hat).enc):=by
      rw [Nat.zero_add];exact zbn hat
     refine ⟨⟨by omega,by simp only [List.length_map];omega⟩,?_⟩
     conv=>whnf
     refine ⟨_,hrow,?_⟩
     conv=>whnf
     (refine tSp (fun h=>?_) (fun h=>?_)<;>conv=>whnf)
     ·refine ⟨j+1,[(736,736),(737,737)],⟨⟨by omega,zk7 hal hat hlt h⟩,by omega⟩,?_⟩
      conv=>whnf
      exact wkD
     ·have hd:∀ h1:n+j < a.log.length,(a.log[n+j]'h1).term ≠ (l[j]'hlt).term:=fun _=>h
      refine ⟨⟨by omega,by omega,by simp only [List.length_map];omega⟩,?_⟩
      conv=>whnf
      refine ⟨⟨by omega,by simp only [List.length_map];omega⟩,?_⟩
      conv=>whnf
      refine ⟨by kernel_rfl,?_⟩
      conv=>whnf
      rw [Int.toNat_natCast,Int.toNat_natCast]
      have er:List.drop j (List.take (((List.map Ent.enc l).length:Nat):Int).toNat (List.map Ent.enc l))=(l.drop j).map Ent.enc:=by rw [Int.toNat_natCast,List.take_length,List.map_drop]
      rw [er,show n+j - Int.toNat 0=n+j from rfl]
      refine ⟨⟨⟨by kernel_rfl,by rw [List.length_map];omega,small (by rw [List.length_map,List.length_drop];omega) (by kernel_rfl),zak (by rw [List.length_map,List.length_drop];omega),by intro r hr;obtain ⟨x,_,rfl⟩:=List.mem_map.1 hr;rfl⟩,by decide,rfl⟩,?_⟩
      conv=>whnf
      have ep:putH a i l={ a with log:=a.log.take (n+j)++l.drop j }:=by
       unfold putH;rw [hn,zpn hal hnl hlt hd]
      rw [ep]
      refine zbd [(0,736),(1,1328)] rfl ⟨rfl,?_,True.intro⟩ (zah ⟨zag ?_,zaj _ rfl,rfl⟩)
      ·refine zaz (by kernel_rfl) ?_
       simp only [List.map_append,List.map_take]
      conv=>whnf
      repeat' (first | exact rfl | ((with_reducible refine And.intro ?_ ?_)<;>(first | (with_reducible exact zaj _ rfl) | exact zbj rfl rfl rfl | (refine zbj rfl rfl ?_;simp only [List.map_append,List.length_append,List.length_map,List.length_take,Nat.min_eq_left hle];done) | (conv=>whnf))))
    ·simp only [List.length_map] at h
     have hat:¬ n+j < a.log.length:=by omega
     have hd:∀ h1:n+j < a.log.length,(a.log[n+j]'h1).term ≠ (l[j]'hlt).term:=fun h1=>absurd h1 hat
     refine ⟨⟨by omega,by omega,by simp only [List.length_map];omega⟩,?_⟩
     conv=>whnf
     refine ⟨⟨by omega,by simp only [List.length_map];omega⟩,?_⟩
     conv=>whnf
     refine ⟨by kernel_rfl,?_⟩
     conv=>whnf
     rw [Int.toNat_natCast,Int.toNat_natCast]
     have er:List.drop j (List.take (((List.map Ent.enc l).length:Nat):Int).toNat (List.map Ent.enc l))=(l.drop j).map Ent.enc:=by rw [Int.toNat_natCast,List.take_length,List.map_drop]
     rw [er,show n+j - Int.toNat 0=n+j from rfl]
     refine ⟨⟨⟨by kernel_rfl,by rw [List.length_map];omega,small (by rw [List.length_map,List.length_drop];omega) (by kernel_rfl),zak (by rw [List.length_map,List.length_drop];omega),by intro r hr;obtain ⟨x,_,rfl⟩:=List.mem_map.1 hr;rfl⟩,by decide,rfl⟩,?_⟩
     conv=>whnf
     have ep:putH a i l={ a with log:=a.log.take (n+j)++l.drop j }:=by
      unfold putH;rw [hn,zpn hal hnl hlt hd]
     rw [ep]
     refine zbd [(0,736),(1,1328)] rfl ⟨rfl,?_,True.intro⟩ (zah ⟨zag ?_,zaj _ rfl,rfl⟩)
     ·refine zaz (by kernel_rfl) ?_
      simp only [List.map_append,List.map_take]
     conv=>whnf
     repeat' (first | exact rfl | ((with_reducible refine And.intro ?_ ?_)<;>(first | (with_reducible exact zaj _ rfl) | exact zbj rfl rfl rfl | (refine zbj rfl rfl ?_;simp only [List.map_append,List.length_append,List.length_map,List.length_take,Nat.min_eq_left hle];done) | (conv=>whnf))))
   ·simp only [List.length_map] at h
    have ej:j=l.length:=by omega
    subst ej
    have ep:putH a i l=a:=by
     unfold putH;rw [hn,zq5 hal]
    rw [ep]
    refine zbd [(0,736),(1,737)] rfl ⟨rfl,rfl,True.intro⟩ (zah ⟨zag ?_,zaj _ rfl,rfl⟩)
    conv=>whnf
    repeat' (first | exact rfl | ((with_reducible refine And.intro ?_ ?_)<;>(first | (with_reducible exact zaj _ rfl) | exact zbj rfl rfl rfl | (conv=>whnf))))
  ·have e:putHE a i l=1:=by unfold putHE;rw [if_pos hB,if_neg hk]
   rw [e,(zc0 (by decide)).1,(zc0 (by decide)).2.1]
   refine sBody Tryz.func211 ?_;conv=>whnf
   ((try (refine Exists.intro none ?_;conv=>whnf));(with_reducible refine zaa (hck) ?_);conv=>whnf)
   ((try (refine Exists.intro none ?_;conv=>whnf));(with_reducible refine zaa (zd4 a hm) ?_);conv=>whnf)
   (refine tSp (fun h=>?_) (fun h=>?_)<;>conv=>whnf)
   ·exact zab rfl rfl
   (refine tSp (fun h=>?_) (fun h=>?_)<;>conv=>whnf)
   ·exact zab rfl rfl
   ((try (refine Exists.intro none ?_;conv=>whnf));(with_reducible refine zaa (znp a hm hb i hi) ?_);conv=>whnf)
   have hf:rowB l (zbh a i) a.term=false:=by
    cases hrb:rowB l (zbh a i) a.term with
    | false=>rfl
    | true=>exact absurd ⟨⟨by omega,by omega⟩,hrb⟩ hk
   rw [hf] at hr
   ((try (refine Exists.intro none ?_;conv=>whnf));(with_reducible refine zaa (hr) ?_);conv=>whnf)
   exact zab rfl rfl
 ·have e:putHE a i l=6:=by unfold putHE;rw [if_neg hB]
  rw [e,(zc0 (by decide)).1,(zc0 (by decide)).2.1]
  simp only [Bool.not_eq_true] at hB
  rw [hB] at hck
  simp only [Bool.false_eq_true,if_false] at hck
  refine sBody Tryz.func211 ?_;conv=>whnf
  ((try (refine Exists.intro none ?_;conv=>whnf));(with_reducible refine zaa (hck) ?_);conv=>whnf)
  exact zab rfl rfl
theorem zng:∀ (g l:List Ent) (k:Nat) (h:k < l.length),∃ a,(putM g l)[k]?=some a∧a.term=(l[k]'h).term
 | g,[],k,h=>by simp at h
 | [],x :: l,k,h=>⟨(x :: l)[k],by simp [putM,h],rfl⟩
 | y :: g,x :: l,k,h=>by
  by_cases e:y.term=x.term
  ·rw [putM,if_pos e]
   cases k with
   | zero=>exact ⟨y,rfl,e⟩
   | succ k =>
    obtain ⟨a,h1,h2⟩:=zng g l k (by simpa using h)
    exact ⟨a,by simpa using h1,by simpa using h2⟩
  ·rw [putM,if_neg e]
   exact ⟨(x :: l)[k],by simp [h],rfl⟩
theorem znr:∀ (g l:List Ent) (b t:Int),rowB g b t=true→rowB l b t=true→rowB (putM g l) b t=true
 | g,[],b,t,h,_=>by
  have:putM g []=g:=by cases g<;>rfl
  rw [this];exact h
 | [],x :: l,b,t,_,h=>by rw [putM];exact h
 | y :: g,x :: l,b,t,h1,h2=>by
  by_cases e:y.term=x.term
  ·rw [putM,if_pos e]
   simp only [rowB,Bool.and_eq_true] at h1 h2 ⊢
   exact ⟨h1.1,znr g l y.term t h1.2 (by rw [e];exact h2.2)⟩
  ·rw [putM,if_neg e];exact h2
theorem zod (x:Ent) (g:List Ent) (b:Int) (n:Nat):zbc (x :: g) b (n+1)=zbc g x.term n:=by
 cases n with
 | zero=>simp [zbc]
 | succ n =>
  cases g with
  | nil=>simp [zbc]
  | cons y g =>
   simp only [zbc,List.take_succ_cons,List.getLast?_cons_cons]
   cases he:(y :: List.take n g).getLast? with
   | none=>simp at he
   | some z=>rfl
theorem zd6:∀ (g k:List Ent) (b t:Int),rowB (g++k) b t=(rowB g b t && rowB k (zbc g b g.length) t)
 | [],k,b,t=>by simp [rowB,zbc]
 | x :: g,k,b,t=>by
  simp only [List.cons_append,rowB,zd6 g k,List.length_cons,zod,Bool.and_assoc]
theorem zgm (g:List Ent) (b:Int) (n:Nat) (hn:n≤g.length):zbc (g.take n) b (g.take n).length=zbc g b n:=by
 unfold zbc
 rw [List.take_length]
theorem zwa {g l:List Ent}{b t:Int}{n:Nat} (hn:n≤g.length) (h1:rowB g b t=true) (h2:rowB l (zbc g b n) t=true):rowB (putG g n l) b t=true:=by
 unfold putG
 have h:=h1
 rw [← List.take_append_drop n g,zd6,Bool.and_eq_true,zgm g b n hn] at h
 rw [zd6,Bool.and_eq_true,zgm g b n hn]
 exact ⟨h.1,znr _ _ _ _ h.2 h2⟩
theorem zjm {h:Hrd}{j:Int}{m:Nat} (e:j=h.base+1+m):entAt h j=h.log[m]?:=by
 by_cases hm:m < h.log.length
 ·rw [zen (by omega) (by omega),List.getElem?_eq_getElem hm]
  congr 2
  omega
 ·rw [zd2 (by omega),List.getElem?_eq_none (by omega)]
theorem zd1 {h:Hrd}{j:Int}{n:Nat} (e:j=h.base+n) (hn:n≤h.log.length):zbh h j=zbc h.log h.baseTerm n:=by
 unfold zbh
 cases n with
 | zero=>rw [if_pos (by omega),zei]
 | succ n =>
  rw [if_neg (by omega),zjm (m:=n) (by omega),List.getElem?_eq_getElem (by omega),zbr (by omega)]
theorem zha (g l:List Ent) {n:Nat} (hn:n≤g.length):(putG g n l).take n=g.take n:=by
 unfold putG
 rw [List.take_append_of_le_length (by simp;omega),List.take_take,Nat.min_self]
theorem zgy (g l:List Ent) {n:Nat} (hn:n≤g.length):(putG g n l).drop n=putM (g.drop n) l:=by
 unfold putG
 rw [List.drop_append_of_le_length (by simp;omega),List.drop_eq_nil_of_le (by simp;omega),List.nil_append]
theorem zhh:∀ g l:List Ent,(putM g l).length≤g.length+l.length∧l.length≤(putM g l).length
 | g,[]=>by cases g<;>simp [putM]
 | [],x :: l=>by simp [putM]
 | y :: g,x :: l=>by
  have:=zhh g l
  rw [putM]
  split<;>simp only [List.length_cons]<;>omega
theorem zv2 (g l:List Ent) {n:Nat} (hn:n≤g.length):(putG g n l).length≤g.length+l.length:=by
 have:=(zhh (g.drop n) l).1
 unfold putG
 rw [List.length_append,List.length_take]
 rw [List.length_drop] at this
 omega
structure PutOk (h:Hrd) (i:Int) (l:List Ent) (n:Nat):Prop where
 hard:hardB h=true
 at':i=h.base+n
 le:n≤h.log.length
 row:rowB l (zbc h.log h.baseTerm n) h.term=true
theorem putOk {h:Hrd}{i:Int}{l:List Ent} (e:putHE h i l=0) (hl:h.log.length≤4294967):∃ n,PutOk h i l n:=by
 obtain ⟨h1,h2,h3⟩:=zt0 e
 have hA:=(za9 h1).1
 have:=hA.b
 rw [zbk this.1 (by omega)] at h2
 refine ⟨(i - h.base).toNat,h1,by omega,by omega,?_⟩
 rw [← zd1 (h:=h) (j:=i) (by omega) (by omega)]
 exact h3
theorem PutOk.e {h:Hrd}{i:Int}{l:List Ent}{n:Nat} (k:PutOk h i l n) (hl:h.log.length≤4294967):putHE h i l=0:=by
 have hA:=(za9 k.hard).1
 have:=hA.b
 have:=k.at'
 have:=k.le
 unfold putHE
 rw [if_pos k.hard,if_pos]
 refine ⟨?_,?_⟩
 ·rw [zbk (by omega) (by omega)];omega
 ·rw [zd1 k.at' k.le];exact k.row
theorem PutOk.log {h:Hrd}{i:Int}{l:List Ent}{n:Nat} (k:PutOk h i l n):putH h i l={ h with log:=putG h.log n l }:=by
 have:=k.at'
 unfold putH
 rw [show (i - h.base).toNat=n by omega]
theorem zm8 {h:Hrd} (e:hardB h=true) {g:List Ent} (hg:rowB g h.baseTerm h.term=true):hardB { h with log:=g }=true:=by
 obtain ⟨hA,h2,h3,_⟩:=za9 e
 unfold hardB
 rw [zec (show HardA { h with log:=g } from ⟨hA.t,hA.v,hA.b,hA.bt,hA.z⟩)]
 simp only [h2,hg,h3,Bool.and_true,Bool.true_and,decide_eq_true_eq]
 simp
theorem PutOk.right {h:Hrd}{i:Int}{l:List Ent}{n:Nat} (k:PutOk h i l n):hardB (putH h i l)=true:=by
 rw [k.log]
 exact zm8 k.hard (zwa k.le (za9 k.hard).2.2.2 k.row)
theorem zyt (g:List Ent):putM g []=g:=by cases g<;>rfl
theorem zg2 (l:List Ent):putM [] l=l:=by cases l<;>rfl
theorem zkr:∀ (g l:List Ent) (k:Nat),k≤l.length→(putM g (l.take k)).take k++putM ((putM g (l.take k)).drop k) (l.drop k)=putM g l
 | g,l,0,_=>by simp [zyt]
 | g,[],k+1,h=>by simp at h
 | [],x :: l,k+1,h=>by
  have h':k≤l.length:=by simpa using h
  have h1:((x :: l).take (k+1)).length=k+1:=by simp;omega
  rw [zg2,zg2,List.take_take,Nat.min_self,List.drop_eq_nil_of_le (by omega),zg2,List.take_append_drop]
 | y :: g,x :: l,k+1,h=>by
  have h':k≤l.length:=by simpa using h
  by_cases e:y.term=x.term
  ·rw [List.take_succ_cons,putM,if_pos e,List.take_succ_cons,List.drop_succ_cons,List.drop_succ_cons,List.cons_append,zkr g l k h',putM,if_pos e]
  ·have h1:(x :: l.take k).length=k+1:=by simp;omega
   rw [List.take_succ_cons,putM,if_neg e,List.take_of_length_le (by omega),List.drop_eq_nil_of_le (by omega),zg2,List.drop_succ_cons,List.cons_append,List.take_append_drop,putM,if_neg e]
theorem zs5 {g l:List Ent}{n k:Nat} (hn:n≤g.length) (hk:k≤l.length):putG (putG g n (l.take k)) (n+k) (l.drop k)=putG g n l:=by
 have h1:(g.take n).length=n:=by simp;omega
 show (putG g n (l.take k)).take (n+k)++putM ((putG g n (l.take k)).drop (n+k)) (l.drop k)=g.take n++putM (g.drop n) l
 rw [← zkr (g.drop n) l k hk,List.take_add,zha g _ hn,zgy g _ hn,List.append_assoc,← List.drop_drop,zgy g _ hn]
theorem zsx {g l:List Ent}{b:Int}{n k:Nat} (hn:n≤g.length) (hk:k≤l.length):zbc (putG g n (l.take k)) b (n+k)=zbc (l.take k) (zbc g b n) (l.take k).length:=by
 have hl:(l.take k).length=k:=by simp;omega
 rw [hl]
 cases k with
 | zero =>
  rw [Nat.add_zero,zei]
  unfold zbc
  rw [zha g _ hn]
 | succ k =>
  have h3:=(zhh (g.drop n) (l.take (k+1))).2
  have h4:n+k < (putG g n (l.take (k+1))).length:=by
   unfold putG
   rw [List.length_append,List.length_take];omega
  rw [show n+(k+1)=n+k+1 from rfl,zbr h4,zbr (by omega)]
  obtain ⟨a,h5,h6⟩:=zng (g.drop n) (l.take (k+1)) k (by omega)
  rw [← h6]
  have h7:(putG g n (l.take (k+1)))[n+k]?=some a:=by
   rw [← List.getElem?_drop,zgy g _ hn,h5]
  rw [List.getElem?_eq_getElem h4,Option.some.injEq] at h7
  rw [h7]
theorem zkf {l:List Ent}{b t:Int} (h:rowB l b t=true) (k:Nat):rowB (l.take k) b t=true∧rowB (l.drop k) (zbc (l.take k) b (l.take k).length) t=true:=by
 rw [← List.take_append_drop k l,zd6,Bool.and_eq_true] at h
 exact h
theorem PutOk.part {h:Hrd}{i:Int}{l:List Ent}{n k:Nat} (o:PutOk h i l n) (hk:k≤l.length):PutOk h i (l.take k) n∧PutOk (putH h i (l.take k)) (i+k) (l.drop k) (n+k)∧putH (putH h i (l.take k)) (i+k) (l.drop k)=putH h i l:=by
 obtain ⟨r1,r2⟩:=zkf o.row k
 have o1:PutOk h i (l.take k) n:=⟨o.hard,o.at',o.le,r1⟩
 have hr:=o1.right
 have hlog:=o1.log
 have ha:=o.at'
 have h3:=(zhh (h.log.drop n) (l.take k)).2
 have h4:(l.take k).length=k:=by simp;omega
 have h5:n+k≤(putG h.log n (l.take k)).length:=by
  have:=o.le
  unfold putG
  rw [List.length_append,List.length_take];omega
 have o2:PutOk (putH h i (l.take k)) (i+k) (l.drop k) (n+k):=⟨hr,by show i+k=h.base+((n+k:Nat):Int);omega,by rw [hlog];exact h5,by
  rw [hlog]
  show rowB (l.drop k) (zbc (putG h.log n (l.take k)) h.baseTerm (n+k)) h.term=true
  rw [zsx o.le hk];exact r2⟩
 refine ⟨o1,o2,?_⟩
 rw [o2.log,o.log,hlog]
 simp only [zs5 o.le hk]
def fromL (h:Hrd) (i m:Int):List Ent:=if h.base < i∧1≤m then (h.log.drop (i - h.base - 1).toNat).take m.toNat else []
theorem zsw {h:Hrd}{i m:Int} (he:entAt h i=none):fromL h i m=[]:=by
 unfold fromL
 split
 ·rename_i hc
  by_cases h2:i - h.base≤h.log.length
  ·rw [zen hc.1 h2] at he;cases he
  ·rw [List.drop_eq_nil_of_le (by omega),List.take_nil]
 ·rfl
theorem zwu {h:Hrd}{i m:Int} (hm:m < 1):fromL h i m=[]:=by
 unfold fromL;rw [if_neg (by omega)]
theorem zmo {h:Hrd}{i:Int}{x:Ent} (he:entAt h i=some x):h.base < i∧i - h.base≤h.log.length:=by
 unfold entAt at he
 split at he
 ·assumption
 ·cases he
set_option maxHeartbeats 1000000 in
theorem c_lFrom (a:Hrd) (hl:a.log.length≤4294967296) (hb:isI a.base) (i:Int) (hi:isI i) (m:Int):Ctr Tryz.prog 205 [.ag a.enc,iv i,iv m] (.ow 0 0 ((fromL a i m).map Ent.enc).length) [(16,(fromL a i m).map Ent.enc)]:=by
 have c0:=zxc a (zak hl) hb i hi
 unfold isI at hb hi
 refine sBody Tryz.func205 ?_;conv=>whnf
 ((try (refine Exists.intro none ?_;conv=>whnf));(with_reducible refine zaa (c0) ?_);conv=>whnf)
 cases he:entAt a i with
 | none =>
  conv=>whnf
  rw [zsw he]
  exact zfr 16
 | some x =>
  conv=>whnf
  (refine tSp (fun h=>?_) (fun h=>?_)<;>conv=>whnf)
  ·rw [zwu h]
   exact zfr 16
  obtain ⟨h1,h2⟩:=zmo he
  obtain ⟨q,hq,hql⟩:∃ q:Nat,i - a.base - 1=q∧q≤a.log.length:=⟨(i - a.base - 1).toNat,by omega,by omega⟩
  have e1:IntKind.i64.wrap (IntKind.i64.wrap (i - a.base) - 1)=(q:Int):=by
   rw [show IntKind.i64.wrap (i - a.base)=i - a.base from zal (by omega) (by omega),zal (by omega) (by omega),hq]
  rw [e1]
  refine ⟨⟨by omega,by rw [List.length_map];omega⟩,?_⟩
  conv=>whnf
  have e2:List.drop (q:Int).toNat (List.take (((a.log.map Ent.enc).length:Nat):Int).toNat (a.log.map Ent.enc))=(a.log.drop q).map Ent.enc:=by rw [Int.toNat_natCast,Int.toNat_natCast,List.take_length,List.map_drop]
  rw [e2]
  have e3:fromL a i m=(a.log.drop q).take m.toNat:=by
   unfold fromL;rw [if_pos ⟨h1,by omega⟩,hq,Int.toNat_natCast]
  rw [e3]
  generalize hD:a.log.drop q=D
  have hDl:D.length≤4294967296:=by rw [← hD,List.length_drop];omega
  obtain ⟨r,hr,hrt,hrl⟩:∃ r:Nat,(if (((D.map Ent.enc).length:Nat):Int) < m then (((D.map Ent.enc).length:Nat):Int) else m)=(r:Int)∧D.take m.toNat=D.take r∧r≤D.length:=by
   rw [List.length_map]
   by_cases hc:(D.length:Int) < m
   ·refine ⟨D.length,by rw [if_pos hc],?_,Nat.le_refl _⟩
    rw [List.take_length,List.take_of_length_le (by omega)]
   ·exact ⟨m.toNat,by rw [if_neg hc];omega,rfl,by omega⟩
  rw [hr,hrt]
  refine ⟨⟨by omega,by omega,by rw [List.length_map];omega⟩,?_⟩
  conv=>whnf
  refine Exists.intro none ?_
  conv=>whnf
  have e4:List.drop (Int.toNat 0) (List.take (r:Int).toNat (D.map Ent.enc))=(D.take r).map Ent.enc:=by rw [Int.toNat_natCast,List.map_take];rfl
  rw [e4]
  have c1:=zc2 (D.take r) (by rw [List.length_take];omega)
  ((try (refine Exists.intro none ?_;conv=>whnf));(with_reducible refine zaa (c1) ?_);conv=>whnf)
  (refine Exists.intro _ (And.intro rfl (And.intro (by intro q hq;first | (cases hq;done) | (simp only [List.mem_cons,List.not_mem_nil,or_false] at hq;rcases hq with rfl | rfl<;>(simp only [List.length_cons,List.length_nil];omega)) | (simp only [List.mem_cons,List.not_mem_nil,or_false] at hq;subst hq;simp only [List.length_cons,List.length_nil];omega)) (And.intro (by intro i hi;simp only [List.length_cons,List.length_nil,Nat.lt_one_iff,Nat.zero_add] at hi;subst hi;rfl) ?_)));conv=>whnf)
  exact zbd [(0,576)] rfl ⟨rfl,True.intro⟩ (zbj rfl rfl rfl)
theorem zyc (a:Hrd) (hl:a.log.length≤4294967296) (hb:isI a.base) (i:Int) (hi:isI i) (m:Int):Ctr Tryz.prog 205 [.ag a.enc,iv i,iv m] (.sl 16 ((fromL a i m).map Ent.enc)) [] :=
 (c_lFrom a hl hb i hi m).frz (zbw (.head _) rfl)
theorem zzi {h:Hrd}{i m:Int} (hi:h.base < i) (hm:0≤m):fromL h i m=(h.log.drop (i - h.base - 1).toNat).take m.toNat:=by
 unfold fromL
 by_cases h1:1≤m
 ·rw [if_pos ⟨hi,h1⟩]
 ·rw [if_neg (by omega),show m.toNat=0 by omega];rfl
end Go.Proofs
