import Derived.Test.YtbhfokahocgndabGreatR6
import Derived.Test.YtbhfokahocgndabGreatU17
import Derived.Test.YtbhfokahocgndabGreatC12
import Derived.Test.YtbhfokahocgndabGreatPvQ3
import Derived.Test.YtbhfokahocgndabGreatW11
import Derived.Test.YtbhfokahocgndabGreatH8
import Derived.Test.YtbhfokahocgndabGreatU5
import Derived.Test.YtbhfokahocgndabGreatS13
import Derived.Test.YtbhfokahocgndabGreatR3
/- Plain law of safety: messages that are taken, acts. -/
set_option linter.unusedSimpArgs false
set_option linter.unusedVariables false
set_option maxHeartbeats 64000000
namespace Go.Proofs
open Go.Pv
set_option maxRecDepth 100000
theorem zry {m:Mg} (h:0≤m.frm∧m.frm < 7):((m.frm.toNat:Nat):Int)=m.frm:=Int.toNat_of_nonneg h.1
theorem tb_vt {x:Rft}{m:Mg} (hf:0≤m.frm∧m.frm < 7) {i:Nat} (h:tb (bor x.votes (shl 1 m.frm)) i=true):tb x.votes i=true∨i=m.frm.toNat:=by
 rw [tb_or,Bool.or_eq_true] at h
 rcases h with h | h
 ·exact .inl h
 ·have e:tb (shl 1 ((m.frm.toNat:Nat):Int)) i=true:=by rw [zry hf];exact h
  rw [ze1 _ _ (by omega),decide_eq_true_eq] at e
  exact .inr e.symm
theorem nx_k4 {B : Nat} {n : Nat} {H : Hist} {N : Nat → Nd} (I : GI H N) {v : Nat} (hv : v < 7) {x : Rft} (hp : Rp n v x) (hn : n ≤ 199) {G : List Ent} {b : Nat} (hN : N v = ndR x G) (k : HG H.c0 x.hard b G) {m : Mg} (hf : 0 ≤ m.frm ∧ m.frm < 7) (hkd : m.kind = 4) (hy : m.yes = true)
    (ht:x.hard.term=m.term) (hto:m.to=x.id) (hF:MF H B m) (hbB:b≤B:=by assumption):NX H B N v (k4R x m) (k4O x m):=by
 unfold k4R k4O
 by_cases h1:x.role=2
 ·rw [if_pos h1,if_pos h1]
  obtain ⟨D,hD⟩:=hF.vtd hkd hy
  rw [hto,hp.id,Int.toNat_natCast,← ht] at hD
  have I1:GI H (upd N v (ndR (vtR x m) G)):=z16 I hv (by rw [hN];exact h1) (by rw [hN];rfl) (by rw [hN];rfl) (by rw [hN];rfl) h1 (by rw [hN];rfl) (fun i hi e=>by
   rcases tb_vt (x:=x) hf e with e | e
   ·exact .inl (by rw [hN];exact e)
   ·refine .inr ⟨D,?_⟩
    rw [e]
    exact hD)
  have hvt:=vt_rp hp hf
  by_cases hq:zak (zab (vtR x m)) (vtR x m).votes=true
  ·rw [if_pos hq,if_pos hq]
   exact NX.trans (Grows.refl H) (zxm I1 hv hvt hn (zbf ..) k h1 hq)
  ·rw [if_neg hq,if_neg hq]
   exact ⟨H,G,Grows.refl H,I1,⟨b,hbB,k⟩,zaw⟩
 ·rw [if_neg h1,if_neg h1]
  exact zck I hN k zaw
theorem nx_k2 {B:Nat}{n:Nat}{H:Hist}{N:Nat→Nd} (I:GI H N) {v:Nat} (hv:v < 7) {x:Rft} (hp:Rp n v x) (hn:n≤199) {G:List Ent}{b:Nat} (hN:N v=ndR x G) (k:HG H.c0 x.hard b G) {m:Mg} (hf:0≤m.frm∧m.frm < 7) (hbB:b≤B:=by assumption):NX H B N v (k2R x m) (k2O x m):=by
 unfold k2R k2O
 by_cases h1:x.role=1
 ·rw [if_pos h1,if_pos h1]
  by_cases h2:m.term=x.hard.term+1
  ·rw [if_pos h2,if_pos h2]
   have I1:GI H (upd N v (ndR (vtR x m) G)):=gi_wk I hv hN (Int.le_refl _) (Int.le_refl _) (fun _=>rfl) ⟨by show ¬ x.role=2;omega,by show ¬ x.role=3;omega⟩
   by_cases hq:zak (zab (vtR x m)) (vtR x m).votes=true
   ·rw [if_pos hq,if_pos hq]
    exact NX.trans (Grows.refl H) (zoj I1 hv (vt_rp hp hf) hn (show x.reads=[] from zfj hp.rgt (by omega)) (zbf ..) k)
   ·rw [if_neg hq,if_neg hq]
    exact ⟨H,G,Grows.refl H,I1,⟨b,hbB,k⟩,zaw⟩
  ·rw [if_neg h2,if_neg h2]
   exact zck I hN k zaw
 ·rw [if_neg h1,if_neg h1]
  exact zck I hN k zaw
theorem nx_k3 {B : Nat} {n : Nat} {H : Hist} {N : Nat → Nd} (I : GI H N) {v : Nat} (hv : v < 7) {x : Rft} (hp : Rp n v x) (hn : n ≤ 199) {G : List Ent} {b : Nat} (hN : N v = ndR x G) (k : HG H.c0 x.hard b G) {m : Mg} (hf : 0 ≤ m.frm ∧ m.frm < 7) (hkd : m.kind = 3) (hF : MF H B m) (hbB : b ≤ B := by assumption) :
    NX H B N v (k3R x m) (k3O x m):=by
 obtain ⟨hs,hb⟩:=zlc hp (by omega) k
 unfold k3R k3O
 by_cases hvo:voted x m=true
 ·rw [if_pos hvo,if_pos hvo]
  unfold voted at hvo
  simp only [Bool.and_eq_true,Bool.or_eq_true,beq_iff_eq] at hvo
  obtain ⟨a1,a2,a3⟩:=hvo
  obtain ⟨D,d1,d2,d3⟩:=hF.vote hkd
  unfold newer at a3
  simp only [Bool.and_eq_true,Bool.or_eq_true,beq_iff_eq,decide_eq_true_eq] at a3
  rw [k.lastT,k.last (by omega),d2,d3] at a3
  have eH:(fallR (vdR x m) x.hard.term (-1)).hard=(vdR x m).hard:=zet (vdR x m) (-1)
  obtain ⟨H1, g1, I1, e1⟩ := gi_vote I hv (c := m.frm.toNat) (D := D) (d := ndR (fallR (vdR x m) x.hard.term (-1)) G) (by rw [hN]; show H.VD _ x.hard.term _ D; rw [← a1]; exact d1) (by rw [hN, zry hf]; exact a2) (by
      rw [hN]
      show za1 G < za1 D∨(za1 G=za1 D∧G.length≤D.length)
      rcases a3 with a3 | a3
      ·exact .inl a3
      ·exact .inr ⟨a3.1.symm,by omega⟩) (by rw [hN];rfl) (by rw [hN];show (fallR (vdR x m) x.hard.term (-1)).hard.term=_;rw [eH];rfl) (by show (fallR (vdR x m) x.hard.term (-1)).hard.vote=_;rw [eH,zry hf]) ⟨by show ¬ (0:Int)=2;decide,by show ¬ (0:Int)=3;decide⟩ (by rw [hN];exact Nat.le_refl _)
  refine ⟨H1,G,g1,I1,⟨b,hbB,by rw [eH];exact ⟨k.base,k.le,k.log,k.bt,k.bc⟩⟩,?_⟩
  refine zib ⟨4,(fallR (vdR x m) x.hard.term (-1)).id,m.frm,(fallR (vdR x m) x.hard.term (-1)).hard.term,0,0,0,0,true,cz,.no⟩ ⟨fun e=>absurd e (by show ¬ (4:Int)=3;decide),fun _ _=>⟨D,?_⟩,fun e=>absurd e (by show ¬ (4:Int)=5;decide),fun e=>absurd e (by show ¬ (4:Int)=6;decide),fun e=>absurd e (by show ¬ (4:Int)=7;decide)⟩
  show H1.VD x.id.toNat (fallR (vdR x m) x.hard.term (-1)).hard.term m.frm.toNat D
  rw [hp.id,Int.toNat_natCast]
  exact e1
 ·rw [if_neg hvo,if_neg hvo]
  exact zck I hN k (zen ⟨4,x.id,m.frm,x.hard.term,0,0,0,0,false,cz,.no⟩ (.inr (.inr (.inr ⟨.inl rfl,rfl⟩))))
theorem nx_k8 {B:Nat}{n:Nat}{H:Hist}{N:Nat→Nd} (I:GI H N) {v:Nat} (hv:v < 7) {x:Rft} (hp:Rp n v x) (hn:n≤199) {G:List Ent}{b:Nat} (hN:N v=ndR x G) (k:HG H.c0 x.hard b G) {m:Mg} (hne:m.frm ≠ x.id) (hbB:b≤B:=by assumption):NX H B N v (k8R x m) (k8O x m):=by
 unfold k8R k8O
 by_cases h1:zbx x=true
 ·rw [if_pos h1,if_pos h1]
  by_cases h2:x.lead=m.frm
  ·rw [if_pos h2,if_pos h2]
   exact zoj I hv hp hn (zfj hp.rgt fun e=>hne (by rw [← h2];exact hp.rgt.own e)) hN k
  ·rw [if_neg h2,if_neg h2]
   exact zck I hN k zaw
 ·rw [if_neg h1,if_neg h1]
  exact zck I hN k zaw
theorem nx_app {B : Nat} {n : Nat} {H : Hist} {N : Nat → Nd} (I : GI H N) {v : Nat} (hv : v < 7) {x : Rft} (hp : Rp n v x) (hn : n ≤ 199) {G : List Ent} {b : Nat} (hN : N v = ndR x G) (k : HG H.c0 x.hard b G) {m : Mg} (hkd : m.kind = 5) (ht : x.hard.term = m.term) (hF : MF H B m) (he : appE x m = 0) (hbB : b ≤ B := by assumption) :
    NX H B N v (appR x m) (appO x m):=by
 unfold appE at he
 unfold appR appO
 by_cases h3:x.role=3
 ·rw [if_pos h3,if_pos h3]
  exact zck I hN k zaw
 ·rw [if_neg h3] at he
  rw [if_neg h3,if_neg h3,if_pos he,if_pos he]
  obtain ⟨hs,hb⟩:=zlc hp (by omega) k
  obtain ⟨p,e1,lp,jc,jc0⟩:=hF.app hkd
  rw [← ht] at lp jc
  have ni:=I.nd v hv
  rw [hN] at ni
  have hbase:=k.base
  have hsum:=k.sum
  have hcb:=hp.rgt.com.1
  have jx:JG H x.hard.term G x.commit.toNat:=ni.com
  have jb:G.take b=(H.LL x.hard.term).take b:=(jx.le (by omega)).lead I.st lp.ne
  have hbL:b≤(H.LL x.hard.term).length:=zej jb.symm k.le
  have l1:=lp.ne
  have l2:=lp.le
  have l3:=lp.es
  have l4:=lp.lt
  have lm:LM H (H.LL x.hard.term):=I.st.llm _
  have hq:∃ (q:Nat) (l:List Ent),gP x.hard m=q∧b≤q∧q+l.length≤(H.LL x.hard.term).length∧gL x.hard m=l∧l=((H.LL x.hard.term).drop q).take l.length∧gT x.hard m=za1 ((H.LL x.hard.term).take q):=by
   unfold gP gT gL
   by_cases hi:m.index < x.hard.base
   ·rw [if_pos hi,if_pos hi]
    refine ⟨b,m.entries.drop (x.hard.base - m.index).toNat,hbase,Nat.le_refl _,?_,rfl,?_,?_⟩
    ·rw [List.length_drop];omega
    ·rw [List.length_drop]
     have e:(x.hard.base - m.index).toNat=b - p:=by omega
     have e2:((H.LL x.hard.term).drop p).drop (b - p)=(H.LL x.hard.term).drop b:=by
      rw [List.drop_drop];congr 1;omega
     rw [e]
     conv=>lhs;rw [l3]
     rw [List.drop_take,e2]
    ·rw [k.bt,jb]
   ·rw [if_neg hi,if_neg hi]
    exact ⟨p,m.entries,e1,by omega,l2,by rw [show (x.hard.base - m.index).toNat=0 by omega];rfl,l3,l4⟩
  obtain ⟨q,l,eq,hbq,hql,eL,hl,eT⟩:=hq
  have eH:∀ (h:Hrd) (c:Int),(folR (setH x h c) m).hard=h:=fun h c=>zet (setH x h c) m.frm
  cases hf:fits x.hard (gP x.hard m) (gT x.hard m) with
  | false =>
   have eo:growO x.hard x.commit m=⟨x.hard,x.commit,false,emax (emin (lastI x.hard) (gP x.hard m - 1)) x.hard.base⟩:=if_neg (by rw [hf];decide)
   rw [eo]
   exact zrv I hv (R:=folR (setH x x.hard x.commit) m) hN (by rw [eH];exact k) (by rw [eH];exact Int.le_refl _) (Int.le_refl _) (fun _=>by rw [eH]) ⟨by show ¬ (0:Int)=2;decide,by show ¬ (0:Int)=3;decide⟩
    (zen ⟨6,_,m.frm,_,_,0,0,m.round,false,cz,.no⟩ (.inr (.inr (.inr ⟨.inr rfl,rfl⟩))))
  | true =>
   have eo:growO x.hard x.commit m=⟨putH x.hard (gP x.hard m) (gL x.hard m),emax x.commit (emin m.commit (gP x.hard m+(gL x.hard m).length)),true,gP x.hard m+(gL x.hard m).length⟩:=if_pos hf
   rw [eo]
   obtain ⟨f1,f2⟩:=zo8 hf
   have hqG:q≤G.length:=by
    by_cases e:q=b
    ·have:=k.le;omega
    ·have:=ziw f1 hf (by omega)
     omega
   rw [eq,eL] at *
   have e5:za1 (G.take q)=za1 ((H.LL x.hard.term).take q):=by
    rw [← k.term (i:=(q:Int)) rfl hbq hqG,f2,eT]
   have e6:G.take q=(H.LL x.hard.term).take q:=by
    by_cases e:q=0
    ·rw [e];rfl
    ·obtain ⟨y,hy⟩:=zdj (A:=G) (i:=q - 1) (by omega)
     obtain ⟨z,hz⟩:=zdj (A:=H.LL x.hard.term) (i:=q - 1) (by omega)
     have ey:=zc8 hy
     have ez:=zc8 hz
     rw [show q - 1+1=q by omega] at ey ez
     have:=LM.match ni.lm lm (q - 1) y z hy hz (by omega)
     rwa [show q - 1+1=q by omega] at this
   have hput:=k.put (n:=q - b) (by omega) l
   rw [show b+(q - b)=q by omega] at hput
   have m1:LM H G:=ni.lm
   have halt:=ztb (LM.match m1 lm) l.length q e6 hqG hql
   rw [← hl] at halt
   generalize hG':G.take q++putM (G.drop q) l=G' at *
   have ep:putH x.hard (q:Int) l={ x.hard with log:=putG x.hard.log (q - b) l }:=by
    unfold putH
    rw [show ((q:Int) - x.hard.base).toNat=q - b by omega]
   have hcm:(emax x.commit (emin m.commit ((q:Int)+l.length))).toNat≤x.commit.toNat∨((emax x.commit (emin m.commit ((q:Int)+l.length))).toNat≤q+l.length∧(emax x.commit (emin m.commit ((q:Int)+l.length))).toNat≤m.commit.toNat):=by
    simp only [z0e,zk1]
    omega
   generalize emax x.commit (emin m.commit ((q:Int)+l.length))=c' at *
   rw [ep]
   generalize hh:({ x.hard with log:=putG x.hard.log (q - b) l }:Hrd)=h' at *
   have ht':h'.term=x.hard.term:=by rw [← hh]
   have hv':h'.vote=x.hard.vote:=by rw [← hh]
   obtain ⟨H1, g1, I1, ak⟩ := zkb I hv (n := q + l.length) (d := ndR (folR (setH x h' c') m) G') (by rw [hN]; exact l1) (by rw [hN]; exact hql) (by
       rw [hN]
       rcases halt with ⟨a1,a2⟩ | ⟨a1,a2⟩
       ·exact .inl ⟨a1,a2⟩
       ·exact .inr ⟨a1,a2⟩) (by rw [hN];show (folR (setH x h' c') m).hard.term=_;rw [eH];exact ht') (by rw [hN];show (folR (setH x h' c') m).hard.vote=_;rw [eH];exact hv') ⟨by show ¬ (0:Int)=2;decide,by show ¬ (0:Int)=3;decide⟩ (by
       rw [hN]
       show c'.toNat≤x.commit.toNat∨(c'.toNat≤q+l.length∧JG H x.hard.term (H.LL x.hard.term) c'.toNat)
       rcases hcm with a | ⟨a1,a2⟩
       ·exact .inl a
       ·exact .inr ⟨a1,jc.le a2⟩)
   refine ⟨H1,G',g1,I1,⟨b,hbB,by rw [eH];exact hput⟩,zib ⟨6,(folR (setH x h' c') m).id,m.frm,(folR (setH x h' c') m).hard.term,(q:Int)+l.length,0,0,m.round,true,cz,.no⟩ ⟨fun e=>absurd e (by show ¬ (6:Int)=3;decide),fun e=>absurd e (by show ¬ (6:Int)=4;decide),fun e=>absurd e (by show ¬ (6:Int)=5;decide),fun _ _ j hj=>?_,fun e=>absurd e (by show ¬ (6:Int)=7;decide)⟩⟩
   have hj:(j:Int)≤(q:Int)+l.length:=hj
   show H1.AK x.id.toNat (folR (setH x h' c') m).hard.term j
   rw [hp.id,Int.toNat_natCast]
   exact ak j (by omega)
theorem nx_ins {B : Nat} {n : Nat} {H : Hist} {N : Nat → Nd} (I : GI H N) {v : Nat} (hv : v < 7) {x : Rft} (hp : Rp n v x) (hn : n ≤ 199) {G : List Ent} {b : Nat} (hN : N v = ndR x G) (k : HG H.c0 x.hard b G) {m : Mg} (hkd : m.kind = 7) (ht : x.hard.term = m.term) (hF : MF H B m) (he : insE x m = 0) (hbB : b ≤ B := by assumption) :
    NX H B N v (insR x m) (insO x m):=by
 unfold insE at he
 unfold insR insO
 by_cases h3:x.role=3
 ·rw [if_pos h3,if_pos h3]
  exact zck I hN k zaw
 ·rw [if_neg h3] at he
  rw [if_neg h3,if_neg h3]
  obtain ⟨hs,hb⟩:=zlc hp (by omega) k
  obtain ⟨i,e1,hiB,lp,hcf,ji⟩:=hF.snp hkd
  rw [← ht] at lp hcf ji
  have ni:=I.nd v hv
  rw [hN] at ni
  have hbase:=k.base
  have hcb:=hp.rgt.com.1
  have jx:JG H x.hard.term G x.commit.toNat:=ni.com
  have l1:=lp.ne
  have l2:=lp.le0
  have lm:LM H (H.LL x.hard.term):=I.st.llm _
  have eH:∀ (h:Hrd) (c:Int),(folR (setH x h c) m).hard=h:=fun h c=>zet (setH x h c) m.frm
  have row:∀ (H1:Hist) (R:Rft) (j0:Int),R.id=x.id→(∀ j:Nat,(j:Int)≤j0→H1.AK v (folR R m).hard.term j)→RowsF H1 B [folM R m j0 true]:=fun H1 R j0 hR ha =>
   zib ⟨6,(folR R m).id,m.frm,(folR R m).hard.term,j0,0,0,m.round,true,cz,.no⟩ ⟨fun e=>absurd e (by show ¬ (6:Int)=3;decide),fun e=>absurd e (by show ¬ (6:Int)=4;decide),fun e=>absurd e (by show ¬ (6:Int)=5;decide),fun _ _ j hj=>by
    show H1.AK R.id.toNat (folR R m).hard.term j
    rw [hR,hp.id,Int.toNat_natCast]
    exact ha j hj,fun e=>absurd e (by show ¬ (6:Int)=7;decide)⟩
  by_cases h4:x.commit < m.index
  ·rw [if_pos h4] at he
   rw [if_pos h4,if_pos h4,if_pos he,if_pos he]
   have hi1:1≤i:=by omega
   obtain ⟨z,hz⟩:=zdj (A:=H.LL x.hard.term) (i:=i - 1) (by omega)
   have ez:=zc8 hz
   rw [show i - 1+1=i by omega] at ez
   have hpos:=I.st.pos (lm.led hz)
   obtain ⟨G',kg,alt⟩:=k.inst (LM.match ni.lm lm) hi1 l2 (by omega) (s:=m.snap) (by omega) (by omega)
   have eI:insHH x m=instH x.hard i (za1 ((H.LL x.hard.term).take i)) (cfL H.c0 ((H.LL x.hard.term).take i)) m.snap:=by
    show instH x.hard m.index m.logTerm m.conf m.snap=_
    rw [e1,lp.lt,hcf]
   rw [← eI] at kg
   have ht':(insHH x m).term=x.hard.term:=rfl
   have hv':(insHH x m).vote=x.hard.vote:=rfl
   generalize insHH x m=h' at *
   obtain ⟨H1,g1,I1,ak⟩:=zkb I hv (n:=i) (d:=ndR (folR (setH x h' m.index) m) G') (by rw [hN];exact l1) (by rw [hN];exact l2) (by rw [hN];exact alt) (by rw [hN];show (folR (setH x h' m.index) m).hard.term=_;rw [eH];exact ht') (by rw [hN];show (folR (setH x h' m.index) m).hard.vote=_;rw [eH];exact hv')
    ⟨by show ¬ (0:Int)=2;decide,by show ¬ (0:Int)=3;decide⟩ (by
     rw [hN]
     refine .inr ⟨?_,?_⟩
     ·show m.index.toNat≤i;omega
     ·show JG H x.hard.term (H.LL x.hard.term) m.index.toNat
      rw [show m.index.toNat=i by omega];exact ji)
   exact ⟨H1,G',g1,I1,⟨i,hiB,by rw [eH];exact kg⟩,row H1 (setH x h' m.index) m.index rfl fun j hj=>ak j (by omega)⟩
  ·rw [if_neg h4,if_neg h4]
   have e6:=jx.lead I.st l1
   have hcG:=jx.len I.st
   have eH0:(folR x m).hard=x.hard:=zet x m.frm
   obtain ⟨H1,g1,I1,ak⟩:=zkb I hv (n:=x.commit.toNat) (d:=ndR (folR x m) G) (by rw [hN];exact l1) (by rw [hN];exact zej e6.symm hcG) (by rw [hN];exact .inl ⟨e6,rfl⟩) (by rw [hN];show (folR x m).hard.term=_;rw [eH0];rfl) (by rw [hN];show (folR x m).hard.vote=_;rw [eH0];rfl)
    ⟨by show ¬ (0:Int)=2;decide,by show ¬ (0:Int)=3;decide⟩ (by rw [hN];exact .inl (Nat.le_refl _))
   exact ⟨H1,G,g1,I1,⟨b,hbB,by rw [eH0];exact k⟩,row H1 x x.commit rfl fun j hj=>ak j (by omega)⟩
theorem nx_lrn {B : Nat} {n : Nat} {H : Hist} {N : Nat → Nd} (I : GI H N) {v : Nat} (hv : v < 7) {x : Rft} (hp : Rp n v x) (hn : n ≤ 199) {G : List Ent} {b : Nat} (hN : N v = ndR x G) (k : HG H.c0 x.hard b G) {m : Mg} (hf : 0 ≤ m.frm ∧ m.frm < 7) (hkd : m.kind = 6) (ht : x.hard.term = m.term) (hF : MF H B m) (hbB : b ≤ B := by assumption) :
    NX H B N v (zb8 x m) []:=by
 unfold zb8
 by_cases h3:x.role=3
 ·rw [if_pos h3]
  obtain ⟨hs,hb⟩:=zlc hp (by omega) k
  have h1:=hp.led (by omega)
  have I1:GI H (upd N v (ndR { x with silent:=x.silent.put m.frm.toNat 0,next:=lrnNx x m,mtch:=lrnMt x m,reads:=x.reads.map (ack1 m.frm m.round),commit:=x.commit } G)) :=
   z4e I hv (by rw [hN];exact h3) (by rw [hN];rfl) (by rw [hN];rfl) (by rw [hN];rfl) h3 (by rw [hN];rfl) (fun i hi j hj hle=>by
    rw [hN]
    have hl2:j≤((lrnMt x m).at i).toNat:=hle
    clear hle
    show j≤(x.mtch.at i).toNat∨H.AK i x.hard.term j
    rw [zrp _ _ (by omega) hi] at hl2
    split at hl2
    ·rename_i e
     subst e
     unfold nxM at hl2
     cases hy:m.yes with
     | false =>
      rw [hy,if_neg (by decide)] at hl2
      exact .inl hl2
     | true =>
      rw [hy,if_pos rfl] at hl2
      by_cases hc:j≤(x.mtch.at m.frm.toNat).toNat
      ·exact .inl hc
      ·refine .inr ?_
       rw [ht]
       refine hF.ans hkd hy j ?_
       have:lrnI x m≤m.index:=by
        show (if lastI x.hard < m.index then lastI x.hard else m.index)≤m.index
        split<;>omega
       omega
    ·exact .inl hl2)
  obtain ⟨H2,g2,I2⟩:=ziu I1 hv (R:={ x with silent:=x.silent.put m.frm.toNat 0,next:=lrnNx x m,mtch:=lrnMt x m,reads:=x.reads.map (ack1 m.frm m.round),commit:=zc9 x.hard x.commit (lrnMt x m) }) (G:=G) (b:=b) (c:=x.commit) (zbf ..) h3 k (by omega) hp.rgt.com.1 h1 rfl
  rw [zn9] at I2
  exact ⟨H2,G,g2,I2,⟨b,hbB,k⟩,zaw⟩
 ·rw [if_neg h3]
  exact zck I hN k zaw
theorem z2u {B:Nat}{H:Hist} (r:Rft) (m:Mg):RowsF H B (zij r m):=by
 unfold zij
 split
 ·exact zen ⟨2,r.id,m.frm,m.term,0,0,0,0,true,cz,.no⟩ (.inr (.inl rfl))
 ·exact zen ⟨2,r.id,m.frm,r.hard.term,0,0,0,0,false,cz,.no⟩ (.inr (.inl rfl))
theorem z27 {B:Nat}{H:Hist} (r:Rft) (m:Mg):RowsF H B (zhb r m):=by
 unfold zhb
 split
 ·exact zen ⟨4,r.id,m.frm,r.hard.term,0,0,0,0,false,cz,.no⟩ (.inr (.inr (.inr ⟨.inl rfl,rfl⟩)))
 ·split
  ·exact zen ⟨6,r.id,m.frm,r.hard.term,0,0,0,0,false,cz,.no⟩ (.inr (.inr (.inr ⟨.inr rfl,rfl⟩)))
  ·exact zaw
theorem nx_take {B : Nat} {n : Nat} {H : Hist} {N : Nat → Nd} (I : GI H N) {v : Nat} (hv : v < 7) {r : Rft} (hp : Rp n v r) (hn : n ≤ 199) {G : List Ent} {b : Nat} (hN : N v = ndR r G) (k : HG H.c0 r.hard b G) {m : Mg} (hM : RightM r m) (hF : MF H B m) {R : Rft} {O : List (List PV)} {E : Int} (hk : TK r m R O E) (he : E = 0) (hbB : b ≤ B := by assumption) :
    NX H B N v R O:=by
 have hx:=tkx_rp hp hM
 have hu:=zye r m
 have hto:m.to=(tkX r m).id:=by rw [zzn];exact hM.to
 have hne:m.frm ≠ (tkX r m).id:=by rw [zzn];exact hM.ne
 have kx:HG H.c0 (tkX r m).hard b G:=by
  unfold tkX
  split
  ·exact k.fall _ _
  ·exact k
 have I1:GI H (upd N v (ndR (tkX r m) G)):=by
  by_cases h:r.hard.term < m.term
  ·rw [zc7 h]
   exact gi_wk I hv hN (zi3 (by omega) _).term (Int.le_refl _) (zql r _ _) ⟨by rw [zgd];decide,by rw [zgd];decide⟩
  ·have e:tkX r m=r:=if_neg h
   rw [e,z0q hN]
   exact I
 have g0:=Grows.refl H
 cases hk with
 | asked h=>exact zck I hN k (z2u r m)
 | old h ht=>exact zck I hN k (z27 r m)
 | no h hy ht=>exact ⟨H,G,g0,I1,⟨b,hbB,kx⟩,zaw⟩
 | k2 h hy ht=>exact nx_k2 I hv hp hn hN k hM.frm
 | k3 h ht=>exact NX.trans g0 (nx_k3 I1 hv hx hn (zbf ..) kx hM.frm h hF)
 | k4 h hy ht=>exact NX.trans g0 (nx_k4 I1 hv hx hn (zbf ..) kx hM.frm h hy (zj5 ht) hto hF)
 | app h ht=>exact NX.trans g0 (nx_app I1 hv hx hn (zbf ..) kx h (zj5 ht) hF he)
 | lrn h ht=>exact NX.trans g0 (nx_lrn I1 hv hx hn (zbf ..) kx hM.frm h (zj5 ht) hF)
 | ins h ht=>exact NX.trans g0 (nx_ins I1 hv hx hn (zbf ..) kx h (zj5 ht) hF he)
 | k8 h ht=>exact NX.trans g0 (nx_k8 I1 hv hx hn (zbf ..) kx hne)
theorem nx_add {B : Nat} {H : Hist} {N : Nat → Nd} (I : GI H N) {v : Nat} (hv : v < 7) {r : Rft} (hid : r.id = v) {G : List Ent} {b : Nat} (hN : N v = ndR r G) (k : HG H.c0 r.hard b G) (hs : G.length ≤ 401600) (hbc : r.hard.base ≤ r.commit) (h1 : 1 ≤ r.hard.term) (hro : r.role = 3) (x : Ent) (hxt : x.term = r.hard.term)
    (hcf:x.kind=2→(∃ y,G[r.commit.toNat - 1]?=some y∧y.term=r.hard.term)∧1≤r.commit.toNat∧(∀ b y,G[b]?=some y→y.kind=2→b+1≤r.commit.toNat)∧nearR (cfL H.c0 G) x.conf=true) (hbB:b≤B:=by assumption):NX H B N v (addR r x) []:=by
 have kx:=k.snoc x
 have hla:lastI (logR r x)=(G++[x]).length:=kx.last (by rw [List.length_append];show G.length+1 < _;omega)
 have hm:∀ i,i < 7→(addR r x).mtch.at i=if i=v then lastI (logR r x) else r.mtch.at i:=fun i hi=>by
  show (r.mtch.put r.id.toNat (lastI (logR r x))).at i=_
  rw [hid,Int.toNat_natCast,zrp _ _ hv hi]
 obtain ⟨H1, g1, I1⟩ := gi_add I hv (d' := ndR { addR r x with commit := r.commit } (G ++ [x])) (x := x) (by rw [hN]; exact hro) (by rw [hN]; exact hxt) (fun e => by rw [hN]; exact hcf e) (by rw [hN]; rfl) (by rw [hN]; rfl) (by rw [hN]; rfl) hro (by rw [hN]; exact Nat.le_refl _) (fun i hi j hj hle => by
     have hle:j≤((addR r x).mtch.at i).toNat:=hle
     rw [hN]
     rw [hm i hi] at hle
     split at hle
     ·rename_i e
      refine .inr ⟨e,?_⟩
      show j≤(G++[x]).length
      rw [hla] at hle
      omega
     ·exact .inl hle)
 have kl:HG H1.c0 (addR r x).hard b (G++[x]):=by rw [g1.c0];exact kx
 obtain ⟨H2,g2,I2⟩:=ziu I1 hv (R:=addR r x) (G:=G++[x]) (b:=b) (c:=r.commit) (zbf ..) hro kl (by rw [List.length_append];show G.length+1 < _;omega) hbc h1 rfl
 rw [zn9] at I2
 exact ⟨H2,G++[x],g1.trans g2,I2,⟨b,hbB,kx⟩,zaw⟩
theorem nx_act {B:Nat}{n:Nat}{H:Hist}{N:Nat→Nd} (I:GI H N) {v:Nat} (hv:v < 7) {r:Rft} (hp:Rp n v r) (hn:n≤199) {G:List Ent}{b:Nat} (hN:N v=ndR r G) (k:HG H.c0 r.hard b G) {a:Act}{c:Conf}{kd:Int}{R:Rft} (hE:ActE r a c kd R) (hB:kd=16→r.commit.toNat≤B) (hbB:b≤B:=by assumption):NX H B N v R []:=by
 obtain ⟨hs,hb⟩:=zlc hp (by omega) k
 have hbc:=hp.rgt.com.1
 have hbase:=k.base
 rcases hE with hE | ⟨_,rfl⟩
 ·cases hE with
  | prop he =>
   have h3:r.role=3:=by
    unfold propE at he
    split at he
    ·rename_i h;exact zer h
    ·exact absurd he (by decide)
   exact nx_add I hv hp.id hN k hs hbc (hp.led (by omega)) h3 _ rfl (fun e=>absurd e (by show ¬ (1:Int)=2;decide))
  | chg he =>
   unfold chgE at he
   by_cases a1:zcb r=0
   ·rw [if_pos a1] at he
    have h3:=zer a1
    by_cases a2:mayB r=true
    ·rw [if_pos a2] at he
     by_cases a3:nearR (zab r) c=true∧¬ zab r=c
     ·have h1:=hp.led (by omega)
      have a2:=a2
      unfold mayB at a2
      rw [Bool.and_eq_true,decide_eq_true_eq] at a2
      obtain ⟨q1,q2,y,q3,q4⟩:=k.at_term hbc h1 a2.1
      refine nx_add (r:=nxR r c 7) I hv hp.id hN k hs hbc h1 h3 (ecf r c) rfl (fun _=>⟨⟨y,q3,q4⟩,q1,fun j z hz hzk=>k.cfat (by omega) (c:=r.commit.toNat) (by omega) (by omega) j z hz hzk,?_⟩)
      rw [← k.conf (by omega)]
      exact a3.1
     ·rw [if_neg a3] at he
      exact absurd he (by decide)
    ·rw [if_neg a2] at he
     exact absurd he (by decide)
   ·rw [if_neg a1] at he
    exact absurd he (by decide)
  | ask he=>exact zck (R:=askR r a.call) I hN k zaw
  | ready=>exact zck (R:=zo9 r) I hN k zaw
  | comp he =>
   obtain ⟨q,q1,q2,q3,q4⟩:=zu2 (by have:=hp.log;omega) he
   refine zck (R:=compR r a.n) (b:=b+q) I hN ?_ zaw (by have:=hB rfl;omega)
   show HG H.c0 (compH r.hard r.commit (byteL a.n)) (b+q) G
   rw [q4]
   exact k.cut (by omega) q2 _
 ·exact zck I hN k zaw
theorem z2b {B:Nat}{n:Nat}{H:Hist}{N:Nat→Nd} (I:GI H N) {v:Nat} (hv:v < 7) {r:Rft} (hp:Rp n v r) {G:List Ent}{b:Nat} (hN:N v=ndR r G) (k:HG H.c0 r.hard b G) (hbB:b≤B:=by assumption):NX H B N v (newR v r.hard) [] :=
 zrv (R:=newR v r.hard) I hv hN k (Int.le_refl _) hp.rgt.com.1 (fun _=>rfl) ⟨by show ¬ (0:Int)=2;decide,by show ¬ (0:Int)=3;decide⟩ zaw
theorem zf0 {a b:Int} (h:iv a=iv b):a=b:=by injection h with h;injection h
theorem bv_inj {a b:Bool} (h:bv a=bv b):a=b:=by injection h with h;injection h
theorem z23 {a b:Conf} (h0:iv a.full=iv b.full) (h1:iv a.wit=iv b.wit) (h2:iv a.learn=iv b.learn) (h3:iv a.lwit=iv b.lwit):a=b:=by
 obtain ⟨x0,x1,x2,x3⟩:=a
 obtain ⟨y0,y1,y2,y3⟩:=b
 rw [show x0=y0 from zf0 h0,show x1=y1 from zf0 h1,show x2=y2 from zf0 h2,show x3=y3 from zf0 h3]
theorem ent_inj {a b:Ent} (h:a.enc=b.enc):a=b:=by
 obtain ⟨t,k,⟨c,s,⟨ck,key,⟨ok,on,ot⟩,⟨vk,vn,vt⟩⟩⟩,⟨f0,f1,f2,f3⟩⟩:=a
 obtain ⟨t',k',⟨c',s',⟨ck',key',⟨ok',on',ot'⟩,⟨vk',vn',vt'⟩⟩⟩,⟨f0',f1',f2',f3'⟩⟩:=b
 simp only [Ent.enc,iv,sv,List.cons.injEq,PV.sc.injEq,Value.int.injEq,true_and,and_true] at h
 simp_all
theorem zr5 {α β:Type}{f:α→β} (hf:∀ {a b},f a=f b→a=b):∀ {l k:List α},l.map f=k.map f→l=k
 | [],[],_=>rfl
 | [],_ :: _,h=>by cases h
 | _ :: _,[],h=>by cases h
 | a :: l,b :: k,h=>by
  rw [List.map_cons,List.map_cons] at h
  injection h with h1 h2
  rw [hf h1,zr5 hf h2]
theorem bd_inj {a b:Bd} (h1:a.ev=b.ev) (h2:a.sv=b.sv):a=b:=by
 cases a with
 | no =>
  cases b with
  | no=>rfl
  | es l=>injection h1
  | sn l=>injection h2
 | es l =>
  cases b with
  | no=>injection h1
  | es k =>
   injection h1 with _ h1
   rw [zr5 ent_inj h1]
  | sn k=>injection h1
 | sn l =>
  cases b with
  | no=>injection h2
  | es k=>injection h2
  | sn k =>
   injection h2 with _ h2
   rw [zr5 (f:=encB) (fun {a b} h=>by
    have h:[_]=[_]:=h
    injection h with h
    injection h with h
    injection h) h2]
theorem my_inj {x y:My} (e:x.enc=y.enc):x=y:=by
 have q:∀ i:Nat,x.enc[i]?=y.enc[i]?:=fun i=>by rw [e]
 have r:∀ {a b:PV},some a=some b→a=b:=fun h=>Option.some.inj h
 have b1:=bd_inj (a:=x.bd) (b:=y.bd) (r (q 9)) (r (q 14))
 have c1:=z23 (a:=x.cf) (b:=y.cf) (r (q 10)) (r (q 11)) (r (q 12)) (r (q 13))
 have k0:=zf0 (a:=x.kind) (b:=y.kind) (r (q 0))
 have k1:=zf0 (a:=x.frm) (b:=y.frm) (r (q 1))
 have k2:=zf0 (a:=x.to) (b:=y.to) (r (q 2))
 have k3:=zf0 (a:=x.term) (b:=y.term) (r (q 3))
 have k4:=zf0 (a:=x.index) (b:=y.index) (r (q 4))
 have k5:=zf0 (a:=x.logT) (b:=y.logT) (r (q 5))
 have k6:=zf0 (a:=x.commit) (b:=y.commit) (r (q 6))
 have k7:=zf0 (a:=x.round) (b:=y.round) (r (q 7))
 have k8:=bv_inj (a:=x.yes) (b:=y.yes) (r (q 8))
 obtain ⟨x0,x1,x2,x3,x4,x5,x6,x7,x8,x9,x10⟩:=x
 obtain ⟨y0,y1,y2,y3,y4,y5,y6,y7,y8,y9,y10⟩:=y
 simp only at b1 c1 k0 k1 k2 k3 k4 k5 k6 k7 k8
 subst b1 c1 k0 k1 k2 k3 k4 k5 k6 k7 k8
 rfl
theorem RowsF.ys {H:Hist}{B:Nat}{ys:List My} (h:RowsF H B (ys.map My.enc)):∀ y ∈ ys,MF H B y.mg:=fun y hy=>by
 obtain ⟨z,e,hz⟩:=h y.enc (List.mem_map.2 ⟨y,hy,rfl⟩)
 rw [my_inj e];exact hz
structure PS (H:Hist) (B:Nat) (N:Nat→Nd) (s:Svn) (ms:List My):Prop where
 gi:GI H N
 tie:∀ v,v < 7→∃ b G,b≤B∧N v=ndR (s.at v) G∧HG H.c0 (s.at v).hard b G
 mf:∀ y ∈ ms,MF H B y.mg
theorem ps_sub {H:Hist}{B:Nat}{N:Nat→Nd}{s:Svn}{ms zs:List My} (h:PS H B N s ms) (hz:∀ y ∈ zs,y ∈ ms):PS H B N s zs:=⟨h.gi,h.tie,fun y hy=>h.mf y (hz y hy)⟩
theorem ztu {H:Hist}{B:Nat}{N:Nat→Nd}{s:Svn}{ms ys zs:List My} (h:PS H B N s ms) {v:Nat} (hv:v < 7) {R:Rft} (hx:NX H B N v R (ys.map My.enc)) (hz:∀ y ∈ zs,y ∈ ms∨y ∈ ys):∃ H' N',Grows H H'∧PS H' B N' (s.put v R) zs:=by
 obtain ⟨H',G',g,I,⟨b,hb,k⟩,rows⟩:=hx
 refine ⟨H',upd N v (ndR R G'),g,I,fun w hw=>?_,fun y hy=>?_⟩
 ·rw [Svn.put_at s R hv hw]
  by_cases e:w=v
  ·rw [if_pos e]
   subst e
   exact ⟨b,G',hb,zbf ..,by rw [g.c0];exact k⟩
  ·rw [if_neg e]
   obtain ⟨b2,G2,a,c,d⟩:=h.tie w hw
   exact ⟨b2,G2,a,(zc2 N e _).trans c,by rw [g.c0];exact d⟩
 ·rcases hz y hy with a | a
  ·exact (h.mf y a).mono h.gi.st g
  ·exact rows.ys y a
theorem zsb {ms ys:List My}{y:My} (h:y ∈ capY ms ys):y ∈ ms∨y ∈ ys:=by
 unfold capY at h
 rcases List.mem_append.1 h with h | h
 ·exact .inl h
 ·exact .inr (List.mem_of_mem_take h)
theorem step_ps {n : Nat} {s : Svn} {ms : List My} {a : Act} {s' : Svn} {ms' : List My} (hp : Ply n s ms) (hn : n ≤ 199) {H : Hist} {B : Nat} {N : Nat → Nd} (h : PS H B N s ms) (st : Step n s ms a s' ms') (hB : (IntKind.u64.wrap a.doo).tmod 18 = 16 → ∀ k, k < 7 → (s.at k).commit.toNat ≤ B) :
    ∃ H' N',Grows H H'∧PS H' B N' s' ms':=by
 cases st with
 | none=>exact ⟨H,N,Grows.refl H,h⟩
 | tick k hk ys e =>
  obtain ⟨b,G,hb,hN,kk⟩:=h.tie k hk
  refine ztu h hk (ys:=ys) ?_ fun y hy=>zsb hy
  rw [← e]
  unfold tkR tkO
  by_cases hr:(s.at k).role=3
  ·rw [if_pos hr,if_pos hr]
   exact nx_beat h.gi hk (hp.rp k hk) hn hr hN kk
  ·rw [if_neg hr,if_neg hr]
   exact nx_tick h.gi hk (hp.rp k hk) hn hr hN kk
 | take j hj t ht hto hM R ys hk =>
  obtain ⟨b,G,hb,hN,kk⟩:=h.tie t ht
  refine ztu h ht (ys:=ys) (nx_take h.gi ht (hp.rp t ht) hn hN kk hM (h.mf _ (List.getElem_mem hj)) hk rfl) fun y hy=>?_
  rcases zsb hy with a | a
  ·exact .inl (List.mem_of_mem_eraseIdx a)
  ·exact .inr a
 | lose j=>exact ⟨H,N,Grows.refl H,ps_sub h fun y hy=>List.mem_of_mem_eraseIdx hy⟩
 | double j hj =>
  refine ⟨H,N,Grows.refl H,ps_sub h fun y hy=>?_⟩
  rcases zsb hy with a | a
  ·exact a
  ·rw [List.mem_singleton.1 a];exact List.getElem_mem hj
 | act k hk c kd R hE hd =>
  obtain ⟨b,G,hb,hN,kk⟩:=h.tie k hk
  exact ztu h hk (ys:=[]) (nx_act h.gi hk (hp.rp k hk) hn hN kk hE (fun e=>hB (hd.trans e) k hk)) fun y hy=>.inl hy
 | crash k hk =>
  obtain ⟨b,G,hb,hN,kk⟩:=h.tie k hk
  exact ztu h hk (ys:=[]) (z2b h.gi hk (hp.rp k hk) hN kk) fun y hy=>.inl hy
def H0 (c:Conf):Hist:=⟨c,fun _=>[],fun _ _ _ _=>False,fun _ _ _ _=>False,fun _ _ _=>False⟩
theorem z3b (c:Conf):∃ N,PS (H0 c) 0 N (begS c 7) []:=by
 have hb:∀ v,v < 7→(begS c 7).at v=newR v (begH c):=fun v hv=>by
  rcases (by omega:v=0∨v=1∨v=2∨v=3∨v=4∨v=5∨v=6) with rfl | rfl | rfl | rfl | rfl | rfl | rfl<;>rfl
 have no:∀ {n:Nat}{x:Ent},([]:List Ent)[n]?=some x→False:=fun h=>by simp at h
 have hS:Static (H0 c):={
  llm:=fun t n x hx=>(no hx).elim
  lle:=fun t x hx=>absurd hx List.not_mem_nil
  led:=fun t h=>absurd rfl h
  akl:=fun v t n h=>False.elim h
  vi:=fun v T c' D t n x h=>False.elim h
  vu:=fun v T c' D c'' D' h=>False.elim h
  cm:=fun t n k W h=>False.elim h
  own:=fun T a x hx=>(no hx).elim
  old:=fun T a x b y hx=>(no hx).elim
  nr:=fun T a x hx=>(no hx).elim }
 refine ⟨fun v=>ndR ((begS c 7).at v) [],⟨hS,fun v T c' D h=>False.elim h,fun v hv=>?_⟩,fun v hv=>⟨0,[],Nat.le_refl _,rfl,?_⟩,fun y hy=>absurd hy List.not_mem_nil⟩
 ·show NI (H0 c) v (ndR ((begS c 7).at v) [])
  rw [hb v hv]
  refine ⟨fun n x hx=>(no hx).elim,fun x hx=>absurd hx List.not_mem_nil,.inl rfl,fun T c' D h=>False.elim h,fun t n h=>False.elim h,fun e=>?_,fun e=>?_⟩
  ·exact absurd e (by show ¬ (0:Int)=2;decide)
  ·exact absurd e (by show ¬ (0:Int)=3;decide)
 ·rw [hb v hv]
  exact ⟨rfl,Nat.le_refl _,rfl,rfl,rfl⟩
theorem HG.ent {c0:Conf}{h:Hrd}{b:Nat}{G:List Ent} (k:HG c0 h b G) {i:Int} (h1:h.base < i) (h2:i≤h.base+h.log.length):∃ x,entAt h i=some x∧G[i.toNat - 1]?=some x:=by
 have hb:=k.base
 have hs:=k.sum
 obtain ⟨x,hx⟩:=zdj (A:=G) (i:=i.toNat - 1) (by omega)
 refine ⟨x,?_,hx⟩
 rw [zhw (m:=i.toNat - 1 - b) (by omega),k.log,List.getElem?_drop,show b+(i.toNat - 1 - b)=i.toNat - 1 by omega]
 exact hx
theorem zt9 {α:Type}{A C:List α}{i:Nat}{x y:α} (e:A.take (i+1)=C.take (i+1)) (hx:A[i]?=some x) (hy:C[i]?=some y):x=y:=by
 have:=zcf e (Nat.lt_succ_self i)
 rw [hx,hy] at this
 exact Option.some.inj this
theorem beg_ply {c:Conf} (hc:confB c=true):Ply 0 (begS c 7) []:=by
 refine ⟨fun k hk=>?_,fun y hy=>absurd hy List.not_mem_nil,Nat.zero_le _⟩
 have hh:hardB (begH c)=true:=by
  unfold hardB
  rw [ze0 (show HardA (begH c) from ⟨by show (0:Int)≤0∧(0:Int)≤_;decide,by show (-1:Int)≤-1∧(-1:Int)≤6;decide,by show (0:Int)≤0∧(0:Int)≤_;decide,by show (0:Int)≤0∧(0:Int)≤0;decide,by show (0:Int)=0 ↔ (0:Int)=0;decide⟩),show confB (begH c).baseConf=true from hc]
  rfl
 have h0:=fun (i:Int) (hi:0≤i∧i < 7)=>new_rp (n:=0) (i:=i) hh hi (Nat.zero_le _) (by decide) (by show (0:Int)≤_;decide) (Nat.zero_le _)
 rcases (by omega:k=0∨k=1∨k=2∨k=3∨k=4∨k=5∨k=6) with rfl | rfl | rfl | rfl | rfl | rfl | rfl
 ·exact h0 0 (by decide)
 ·exact h0 1 (by decide)
 ·exact h0 2 (by decide)
 ·exact h0 3 (by decide)
 ·exact h0 4 (by decide)
 ·exact h0 5 (by decide)
 ·exact h0 6 (by decide)
def z08 (a b:Rft):Prop:=∀ i:Int,a.hard.base < i→b.hard.base < i→i≤a.hard.base+a.hard.log.length→i≤b.hard.base+b.hard.log.length →
 ((∃ n,i≤n∧n≤a.hard.base+a.hard.log.length∧n≤b.hard.base+b.hard.log.length∧(entE a n).term=(entE b n).term)∨(i≤a.commit∧i≤b.commit))→entE a i=entE b i
theorem zoq {r:Rft}{i:Int}{x:Ent} (h:entAt r.hard i=some x):entE r i=x:=by show (entAt r.hard i).getD ez=x;rw [h];rfl
theorem ps_same {H:Hist}{B:Nat}{N:Nat→Nd}{s:Svn}{ms:List My} (h:PS H B N s ms) {v w:Nat} (hv:v < 7) (hw:w < 7):z08 (s.at v) (s.at w):=by
 obtain ⟨b,G,_,hN,k⟩:=h.tie v hv
 obtain ⟨b',G',_,hN',k'⟩:=h.tie w hw
 have n1:=h.gi.nd v hv
 have n2:=h.gi.nd w hw
 rw [hN] at n1
 rw [hN'] at n2
 have m1:LM H G:=n1.lm
 have m2:LM H G':=n2.lm
 have j1:JG H (s.at v).hard.term G (s.at v).commit.toNat:=n1.com
 have j2:JG H (s.at w).hard.term G' (s.at w).commit.toNat:=n2.com
 intro i i1 i2 i3 i4 hc
 have hb:=k.base
 obtain ⟨x,x1,x2⟩:=k.ent (i:=i) i1 i3
 obtain ⟨y,y1,y2⟩:=k'.ent (i:=i) i2 i4
 rw [zoq x1,zoq y1]
 rcases hc with ⟨n,q1,q2,q3,q4⟩ | ⟨c1,c2⟩
 ·obtain ⟨p,p1,p2⟩:=k.ent (i:=n) (by omega) q2
  obtain ⟨q,r1,r2⟩:=k'.ent (i:=n) (by omega) q3
  rw [zoq p1,zoq r1] at q4
  exact zt9 (za0 (LM.match m1 m2 _ p q p2 r2 q4) (by omega)) x2 y2
 ·exact zt9 (j1.agree h.gi.st j2 (m:=i.toNat - 1+1) (by omega) (by omega)) x2 y2
def WI (H:Hist) (f:Nat→Int):Prop:=∀ t:Nat,f t=0∨∃ (v:Nat) (D:List Ent) (Q:Int),f t=(v:Int)+1∧Cand H t v D Q
structure SP (n:Nat) (s:Svn) (ms:List My) (f:Nat→Int):Prop where
 ply:Ply n s ms
 ps:∃ H N,PS H 401600 N s ms∧WI H f
theorem SP.step {n:Nat}{s:Svn}{ms:List My}{f:Nat→Int} (h:SP n s ms f) (hn:n≤199) {a:Act}{s':Svn}{ms':List My} (st:Step n s ms a s' ms'):SP (n+1) s' ms' f:=by
 obtain ⟨H,N,p,hw⟩:=h.ps
 obtain ⟨H',N',g,p'⟩:=step_ps h.ply hn p st fun _ k hk=>by
  have hr:=h.ply.rp k hk
  have h1:=hr.last (by omega)
  have h2:=hr.base
  have h3:=hr.log
  have h4:=hr.rgt.com
  omega
 refine ⟨z11 h.ply hn st,H',N',p',fun t=>?_⟩
 rcases hw t with e | ⟨v,D,Q,e,c⟩
 ·exact .inl e
 ·exact .inr ⟨v,D,Q,e,g.cand c⟩
theorem SP.led {n : Nat} {s : Svn} {ms : List My} {f : Nat → Int} (h : SP n s ms f) {k : Nat} (hk : k < 7) (hro : (s.at k).role = 3) {t : Nat} (ht : (s.at k).hard.term = t) :
    (f t=0∨f t=(k:Int)+1)∧SP n s ms (fun j=>if j=t then (k:Int)+1 else f j):=by
 obtain ⟨H,N,p,hw⟩:=h.ps
 obtain ⟨b,G,_,hN,_⟩:=p.tie k hk
 have n1:=p.gi.nd k hk
 rw [hN] at n1
 obtain ⟨_,_,⟨D,Q,c1⟩,_⟩:=n1.ld hro
 have c1:Cand H (s.at k).hard.term k D Q:=c1
 rw [ht] at c1
 constructor
 ·rcases hw t with e | ⟨v,D',Q',e,c⟩
  ·exact .inl e
  ·rw [(zof p.gi.st c1 c).1];exact .inr e
 ·refine ⟨h.ply,H,N,p,fun j=>?_⟩
  by_cases e:j=t
  ·subst e
   exact .inr ⟨k,D,Q,if_pos rfl,c1⟩
  ·show (if j=t then _ else f j)=0∨∃ (v:Nat) (D:List Ent) (Q:Int),(if j=t then _ else f j)=_∧_
   rw [if_neg e]
   exact hw j
theorem SP.same {n:Nat}{s:Svn}{ms:List My}{f:Nat→Int} (h:SP n s ms f) {v w:Nat} (hv:v < 7) (hw:w < 7):z08 (s.at v) (s.at w):=by
 obtain ⟨H,N,p,_⟩:=h.ps
 exact ps_same p hv hw
theorem z29 {c:Conf} (hcf:confB c=true):SP 0 (begS c 7) [] (fun _=>0):=by
 obtain ⟨N,p⟩:=z3b c
 exact ⟨beg_ply hcf,H0 c,N,⟨p.gi,fun v hv=>by obtain ⟨b,G,h1,h2⟩:=p.tie v hv;exact ⟨b,G,by omega,h2⟩,fun y hy=>absurd hy List.not_mem_nil⟩,fun t=>.inl rfl⟩
def TopOk (a b:Rft) (t:Int):Prop:=t=0∨(t≤a.hard.base+a.hard.log.length∧t≤b.hard.base+b.hard.log.length∧(entE a t).term=(entE b t).term)
theorem c_AtW (r : Rft) (hb : 0 ≤ r.hard.base ∧ r.hard.base ≤ 1099511627776) (hl : r.hard.log.length ≤ 4294967) (i : Int) (h1 : r.hard.base < i) (h2 : i ≤ 1152921504606846976) :
    Ctr Tryz.prog 54 [.ag r.hard.enc,iv i] (.tu [.ag (entE r i).enc,bv (decide (i≤r.hard.base+r.hard.log.length))]) []:=by
 have k:=c_rAt r.hard (zad (by omega)) hb.1 (by omega) i (by unfold isI;omega)
 have e:(entAt r.hard i).isSome=decide (i≤r.hard.base+r.hard.log.length):=by
  by_cases h:i≤r.hard.base+r.hard.log.length
  ·rw [decide_eq_true h,zeo (by omega) (by omega)];rfl
  ·rw [decide_eq_false h,zd1 (by omega)];rfl
 rw [e] at k
 exact k
theorem z0p (a b : Rft) (ha : 0 ≤ a.hard.base ∧ a.hard.base ≤ 1099511627776) (hb : 0 ≤ b.hard.base ∧ b.hard.base ≤ 1099511627776) (la : a.hard.log.length ≤ 4294967) (lb : b.hard.log.length ≤ 4294967) (hs : z08 a b) :
    Ctr Tryz.prog 16 [.ag a.enc,.ag b.enc] (bv true) []:=by
 have ka:=c_AtW a ha la
 have kb:=c_AtW b hb lb
 obtain ⟨m,hm,hma,hmb⟩:∃ m:Int,(if b.hard.base > a.hard.base then b.hard.base else a.hard.base)=m∧a.hard.base≤m∧b.hard.base≤m:=⟨_,rfl,by split<;>omega,by split<;>omega⟩
 have hm2:m≤1099511627776:=by rw [← hm];split<;>omega
 have ew:IntKind.i64.wrap (m+1)=m+1:=zaf (by omega) (by omega)
 have ew2:∀ d:Nat,d≤4294967→IntKind.i64.wrap (m+1+(d:Int)+1)=m+1+((d+1:Nat):Int):=fun d hd=>by rw [zaf (by omega) (by omega)];omega
 refine zkn mixed Tryz.func16 rfl (by kernel_rfl) (by kernel_rfl) ?_
 refine tQ ?_
 refine tQ ?_
 refine tCut (TopOk a b) (fun t=>[(5,iv t)]) (fun _=>[(2,a.enc),(3,b.enc)]) (fun _=>[]) ?_ ?_
 ·conv=>whnf
  rw [hm,ew]
  refine tFor (fun x:Nat×Int=>x.1≤a.hard.log.length∧TopOk a b x.2) (fun x=>[(6,iv (m+1+(x.1:Int))),(5,iv x.2)]) (fun _=>[(2,a.enc),(3,b.enc)]) (fun _=>[]) [] (fun x=>a.hard.log.length+1 - x.1) (0,0) ⟨Nat.zero_le _,.inl rfl⟩ ?_ ?_
  ·(refine tWK ?_;and_intros<;>try exact ⟨⟩)
   all_goals first | rfl | exact (Int.add_zero _).symm | trace_state
  rintro ⟨d,t⟩ ⟨hd,ht⟩
  have hd:d≤a.hard.log.length:=hd
  have ht:TopOk a b t:=ht
  have ew2:=ew2 d (by omega)
  have ka:=ka (m+1+(d:Int)) (by omega) (by omega)
  have kb:=kb (m+1+(d:Int)) (by omega) (by omega)
  by_cases h1:m+1+(d:Int)≤a.hard.base+a.hard.log.length
  ·by_cases h2:m+1+(d:Int)≤b.hard.base+b.hard.log.length
   ·rw [decide_eq_true h1] at ka
    rw [decide_eq_true h2] at kb
    have hn:(entE a (m+1+(d:Int))).term=(entE b (m+1+(d:Int))).term→TopOk a b (m+1+(d:Int)):=fun h=>.inr ⟨h1,h2,h⟩
    generalize entE a (m+1+(d:Int))=x at *
    generalize entE b (m+1+(d:Int))=y at *
    refine tC ka ?_
    refine tC kb ?_
    refine tS ?_ ?_<;>intro h
    ·refine ⟨(d+1,m+1+(d:Int)),[],⟨⟨by show d+1≤_;omega,hn h⟩,by show _ - (d+1) < _ - d;omega⟩,?_⟩
     (refine tWK ?_;and_intros<;>try exact ⟨⟩)
     all_goals first | rfl | exact ew2 | trace_state
    ·refine ⟨(d+1,t),[],⟨⟨by show d+1≤_;omega,ht⟩,by show _ - (d+1) < _ - d;omega⟩,?_⟩
     (refine tWK ?_;and_intros<;>try exact ⟨⟩)
     all_goals first | rfl | exact ew2 | trace_state
   ·rw [decide_eq_true h1] at ka
    rw [decide_eq_false h2] at kb
    refine tC ka ?_
    refine tC kb ?_
    refine ⟨t,[],ht,?_⟩
    exact wkE
  ·rw [decide_eq_false h1] at ka
   refine tC ka ?_
   refine tC kb ?_
   refine ⟨t,[],ht,?_⟩
   exact wkE
 intro t ht
 conv=>whnf
 refine tZ ?_
 rw [hm,ew]
 refine tFor (fun d:Nat=>d≤a.hard.log.length) (fun d=>[(11,iv (m+1+(d:Int)))]) (fun _=>[(2,a.enc),(3,b.enc)]) (fun _=>[]) [] (fun d=>a.hard.log.length+1 - d) 0 (Nat.zero_le _) ?_ ?_
 ·(refine tWK ?_;and_intros<;>try exact ⟨⟩)
  all_goals first | rfl | exact (Int.add_zero _).symm | trace_state
 intro d hd
 have ew2:=ew2 d (by omega)
 have ka:=ka (m+1+(d:Int)) (by omega) (by omega)
 have kb:=kb (m+1+(d:Int)) (by omega) (by omega)
 by_cases h1:m+1+(d:Int)≤a.hard.base+a.hard.log.length
 ·by_cases h2:m+1+(d:Int)≤b.hard.base+b.hard.log.length
  ·rw [decide_eq_true h1] at ka
   rw [decide_eq_true h2] at kb
   have hn:m+1+(d:Int)≤t∨(m+1+(d:Int)≤a.commit∧m+1+(d:Int)≤b.commit)→entE a (m+1+(d:Int))=entE b (m+1+(d:Int)):=fun h=>by
    refine hs _ (by omega) (by omega) h1 h2 ?_
    rcases h with h | h
    ·rcases ht with e | ⟨t1,t2,t3⟩
     ·omega
     ·exact .inl ⟨t,h,t1,t2,t3⟩
    ·exact .inr h
   have kk:=z4a (entE a (m+1+(d:Int))) (entE b (m+1+(d:Int)))
   generalize entE a (m+1+(d:Int))=x at *
   generalize entE b (m+1+(d:Int))=y at *
   by_cases hq:x.nrm=y.nrm
   ·rw [decide_eq_true hq] at kk
    refine tC ka ?_
    refine tC kb ?_
    refine tC kk ?_
    refine ⟨d+1,[],⟨by omega,by omega⟩,?_⟩
    (refine tWK ?_;and_intros<;>try exact ⟨⟩)
    all_goals first | rfl | exact ew2 | trace_state
   ·rw [decide_eq_false hq] at kk
    have h3:¬ m+1+(d:Int)≤t:=fun h=>hq (by rw [hn (.inl h)])
    have h4:¬ m+1+(d:Int)≤(if b.commit < a.commit then b.commit else a.commit):=fun h=>hq (by rw [hn (.inr (by split at h<;>omega))])
    refine tC ka ?_
    refine tC kb ?_
    refine tC kk ?_
    refine tK ?_
    refine tK ?_
    refine ⟨d+1,[],⟨by omega,by omega⟩,?_⟩
    (refine tWK ?_;and_intros<;>try exact ⟨⟩)
    all_goals first | rfl | exact ew2 | trace_state
  ·rw [decide_eq_true h1] at ka
   rw [decide_eq_false h2] at kb
   refine tC ka ?_
   refine tC kb ?_
   exact zaa rfl rfl
 ·rw [decide_eq_false h1] at ka
  refine tC ka ?_
  refine tC kb ?_
  exact zaa rfl rfl
theorem My.small {n:Nat}{y:My} (h:MyOk n y):y.mg.snap.length≤maxLen∧y.mg.entries.length≤maxLen:=by
 have h1:=h.sn
 have h2:=h.es
 exact ⟨zad (by show y.bd.snp.length≤_;omega),zad (by show y.bd.ents.length≤_;omega)⟩
theorem s_Mys (l:List My) (hl:l.length≤maxLen) (hy:∀ y ∈ l,y.mg.snap.length≤maxLen∧y.mg.entries.length≤maxLen):Ctr Tryz.prog 35 [.sl 16 (l.map My.enc),.sl 16 (l.map My.enc)] (bv true) []:=by
 have hm':l.length≤9223372036854775807:=Nat.le_trans hl (by decide)
 refine sBody Tryz.func35 ?_;conv=>whnf
 refine tSame ?_
 refine zbe mixed (by kernel_rfl) (fun i:Nat=>i≤l.length) (fun i=>[(5,iv i)]) [] (fun i=>l.length - i) 0 (Nat.zero_le _) ?_ ?_
 ·exact wkE
 intro i hi
 refine tS ?_ ?_<;>intro h
 ·simp only [List.length_map] at h
  have hlt:i < l.length:=by omega
  have hrow:=za3 (f:=My.enc) hlt
  have hs:=hy _ (List.getElem_mem hlt)
  generalize l[i]'hlt=y at *
  have k:=z0r y.mg hs.1 hs.2
  refine ⟨by omega,_,hrow,?_⟩
  conv=>whnf
  refine ⟨by omega,_,hrow,?_⟩
  conv=>whnf
  refine Exists.intro none ?_
  show zjh _ _ _ _ _ _
  unfold zjh
  refine res_yy ?_
  refine zfh k (by (repeat' (first | exact zb1 | exact zb5 | refine zbo ?_ ?_ | refine zbn ?_ ?_ | exact SubV.refl _ | exact zcl | (with_reducible exact zdk rfl) | refine zdd ?_ | refine zdf ?_ | refine zde ?_))<;>first | exact zle _ | exact zlz _) ?_
  conv=>whnf
  refine ⟨i+1,⟨by omega,by omega⟩,?_⟩
  exact wkE
 ·exact zaa rfl rfl
theorem s_rz:Ctr Tryz.prog 34 [.ag rzv,.ag rzv] (bv true) []:=(ze5 rz (by decide) (by decide) (by decide)).deep (by (repeat' (first | exact zb1 | exact zb5 | refine zbo ?_ ?_ | refine zbn ?_ ?_ | exact SubV.refl _ | exact zcl | (with_reducible exact zdk rfl) | refine zdd ?_ | refine zdf ?_ | refine zde ?_)))
theorem s_nls:Ctr Tryz.prog 35 [.nl,.nl] (bv true) []:=(s_Mys [] (by decide) (fun y h=>absurd h List.not_mem_nil)).deep (by (repeat' (first | exact zb1 | exact zb5 | refine zbo ?_ ?_ | refine zbn ?_ ?_ | exact SubV.refl _ | exact zcl | (with_reducible exact zdk rfl) | refine zdd ?_ | refine zdf ?_ | refine zde ?_)))
theorem s_rdn:Ctr Tryz.prog 84 [.nl,.nl] (bv true) []:=(zsi [] (by decide)).deep (by (repeat' (first | exact zb1 | exact zb5 | refine zbo ?_ ?_ | refine zbn ?_ ?_ | exact SubV.refl _ | exact zcl | (with_reducible exact zdk rfl) | refine zdd ?_ | refine zdf ?_ | refine zde ?_)))
theorem ob_sc (x:Rft) (i j k:Nat):∀ q ∈ [(i,false,1,x.hard.snap.map encB),(j,false,16,x.hard.log.map Ent.enc),(k,false,13,x.reads.map Rd.enc)],ScR q.2.2.2:=by
 intro q hq
 simp only [List.mem_cons,List.not_mem_nil,or_false] at hq
 rcases hq with rfl | rfl | rfl
 ·exact scB _
 ·exact scE _
 ·exact scD _
theorem zwm (s : Svn) (M : List (List PV)) (hM : M.length ≤ 100) (a : Act) (k : Nat) (hk : k < 7) (hki : IntKind.i64.wrap ((IntKind.u64.wrap a.i).tmod 7) = (k : Int)) (kd : Int) (hd : (IntKind.u64.wrap a.doo).tmod 18 = kd) (hsm : (s.at k).small) (hkd : 0 ≤ kd ∧ kd < 4) (R : Rft) (hR : R.small) (ys : List My) (hy : ∀ y ∈ ys, y.mg.snap.length ≤ 4294967 ∧ y.mg.entries.length ≤ 4294967) (hyl : ys.length ≤ 4294967)
    (kz:Ctr Tryz.prog 33 [.ag (s.at k).enc] (.tu [.ag R.enc,.sl 16 (ys.map My.enc)]) []) (kp:CtrE Tryz.prog 12 [.ag (rftE (s.at k))] [] (ownO (s.at k)) (.tu [.ag R.enc,.sl 16 (ys.map My.enc),iv 0]) [] (ownO (s.at k))) :
    CtrE Tryz.prog 11 [.pt 9990 0,.ag a.enc,bv false] [(9990,someI s M)] (someO M) (bv true) [(9990,someV (s.put k R) (.ow 1 0 (capM M (ys.map My.enc)).length))] [(9990,none),(1,some (false,16,capM M (ys.map My.enc)))]:=by
 have ksd:=zte (s.put k R) M ys hM
 have ksR:=ze5 R (zad hR.snap) (zad hR.log) (zad hR.reads)
 have ksY:=s_Mys ys (zad (by omega)) fun y h=>⟨zad (by have:=hy y h;omega),zad (by have:=hy y h;omega)⟩
 have spR:=z1n R (by have:=hR.snap;omega) (by have:=hR.log;omega) (by have:=hR.reads;omega)
 have spY:=sp_mys ys (by omega) fun y h=>⟨Nat.le_trans (hy y h).2 (by decide),Nat.le_trans (hy y h).1 (by decide)⟩
 have kt0:=zfb (s.at k) hsm.snap hsm.log hsm.reads
 have ks0:=ze5 (s.at k) (zad hsm.snap) (zad hsm.log) (zad hsm.reads)
 refine zay mixed Tryz.func11 rfl (by kernel_rfl) (by kernel_rfl) ?_
 refine tQ ?_
 refine tQ ?_
 refine tK2 ?_
 rw [hki]
 refine tCut (fun _:Unit=>True) (fun _=>[(8,.pt 8 0)]) (fun _=>[(9990,someI s M),(4,a.enc),(8,(s.at k).enc)]) (fun _=>someO M) ?_ ?_
 ·conv=>whnf
  refine ⟨⟨Int.natCast_nonneg _,Int.ofNat_lt.2 hk⟩,?_⟩
  conv=>whnf
  refine ze7 hk (by first | (show 0+0+((k:Nat):Int).toNat * 40=k * 40;omega) | (show 0+((k:Nat):Int).toNat * 40=k * 40;omega)) ?_
  conv=>whnf
  refine ⟨(),[(9990,9990)],True.intro,?_⟩
  exact wkE
 rintro _ _
 generalize hrr:s.at k=r at *
 conv=>whnf
 refine tQ ?_
 refine tC kt0 ?_
 refine tN3 ?_
 refine tQ ?_
 refine zfo (fun _:Unit=>True) (fun _=>[(10,bv true)]) (fun _=>[(9990,someV (s.put k R) (.ow 1000 0 (capM M (ys.map My.enc)).length)),(4,a.enc),(8,r.enc),(9,r.own 592)]) (fun _=>[(9990,none),(1000,some (false,16,capM M (ys.map My.enc))),(592,snO r),(593,lgO r),(594,rdO r)]) ?_ ?_
 ·refine tQ ?_
  refine tK2 ?_
  rw [hd]
  refine zff ?_
  refine tQ ?_
  refine zei ?_
  refine tK ?_
  refine tQ ?_
  refine tC kz ?_
  refine tN0 ?_
  refine zfo (fun _:Unit=>True) (fun _=>[(10,bv true)]) (fun _=>[(9990,someI s M),(4,a.enc),(8,r.enc),(9,r.own 592),(12,R.enc)]) (fun _=>[(9990,some (false,16,M)),(592,snO r),(593,lgO r),(594,rdO r)]) ?_ ?_
  ·refine tQ ?_
   refine zei ?_
   conv=>whnf
   refine tQ ?_
   refine Exists.intro (some ([],[(9990,592),(9991,593),(9992,594)],[(999996,0)])) ?_
   conv=>whnf
   refine z4f kp (ob_sc r _ _ _) ?_
   conv=>whnf
   refine tQ ?_
   refine tB0 ksR ?_
   refine tB0 ksY ?_
   refine zlw (kb:=14) spR spY ?_
   refine ⟨(),[(9990,9990),(592,592),(593,593),(594,594)],True.intro,?_⟩
   exact wkE
  rintro _ _
  conv=>whnf
  refine tZ ?_
  refine ⟨⟨Int.natCast_nonneg _,Int.ofNat_lt.2 hk⟩,?_⟩
  conv=>whnf
  refine zol hk (by first | (show 0+0+((k:Nat):Int).toNat * 40=k * 40;omega) | (show 0+((k:Nat):Int).toNat * 40=k * 40;omega)) ?_
  conv=>whnf
  refine Exists.intro (some ([(9990,9990)],[(9990,9990)],[(1,1001)])) ?_
  conv=>whnf
  refine zdw (r2:=.tu []) (wb:=[(9990,someV (s.put k R) (.ow 1001 0 (capM M (ys.map My.enc)).length))]) ksd (by kernel_rfl) (by kernel_rfl) (by kernel_rfl) (by kernel_rfl) (by kernel_rfl) ?_
  conv=>whnf
  refine ⟨(),[(9990,9990),(1000,1001),(592,592),(593,593),(594,594)],True.intro,?_⟩
  exact wkE
 rintro _ _
 refine tZ ?_
 refine tB0 ks0 ?_
 exact eX [(9990,9990),(1,1000)]
theorem res_nm {c:CSt}{y:My}{K:List (Nat×List PV)→List (Nat×Bool×Nat×List (List PV))→List PV→Prop} (h:K [] [] [.ag (lowP y.mg (.sl 16 (y.mg.entries.map Ent.enc)) (.sl 1 (y.mg.snap.map encB))),.ag y.enc]):unLK [.ag (lowP y.mg (.fs 16 (y.mg.entries.map Ent.enc)) (.fs 1 (y.mg.snap.map encB))),.ag y.enc] fun ps=>resAK c ps K:=by
 obtain ⟨kd,fr,tt,tm,ix,lt,cm,rd,ye,cf,bd⟩:=y
 cases bd<;>exact h
theorem zwf (s : Svn) (ms : List My) (hM : ms.length ≤ 100) (a : Act) (k : Nat) (hk : k < 7) (hki : IntKind.i64.wrap ((IntKind.u64.wrap a.i).tmod 7) = (k : Int)) (kd : Int) (hd : (IntKind.u64.wrap a.doo).tmod 18 = kd) (hsm : (s.at k).small) (j : Nat) (hj : j < ms.length) (hdr : IntKind.i64.wrap ((IntKind.u64.wrap a.n).tmod (IntKind.u64.wrap (ms.length : Int))) = (j : Int)) (y : My) (hy : ms[j]'hj = y) (hkd : 4 ≤ kd ∧ kd < 10) (t : Nat) (ht : t < 7) (hyt : y.to = (t : Int)) (hsm2 : (s.at t).small) (hyn : y.mg.snap.length ≤ 4294967 ∧ y.mg.entries.length ≤ 4294967) (R : Rft) (hR : R.small) (ys : List My) (hys : ∀ y ∈ ys, y.mg.snap.length ≤ 4294967 ∧ y.mg.entries.length ≤ 4294967) (hyl : ys.length ≤ 4294967)
    (kz:Ctr Tryz.prog 40 [.ag (s.at t).enc,.ag y.mg.enc] (.tu [.ag R.enc,.sl 16 (ys.map My.enc),iv 0]) []) (kp:CtrE Tryz.prog 14 [.ag (rftE (s.at t)),.ag y.mg.enc] [] (ownO (s.at t)) (.tu [.ag R.enc,.sl 16 (ys.map My.enc),iv 0]) [] (ownO (s.at t))) :
    CtrE Tryz.prog 11 [.pt 9990 0,.ag a.enc,bv false] [(9990,someI s (ms.map My.enc))] (someO (ms.map My.enc)) (bv true) [(9990,someV (s.put t R) (.ow 1 0 (capM ((ms.eraseIdx j).map My.enc) (ys.map My.enc)).length))] [(9990,some (false,16,ms.map My.enc)),(1,some (false,16,capM ((ms.eraseIdx j).map My.enc) (ys.map My.enc)))]:=by
 have hel:((ms.eraseIdx j).map My.enc).length≤100:=by rw [List.length_map,List.length_eraseIdx];split<;>omega
 have ksd:=zte (s.put t R) ((ms.eraseIdx j).map My.enc) ys hel
 have ksR:=ze5 R (zad hR.snap) (zad hR.log) (zad hR.reads)
 have ksY:=s_Mys ys (zad (by omega)) fun y h=>⟨zad (by have:=hys y h;omega),zad (by have:=hys y h;omega)⟩
 have spR:=z1n R (by have:=hR.snap;omega) (by have:=hR.log;omega) (by have:=hR.reads;omega)
 have spY:=sp_mys ys (by omega) fun y h=>⟨Nat.le_trans (hys y h).2 (by decide),Nat.le_trans (hys y h).1 (by decide)⟩
 have kt2:=zfb (s.at t) hsm2.snap hsm2.log hsm2.reads
 have ks2:=ze5 (s.at t) (zad hsm2.snap) (zad hsm2.log) (zad hsm2.reads)
 have km:=zmr y.mg rfl hyn.2 hyn.1
 have ksM:=z0r y.mg (zad (by omega)) (zad (by omega))
 have ko:=zr7 s ms hM j hj
 rw [hy] at ko
 have hml:(ms.map My.enc).length=ms.length:=List.length_map ..
 have hn0:¬ IntKind.u64.wrap ((ms.map My.enc).length:Int)=0:=by rw [hml,zbz (by omega) (by omega)];omega
 have hdr2:IntKind.i64.wrap ((IntKind.u64.wrap a.n).tmod (IntKind.u64.wrap ((ms.map My.enc).length:Int)))=(j:Int):=by rw [hml];exact hdr
 have hne:¬ ((ms.map My.enc).length:Int)=0:=by omega
 have hgt:((ms.map My.enc).length:Int) > 0:=by omega
 have kt0:=za4 (s.at k) hsm
 have ks0:=ze5 (s.at k) (zad hsm.snap) (zad hsm.log) (zad hsm.reads)
 refine zay mixed Tryz.func11 rfl (by kernel_rfl) (by kernel_rfl) ?_
 refine tQ ?_
 refine tQ ?_
 refine tK2 ?_
 rw [hki]
 refine tCut (fun _:Unit=>True) (fun _=>[(8,.pt 8 0)]) (fun _=>[(9990,someI s (ms.map My.enc)),(4,a.enc),(8,(s.at k).enc)]) (fun _=>someO (ms.map My.enc)) ?_ ?_
 ·conv=>whnf
  refine ⟨⟨Int.natCast_nonneg _,Int.ofNat_lt.2 hk⟩,?_⟩
  conv=>whnf
  refine ze7 hk (by first | (show 0+0+((k:Nat):Int).toNat * 40=k * 40;omega) | (show 0+((k:Nat):Int).toNat * 40=k * 40;omega)) ?_
  conv=>whnf
  refine ⟨(),[(9990,9990)],True.intro,?_⟩
  exact wkE
 rintro _ _
 generalize hrr:s.at k=r at *
 conv=>whnf
 refine tQ ?_
 refine tC kt0 ?_
 refine tN0 ?_
 refine tQ ?_
 refine zfo (fun _:Unit=>True) (fun _=>[(10,bv true),(8,.pt 8 0),(9,.pt 9 0)]) (fun _=>[(9990,someV (s.put t R) (.ow 1000 0 (capM ((ms.eraseIdx j).map My.enc) (ys.map My.enc)).length)),(4,a.enc),(8,(s.at t).enc),(9,(s.at t).own 2064)]) (fun _=>[(9990,some (false,16,ms.map My.enc)),(1000,some (false,16,capM ((ms.eraseIdx j).map My.enc) (ys.map My.enc))),(2064,snO (s.at t)),(2065,lgO (s.at t)),(2066,rdO (s.at t))]) ?_ ?_
 ·refine tQ ?_
  refine tK2 ?_
  rw [hd]
  refine zff ?_
  refine tQ ?_
  refine zei ?_
  refine tK ?_
  refine tQ ?_
  refine zei ?_
  refine tK ?_
  refine tQ ?_
  refine tK ?_
  refine tQ ?_
  refine ⟨⟨hn0,by decide⟩,?_⟩
  conv=>whnf
  rw [hdr2]
  refine Exists.intro (some ([(9990,9990)],[(9990,9990)],[(1,1002)])) ?_
  conv=>whnf
  refine zdw (r2:=.ag y.enc) (wb:=[(9990,someV s (.ow 1002 0 ((ms.eraseIdx j).map My.enc).length))]) ko (by kernel_rfl) (by kernel_rfl) (by kernel_rfl) (my_sh y) (by kernel_rfl) ?_
  conv=>whnf
  rw [zrr y]
  conv=>whnf
  refine tQ ?_
  refine tK ?_
  refine tK ?_
  refine tQ ?_
  refine ⟨⟨by omega,by omega⟩,?_⟩
  conv=>whnf
  refine ze7 ht (by first | (show 0+0+Int.toNat y.to * 40=t * 40;omega) | (show 0+Int.toNat y.to * 40=t * 40;omega)) ?_
  conv=>whnf
  refine tQ ?_
  refine tC kt2 ?_
  refine tN3 ?_
  refine tQ ?_
  refine Exists.intro none ?_
  show zjh _ _ _ _ _ _
  unfold zjh
  refine res_my ?_
  refine zfh kz (by (repeat' (first | exact zb1 | exact zb5 | refine zbo ?_ ?_ | refine zbn ?_ ?_ | exact SubV.refl _ | exact zcl | (with_reducible exact zdk rfl) | refine zdd ?_ | refine zdf ?_ | refine zde ?_))<;>first | exact zle _ | exact zlz _) ?_
  refine tN0 ?_
  refine zfo (fun _:Unit=>True) (fun _=>[(10,bv true),(17,.bad),(110,.bad),(111,.bad),(115,.bad),(119,.bad),(122,.bad),(132,.bad)]) (fun _=>[(9990,someV s (.ow 1002 0 ((ms.eraseIdx j).map My.enc).length)),(4,a.enc),(8,(s.at t).enc),(9,(s.at t).own 2064),(18,R.enc)]) (fun _=>[(9990,some (false,16,ms.map My.enc)),(1002,some (false,16,((ms.eraseIdx j).map My.enc))),(2064,snO (s.at t)),(2065,lgO (s.at t)),(2066,rdO (s.at t))]) ?_ ?_
  ·refine tQ ?_
   refine zei ?_
   conv=>whnf
   refine tQ ?_
   refine Exists.intro (some ([],[],[(999997,0)])) ?_
   show zmv _ _ _ _ _
   unfold zmv
   refine res_y1 ?_
   refine zm9 km (by (repeat' (first | exact zb1 | exact zb5 | refine zbo ?_ ?_ | refine zbn ?_ ?_ | exact SubV.refl _ | exact zcl | (with_reducible exact zdk rfl) | refine zdd ?_ | refine zdf ?_ | refine zde ?_))<;>first | exact zle _ | exact zlz _) ?_
   conv=>whnf
   refine tQ ?_
   refine Exists.intro (some ([],[(9990,2064),(9991,2065),(9992,2066)],[(999996,0)])) ?_
   conv=>whnf
   refine zme kp (by (repeat' (first | exact zb1 | exact zb5 | refine zbo ?_ ?_ | refine zbn ?_ ?_ | exact SubV.refl _ | exact zcl | (with_reducible exact zdk rfl) | refine zdd ?_ | refine zdf ?_ | refine zde ?_))) (ob_sc (s.at t) _ _ _) ?_
   conv=>whnf
   refine tQ ?_
   refine tB0 ksR ?_
   refine tB0 ksY ?_
   refine Exists.intro (some ([],[],[(999998,0)])) ?_
   show zm7 _ _ _ _ _ _
   unfold zm7
   refine res_nm ?_
   refine zfh ksM (by (repeat' (first | exact zb1 | exact zb5 | refine zbo ?_ ?_ | refine zbn ?_ ?_ | exact SubV.refl _ | exact zcl | (with_reducible exact zdk rfl) | refine zdd ?_ | refine zdf ?_ | refine zde ?_))<;>first | exact zle _ | exact zlz _) ?_
   conv=>whnf
   refine And.intro (by intro q hq;cases hq) ?_
   conv=>whnf
   refine Exists.intro _ (And.intro rfl (And.intro (by intro i hi;exact absurd hi (Nat.not_lt_zero i)) ?_))
   conv=>whnf
   refine zlw (kb:=22) spR spY ?_
   refine ⟨(),[(9990,9990),(1002,1002),(2064,2064),(2065,2065),(2066,2066)],True.intro,?_⟩
   exact wkE
  rintro _ _
  conv=>whnf
  refine tZ ?_
  refine ⟨⟨by omega,by omega⟩,?_⟩
  conv=>whnf
  refine zol ht (by first | (show 0+0+Int.toNat y.to * 40=t * 40;omega) | (show 0+Int.toNat y.to * 40=t * 40;omega)) ?_
  conv=>whnf
  refine Exists.intro (some ([(9990,9990)],[(9990,1002)],[(1,1001)])) ?_
  conv=>whnf
  refine zdw (r2:=.tu []) (wb:=[(9990,someV (s.put t R) (.ow 1001 0 (capM ((ms.eraseIdx j).map My.enc) (ys.map My.enc)).length))]) ksd (by kernel_rfl) (by kernel_rfl) (by kernel_rfl) (by kernel_rfl) (by kernel_rfl) ?_
  conv=>whnf
  refine ⟨(),[(9990,9990),(1000,1001),(2064,2064),(2065,2065),(2066,2066)],True.intro,?_⟩
  exact wkE
 rintro _ _
 refine tZ ?_
 refine tB0 ks2 ?_
 exact eX [(9990,9990),(1,1000)]
theorem zuy (s : Svn) (ms : List My) (hM : ms.length ≤ 100) (a : Act) (k : Nat) (hk : k < 7) (hki : IntKind.i64.wrap ((IntKind.u64.wrap a.i).tmod 7) = (k : Int)) (kd : Int) (hd : (IntKind.u64.wrap a.doo).tmod 18 = kd) (hsm : (s.at k).small) (j : Nat) (hj : j < ms.length) (hdr : IntKind.i64.wrap ((IntKind.u64.wrap a.n).tmod (IntKind.u64.wrap (ms.length : Int))) = (j : Int)) (y : My) (hy : ms[j]'hj = y) (hkd : 4 ≤ kd ∧ kd < 10) (t : Nat) (ht : t < 7) (hyt : y.to = (t : Int)) (hsm2 : (s.at t).small) (hyn : y.mg.snap.length ≤ 4294967 ∧ y.mg.entries.length ≤ 4294967) (E : Int) (hE : ¬ E = 0)
    (kz:Ctr Tryz.prog 40 [.ag (s.at t).enc,.ag y.mg.enc] (.tu [.ag rzv,.nl,iv E]) []) (kp:CtrE Tryz.prog 14 [.ag (rftE (s.at t)),.ag y.mg.enc] [] (ownO (s.at t)) (.tu [.ag rzv,.nl,iv E]) [] (ownO (s.at t))) :
    CtrE Tryz.prog 11 [.pt 9990 0,.ag a.enc,bv false] [(9990,someI s (ms.map My.enc))] (someO (ms.map My.enc)) (bv true) [(9990,someV s (.ow 1 0 ((ms.eraseIdx j).map My.enc).length))] [(9990,some (false,16,ms.map My.enc)),(1,some (false,16,((ms.eraseIdx j).map My.enc)))]:=by
 have kt2:=zfb (s.at t) hsm2.snap hsm2.log hsm2.reads
 have ks2:=ze5 (s.at t) (zad hsm2.snap) (zad hsm2.log) (zad hsm2.reads)
 have km:=zmr y.mg rfl hyn.2 hyn.1
 have ksM:=z0r y.mg (zad (by omega)) (zad (by omega))
 have ko:=zr7 s ms hM j hj
 rw [hy] at ko
 have hml:(ms.map My.enc).length=ms.length:=List.length_map ..
 have hn0:¬ IntKind.u64.wrap ((ms.map My.enc).length:Int)=0:=by rw [hml,zbz (by omega) (by omega)];omega
 have hdr2:IntKind.i64.wrap ((IntKind.u64.wrap a.n).tmod (IntKind.u64.wrap ((ms.map My.enc).length:Int)))=(j:Int):=by rw [hml];exact hdr
 have hne:¬ ((ms.map My.enc).length:Int)=0:=by omega
 have hgt:((ms.map My.enc).length:Int) > 0:=by omega
 have kt0:=za4 (s.at k) hsm
 have ks0:=ze5 (s.at k) (zad hsm.snap) (zad hsm.log) (zad hsm.reads)
 refine zay mixed Tryz.func11 rfl (by kernel_rfl) (by kernel_rfl) ?_
 refine tQ ?_
 refine tQ ?_
 refine tK2 ?_
 rw [hki]
 refine tCut (fun _:Unit=>True) (fun _=>[(8,.pt 8 0)]) (fun _=>[(9990,someI s (ms.map My.enc)),(4,a.enc),(8,(s.at k).enc)]) (fun _=>someO (ms.map My.enc)) ?_ ?_
 ·conv=>whnf
  refine ⟨⟨Int.natCast_nonneg _,Int.ofNat_lt.2 hk⟩,?_⟩
  conv=>whnf
  refine ze7 hk (by first | (show 0+0+((k:Nat):Int).toNat * 40=k * 40;omega) | (show 0+((k:Nat):Int).toNat * 40=k * 40;omega)) ?_
  conv=>whnf
  refine ⟨(),[(9990,9990)],True.intro,?_⟩
  exact wkE
 rintro _ _
 generalize hrr:s.at k=r at *
 conv=>whnf
 refine tQ ?_
 refine tC kt0 ?_
 refine tN0 ?_
 refine tQ ?_
 refine zfo (fun _:Unit=>True) (fun _=>[(10,bv true),(8,.pt 8 0),(9,.pt 9 0)]) (fun _=>[(9990,someV (s) (.ow 1000 0 (((ms.eraseIdx j).map My.enc)).length)),(4,a.enc),(8,(s.at t).enc),(9,(s.at t).own 2064)]) (fun _=>[(9990,some (false,16,ms.map My.enc)),(1000,some (false,16,((ms.eraseIdx j).map My.enc))),(2064,snO (s.at t)),(2065,lgO (s.at t)),(2066,rdO (s.at t))]) ?_ ?_
 ·refine tQ ?_
  refine tK2 ?_
  rw [hd]
  refine zff ?_
  refine tQ ?_
  refine zei ?_
  refine tK ?_
  refine tQ ?_
  refine zei ?_
  refine tK ?_
  refine tQ ?_
  refine tK ?_
  refine tQ ?_
  refine ⟨⟨hn0,by decide⟩,?_⟩
  conv=>whnf
  rw [hdr2]
  refine Exists.intro (some ([(9990,9990)],[(9990,9990)],[(1,1002)])) ?_
  conv=>whnf
  refine zdw (r2:=.ag y.enc) (wb:=[(9990,someV s (.ow 1002 0 ((ms.eraseIdx j).map My.enc).length))]) ko (by kernel_rfl) (by kernel_rfl) (by kernel_rfl) (my_sh y) (by kernel_rfl) ?_
  conv=>whnf
  rw [zrr y]
  conv=>whnf
  refine tQ ?_
  refine tK ?_
  refine tK ?_
  refine tQ ?_
  refine ⟨⟨by omega,by omega⟩,?_⟩
  conv=>whnf
  refine ze7 ht (by first | (show 0+0+Int.toNat y.to * 40=t * 40;omega) | (show 0+Int.toNat y.to * 40=t * 40;omega)) ?_
  conv=>whnf
  refine tQ ?_
  refine tC kt2 ?_
  refine tN3 ?_
  refine tQ ?_
  refine Exists.intro none ?_
  show zjh _ _ _ _ _ _
  unfold zjh
  refine res_my ?_
  refine zfh kz (by (repeat' (first | exact zb1 | exact zb5 | refine zbo ?_ ?_ | refine zbn ?_ ?_ | exact SubV.refl _ | exact zcl | (with_reducible exact zdk rfl) | refine zdd ?_ | refine zdf ?_ | refine zde ?_))<;>first | exact zle _ | exact zlz _) ?_
  conv=>whnf
  refine zfo (fun _:Unit=>True) (fun _=>[(10,bv true),(17,.bad),(110,.bad),(111,.bad),(115,.bad),(119,.bad),(122,.bad),(132,.bad)]) (fun _=>[(9990,someV s (.ow 1002 0 ((ms.eraseIdx j).map My.enc).length)),(4,a.enc),(8,(s.at t).enc),(9,(s.at t).own 2064),(18,rzv)]) (fun _=>[(9990,some (false,16,ms.map My.enc)),(1002,some (false,16,((ms.eraseIdx j).map My.enc))),(2064,snO (s.at t)),(2065,lgO (s.at t)),(2066,rdO (s.at t))]) ?_ ?_
  ·refine tQ ?_
   refine zei ?_
   conv=>whnf
   refine tQ ?_
   refine Exists.intro (some ([],[],[(999997,0)])) ?_
   show zmv _ _ _ _ _
   unfold zmv
   refine res_y1 ?_
   refine zm9 km (by (repeat' (first | exact zb1 | exact zb5 | refine zbo ?_ ?_ | refine zbn ?_ ?_ | exact SubV.refl _ | exact zcl | (with_reducible exact zdk rfl) | refine zdd ?_ | refine zdf ?_ | refine zde ?_))<;>first | exact zle _ | exact zlz _) ?_
   conv=>whnf
   refine tQ ?_
   refine Exists.intro (some ([],[(9990,2064),(9991,2065),(9992,2066)],[(999996,0)])) ?_
   conv=>whnf
   refine zme kp (by (repeat' (first | exact zb1 | exact zb5 | refine zbo ?_ ?_ | refine zbn ?_ ?_ | exact SubV.refl _ | exact zcl | (with_reducible exact zdk rfl) | refine zdd ?_ | refine zdf ?_ | refine zde ?_))) (ob_sc (s.at t) _ _ _) ?_
   conv=>whnf
   refine tQ ?_
   refine tSame ?_
   refine tB0 s_rz ?_
   refine tB0 s_nls ?_
   refine Exists.intro (some ([],[],[(999998,0)])) ?_
   show zm7 _ _ _ _ _ _
   unfold zm7
   refine res_nm ?_
   refine zfh ksM (by (repeat' (first | exact zb1 | exact zb5 | refine zbo ?_ ?_ | refine zbn ?_ ?_ | exact SubV.refl _ | exact zcl | (with_reducible exact zdk rfl) | refine zdd ?_ | refine zdf ?_ | refine zde ?_))<;>first | exact zle _ | exact zlz _) ?_
   conv=>whnf
   refine And.intro (by intro q hq;cases hq) ?_
   conv=>whnf
   refine Exists.intro _ (And.intro rfl (And.intro (by intro i hi;exact absurd hi (Nat.not_lt_zero i)) ?_))
   conv=>whnf
   refine zlw (kb:=22) sp_rz sp_nl ?_
   refine ⟨(),[(9990,9990),(1002,1002),(2064,2064),(2065,2065),(2066,2066)],True.intro,?_⟩
   exact wkE
  rintro _ _
  conv=>whnf
  refine tZ ?_
  refine tK ?_
  refine ⟨(),[(9990,9990),(1000,1002),(2064,2064),(2065,2065),(2066,2066)],True.intro,?_⟩
  exact wkE
 rintro _ _
 refine tZ ?_
 refine tB0 ks2 ?_
 exact eX [(9990,9990),(1,1000)]
end Go.Proofs
