import Derived.Test.YtbhfokahocgndabGreatR6
/- Plain law of safety: messages that are taken, acts. -/
set_option linter.unusedSimpArgs false
set_option linter.unusedVariables false
namespace Go.Proofs
open Go.Pv
set_option maxRecDepth 100000
theorem zpf {m : Mg} (h : 0 ≤ m.frm ∧ m.frm < 7) : ((m.frm.toNat : Nat) : Int) = m.frm := Int.toNat_of_nonneg h.1
theorem tb_vt {x : Rft} {m : Mg} (hf : 0 ≤ m.frm ∧ m.frm < 7) {i : Nat} (h : tb (bor x.votes (shl 1 m.frm)) i = true) : tb x.votes i = true ∨ i = m.frm.toNat := by
 rw [tb_or, Bool.or_eq_true] at h
 rcases h with h | h
 ·exact .inl h
 ·have e : tb (shl 1 ((m.frm.toNat : Nat) : Int)) i = true := by rw [zpf hf]; exact h
  rw [zec _ _ (by omega), decide_eq_true_eq] at e
  exact .inr e.symm
theorem nx_k4 {B : Nat} {n : Nat} {H : Hist} {N : Nat → Nd} (I : GI H N) {v : Nat} (hv : v < 7) {x : Rft} (hp : Rp n v x) (hn : n ≤ 199) {G : List Ent} {b : Nat} (hN : N v = ndR x G) (k : HG H.c0 x.hard b G) {m : Mg} (hf : 0 ≤ m.frm ∧ m.frm < 7) (hkd : m.kind = 4) (hy : m.yes = true)
    (ht : x.hard.term = m.term) (hto : m.to = x.id) (hF : MF H B m) (hbB : b ≤ B := by assumption) : NX H B N v (k4R x m) (k4O x m) := by
 unfold k4R k4O
 by_cases h1 : x.role = 2
 ·rw [if_pos h1, if_pos h1]
  obtain ⟨D, hD⟩ := hF.vtd hkd hy
  rw [hto, hp.id, Int.toNat_natCast, ← ht] at hD
  have I1 : GI H (upd N v (ndR (vtR x m) G)) := zzi I hv (by rw [hN]; exact h1) (by rw [hN]; rfl) (by rw [hN]; rfl) (by rw [hN]; rfl) h1 (by rw [hN]; rfl) (fun i hi e => by
   rcases tb_vt (x := x) hf e with e | e
   ·exact .inl (by rw [hN]; exact e)
   ·refine .inr ⟨D, ?_⟩
    rw [e]
    exact hD)
  have hvt := vt_rp hp hf
  by_cases hq : za0 (zac (vtR x m)) (vtR x m).votes = true
  ·rw [if_pos hq, if_pos hq]
   exact NX.trans (Grows.refl H) (zxa I1 hv hvt hn (za9 ..) k h1 hq)
  ·rw [if_neg hq, if_neg hq]
   exact ⟨H, G, Grows.refl H, I1, ⟨b, hbB, k⟩, za1⟩
 ·rw [if_neg h1, if_neg h1]
  exact zcg I hN k za1
theorem nx_k2 {B : Nat} {n : Nat} {H : Hist} {N : Nat → Nd} (I : GI H N) {v : Nat} (hv : v < 7) {x : Rft} (hp : Rp n v x) (hn : n ≤ 199) {G : List Ent} {b : Nat} (hN : N v = ndR x G) (k : HG H.c0 x.hard b G) {m : Mg} (hf : 0 ≤ m.frm ∧ m.frm < 7) (hbB : b ≤ B := by assumption) : NX H B N v (k2R x m) (k2O x m) := by
 unfold k2R k2O
 by_cases h1 : x.role = 1
 ·rw [if_pos h1, if_pos h1]
  by_cases h2 : m.term = x.hard.term + 1
  ·rw [if_pos h2, if_pos h2]
   have I1 : GI H (upd N v (ndR (vtR x m) G)) := gi_wk I hv hN (Int.le_refl _) (Int.le_refl _) (fun _ => rfl) ⟨by show ¬ x.role = 2; omega, by show ¬ x.role = 3; omega⟩
   by_cases hq : za0 (zac (vtR x m)) (vtR x m).votes = true
   ·rw [if_pos hq, if_pos hq]
    exact NX.trans (Grows.refl H) (zl2 I1 hv (vt_rp hp hf) hn (show x.reads = [] from zew hp.rgt (by omega)) (za9 ..) k)
   ·rw [if_neg hq, if_neg hq]
    exact ⟨H, G, Grows.refl H, I1, ⟨b, hbB, k⟩, za1⟩
  ·rw [if_neg h2, if_neg h2]
   exact zcg I hN k za1
 ·rw [if_neg h1, if_neg h1]
  exact zcg I hN k za1
theorem nx_k3 {B : Nat} {n : Nat} {H : Hist} {N : Nat → Nd} (I : GI H N) {v : Nat} (hv : v < 7) {x : Rft} (hp : Rp n v x) (hn : n ≤ 199) {G : List Ent} {b : Nat} (hN : N v = ndR x G) (k : HG H.c0 x.hard b G) {m : Mg} (hf : 0 ≤ m.frm ∧ m.frm < 7) (hkd : m.kind = 3) (hF : MF H B m) (hbB : b ≤ B := by assumption) :
    NX H B N v (k3R x m) (k3O x m) := by
 obtain ⟨hs, hb⟩ := zia hp (by omega) k
 unfold k3R k3O
 by_cases hvo : voted x m = true
 ·rw [if_pos hvo, if_pos hvo]
  unfold voted at hvo
  simp only [Bool.and_eq_true, Bool.or_eq_true, beq_iff_eq] at hvo
  obtain ⟨a1, a2, a3⟩ := hvo
  obtain ⟨D, d1, d2, d3⟩ := hF.vote hkd
  unfold newer at a3
  simp only [Bool.and_eq_true, Bool.or_eq_true, beq_iff_eq, decide_eq_true_eq] at a3
  rw [k.lastT, k.last (by omega), d2, d3] at a3
  have eH : (fallR (vdR x m) x.hard.term (-1)).hard = (vdR x m).hard := zd3 (vdR x m) (-1)
  obtain ⟨H1, g1, I1, e1⟩ := gi_vote I hv (c := m.frm.toNat) (D := D) (d := ndR (fallR (vdR x m) x.hard.term (-1)) G) (by rw [hN]; show H.VD _ x.hard.term _ D; rw [← a1]; exact d1) (by rw [hN, zpf hf]; exact a2) (by
      rw [hN]
      show za6 G < za6 D ∨ (za6 G = za6 D ∧ G.length ≤ D.length)
      rcases a3 with a3 | a3
      ·exact .inl a3
      ·exact .inr ⟨a3.1.symm, by omega⟩) (by rw [hN]; rfl) (by rw [hN]; show (fallR (vdR x m) x.hard.term (-1)).hard.term = _; rw [eH]; rfl) (by show (fallR (vdR x m) x.hard.term (-1)).hard.vote = _; rw [eH, zpf hf]) ⟨by show ¬ (0 : Int) = 2; decide, by show ¬ (0 : Int) = 3; decide⟩ (by rw [hN]; exact Nat.le_refl _)
  refine ⟨H1, G, g1, I1, ⟨b, hbB, by rw [eH]; exact ⟨k.base, k.le, k.log, k.bt, k.bc⟩⟩, ?_⟩
  refine zhc ⟨4, (fallR (vdR x m) x.hard.term (-1)).id, m.frm, (fallR (vdR x m) x.hard.term (-1)).hard.term, 0, 0, 0, 0, true, cz, .no⟩ ⟨fun e => absurd e (by show ¬ (4 : Int) = 3; decide), fun _ _ => ⟨D, ?_⟩, fun e => absurd e (by show ¬ (4 : Int) = 5; decide), fun e => absurd e (by show ¬ (4 : Int) = 6; decide), fun e => absurd e (by show ¬ (4 : Int) = 7; decide)⟩
  show H1.VD x.id.toNat (fallR (vdR x m) x.hard.term (-1)).hard.term m.frm.toNat D
  rw [hp.id, Int.toNat_natCast]
  exact e1
 ·rw [if_neg hvo, if_neg hvo]
  exact zcg I hN k (zdy ⟨4, x.id, m.frm, x.hard.term, 0, 0, 0, 0, false, cz, .no⟩ (.inr (.inr (.inr ⟨.inl rfl, rfl⟩))))
theorem nx_k8 {B : Nat} {n : Nat} {H : Hist} {N : Nat → Nd} (I : GI H N) {v : Nat} (hv : v < 7) {x : Rft} (hp : Rp n v x) (hn : n ≤ 199) {G : List Ent} {b : Nat} (hN : N v = ndR x G) (k : HG H.c0 x.hard b G) {m : Mg} (hne : m.frm ≠ x.id) (hbB : b ≤ B := by assumption) : NX H B N v (k8R x m) (k8O x m) := by
 unfold k8R k8O
 by_cases h1 : zc7 x = true
 ·rw [if_pos h1, if_pos h1]
  by_cases h2 : x.lead = m.frm
  ·rw [if_pos h2, if_pos h2]
   exact zl2 I hv hp hn (zew hp.rgt fun e => hne (by rw [← h2]; exact hp.rgt.own e)) hN k
  ·rw [if_neg h2, if_neg h2]
   exact zcg I hN k za1
 ·rw [if_neg h1, if_neg h1]
  exact zcg I hN k za1
theorem nx_app {B : Nat} {n : Nat} {H : Hist} {N : Nat → Nd} (I : GI H N) {v : Nat} (hv : v < 7) {x : Rft} (hp : Rp n v x) (hn : n ≤ 199) {G : List Ent} {b : Nat} (hN : N v = ndR x G) (k : HG H.c0 x.hard b G) {m : Mg} (hkd : m.kind = 5) (ht : x.hard.term = m.term) (hF : MF H B m) (he : appE x m = 0) (hbB : b ≤ B := by assumption) :
    NX H B N v (appR x m) (appO x m) := by
 unfold appE at he
 unfold appR appO
 by_cases h3 : x.role = 3
 ·rw [if_pos h3, if_pos h3]
  exact zcg I hN k za1
 ·rw [if_neg h3] at he
  rw [if_neg h3, if_neg h3, if_pos he, if_pos he]
  obtain ⟨hs, hb⟩ := zia hp (by omega) k
  obtain ⟨p, e1, lp, jc, jc0⟩ := hF.app hkd
  rw [← ht] at lp jc
  have ni := I.nd v hv
  rw [hN] at ni
  have hbase := k.base
  have hsum := k.sum
  have hcb := hp.rgt.com.1
  have jx : JG H x.hard.term G x.commit.toNat := ni.com
  have jb : G.take b = (H.LL x.hard.term).take b := (jx.le (by omega)).lead I.st lp.ne
  have hbL : b ≤ (H.LL x.hard.term).length := zdn jb.symm k.le
  have l1 := lp.ne
  have l2 := lp.le
  have l3 := lp.es
  have l4 := lp.lt
  have lm : LM H (H.LL x.hard.term) := I.st.llm _
  have hq : ∃ (q : Nat) (l : List Ent), gP x.hard m = q ∧ b ≤ q ∧ q + l.length ≤ (H.LL x.hard.term).length ∧ gL x.hard m = l ∧ l = ((H.LL x.hard.term).drop q).take l.length ∧ gT x.hard m = za6 ((H.LL x.hard.term).take q) := by
   unfold gP gT gL
   by_cases hi : m.index < x.hard.base
   ·rw [if_pos hi, if_pos hi]
    refine ⟨b, m.entries.drop (x.hard.base - m.index).toNat, hbase, Nat.le_refl _, ?_, rfl, ?_, ?_⟩
    ·rw [List.length_drop]; omega
    ·rw [List.length_drop]
     have e : (x.hard.base - m.index).toNat = b - p := by omega
     have e2 : ((H.LL x.hard.term).drop p).drop (b - p) = (H.LL x.hard.term).drop b := by
      rw [List.drop_drop]; congr 1; omega
     rw [e]
     conv => lhs; rw [l3]
     rw [List.drop_take, e2]
    ·rw [k.bt, jb]
   ·rw [if_neg hi, if_neg hi]
    exact ⟨p, m.entries, e1, by omega, l2, by rw [show (x.hard.base - m.index).toNat = 0 by omega]; rfl, l3, l4⟩
  obtain ⟨q, l, eq, hbq, hql, eL, hl, eT⟩ := hq
  have eH : ∀ (h : Hrd) (c : Int), (folR (setH x h c) m).hard = h := fun h c => zd3 (setH x h c) m.frm
  cases hf : fits x.hard (gP x.hard m) (gT x.hard m) with
  | false =>
   have eo : growO x.hard x.commit m = ⟨x.hard, x.commit, false, emax (emin (lastI x.hard) (gP x.hard m - 1)) x.hard.base⟩ := if_neg (by rw [hf]; decide)
   rw [eo]
   exact zoy I hv (R := folR (setH x x.hard x.commit) m) hN (by rw [eH]; exact k) (by rw [eH]; exact Int.le_refl _) (Int.le_refl _) (fun _ => by rw [eH]) ⟨by show ¬ (0 : Int) = 2; decide, by show ¬ (0 : Int) = 3; decide⟩
    (zdy ⟨6, _, m.frm, _, _, 0, 0, m.round, false, cz, .no⟩ (.inr (.inr (.inr ⟨.inr rfl, rfl⟩))))
  | true =>
   have eo : growO x.hard x.commit m = ⟨putH x.hard (gP x.hard m) (gL x.hard m), emax x.commit (emin m.commit (gP x.hard m + (gL x.hard m).length)), true, gP x.hard m + (gL x.hard m).length⟩ := if_pos hf
   rw [eo]
   obtain ⟨f1, f2⟩ := zn3 hf
   have hqG : q ≤ G.length := by
    by_cases e : q = b
    ·have := k.le; omega
    ·have := zka f1 hf (by omega)
     omega
   rw [eq, eL] at *
   have e5 : za6 (G.take q) = za6 ((H.LL x.hard.term).take q) := by
    rw [← k.term (i := (q : Int)) rfl hbq hqG, f2, eT]
   have e6 : G.take q = (H.LL x.hard.term).take q := by
    by_cases e : q = 0
    ·rw [e]; rfl
    ·obtain ⟨y, hy⟩ := zci (A := G) (i := q - 1) (by omega)
     obtain ⟨z, hz⟩ := zci (A := H.LL x.hard.term) (i := q - 1) (by omega)
     have ey := zc3 hy
     have ez := zc3 hz
     rw [show q - 1 + 1 = q by omega] at ey ez
     have := LM.match ni.lm lm (q - 1) y z hy hz (by omega)
     rwa [show q - 1 + 1 = q by omega] at this
   have hput := k.put (n := q - b) (by omega) l
   rw [show b + (q - b) = q by omega] at hput
   have m1 : LM H G := ni.lm
   have halt := zra (LM.match m1 lm) l.length q e6 hqG hql
   rw [← hl] at halt
   generalize hG' : G.take q ++ putM (G.drop q) l = G' at *
   have ep : putH x.hard (q : Int) l = { x.hard with log := putG x.hard.log (q - b) l } := by
    unfold putH
    rw [show ((q : Int) - x.hard.base).toNat = q - b by omega]
   have hcm : (emax x.commit (emin m.commit ((q : Int) + l.length))).toNat ≤ x.commit.toNat ∨ ((emax x.commit (emin m.commit ((q : Int) + l.length))).toNat ≤ q + l.length ∧ (emax x.commit (emin m.commit ((q : Int) + l.length))).toNat ≤ m.commit.toNat) := by
    simp only [zvs, zmp]
    omega
   generalize emax x.commit (emin m.commit ((q : Int) + l.length)) = c' at *
   rw [ep]
   generalize hh : ({ x.hard with log := putG x.hard.log (q - b) l } : Hrd) = h' at *
   have ht' : h'.term = x.hard.term := by rw [← hh]
   have hv' : h'.vote = x.hard.vote := by rw [← hh]
   obtain ⟨H1, g1, I1, ak⟩ := zj9 I hv (n := q + l.length) (d := ndR (folR (setH x h' c') m) G') (by rw [hN]; exact l1) (by rw [hN]; exact hql) (by
       rw [hN]
       rcases halt with ⟨a1, a2⟩ | ⟨a1, a2⟩
       ·exact .inl ⟨a1, a2⟩
       ·exact .inr ⟨a1, a2⟩) (by rw [hN]; show (folR (setH x h' c') m).hard.term = _; rw [eH]; exact ht') (by rw [hN]; show (folR (setH x h' c') m).hard.vote = _; rw [eH]; exact hv') ⟨by show ¬ (0 : Int) = 2; decide, by show ¬ (0 : Int) = 3; decide⟩ (by
       rw [hN]
       show c'.toNat ≤ x.commit.toNat ∨ (c'.toNat ≤ q + l.length ∧ JG H x.hard.term (H.LL x.hard.term) c'.toNat)
       rcases hcm with a | ⟨a1, a2⟩
       ·exact .inl a
       ·exact .inr ⟨a1, jc.le a2⟩)
   refine ⟨H1, G', g1, I1, ⟨b, hbB, by rw [eH]; exact hput⟩, zhc ⟨6, (folR (setH x h' c') m).id, m.frm, (folR (setH x h' c') m).hard.term, (q : Int) + l.length, 0, 0, m.round, true, cz, .no⟩ ⟨fun e => absurd e (by show ¬ (6 : Int) = 3; decide), fun e => absurd e (by show ¬ (6 : Int) = 4; decide), fun e => absurd e (by show ¬ (6 : Int) = 5; decide), fun _ _ j hj => ?_, fun e => absurd e (by show ¬ (6 : Int) = 7; decide)⟩⟩
   have hj : (j : Int) ≤ (q : Int) + l.length := hj
   show H1.AK x.id.toNat (folR (setH x h' c') m).hard.term j
   rw [hp.id, Int.toNat_natCast]
   exact ak j (by omega)
theorem nx_ins {B : Nat} {n : Nat} {H : Hist} {N : Nat → Nd} (I : GI H N) {v : Nat} (hv : v < 7) {x : Rft} (hp : Rp n v x) (hn : n ≤ 199) {G : List Ent} {b : Nat} (hN : N v = ndR x G) (k : HG H.c0 x.hard b G) {m : Mg} (hkd : m.kind = 7) (ht : x.hard.term = m.term) (hF : MF H B m) (he : insE x m = 0) (hbB : b ≤ B := by assumption) :
    NX H B N v (insR x m) (insO x m) := by
 unfold insE at he
 unfold insR insO
 by_cases h3 : x.role = 3
 ·rw [if_pos h3, if_pos h3]
  exact zcg I hN k za1
 ·rw [if_neg h3] at he
  rw [if_neg h3, if_neg h3]
  obtain ⟨hs, hb⟩ := zia hp (by omega) k
  obtain ⟨i, e1, hiB, lp, hcf, ji⟩ := hF.snp hkd
  rw [← ht] at lp hcf ji
  have ni := I.nd v hv
  rw [hN] at ni
  have hbase := k.base
  have hcb := hp.rgt.com.1
  have jx : JG H x.hard.term G x.commit.toNat := ni.com
  have l1 := lp.ne
  have l2 := lp.le0
  have lm : LM H (H.LL x.hard.term) := I.st.llm _
  have eH : ∀ (h : Hrd) (c : Int), (folR (setH x h c) m).hard = h := fun h c => zd3 (setH x h c) m.frm
  have row : ∀ (H1 : Hist) (R : Rft) (j0 : Int), R.id = x.id → (∀ j : Nat, (j : Int) ≤ j0 → H1.AK v (folR R m).hard.term j) → RowsF H1 B [folM R m j0 true] := fun H1 R j0 hR ha =>
   zhc ⟨6, (folR R m).id, m.frm, (folR R m).hard.term, j0, 0, 0, m.round, true, cz, .no⟩ ⟨fun e => absurd e (by show ¬ (6 : Int) = 3; decide), fun e => absurd e (by show ¬ (6 : Int) = 4; decide), fun e => absurd e (by show ¬ (6 : Int) = 5; decide), fun _ _ j hj => by
    show H1.AK R.id.toNat (folR R m).hard.term j
    rw [hR, hp.id, Int.toNat_natCast]
    exact ha j hj, fun e => absurd e (by show ¬ (6 : Int) = 7; decide)⟩
  by_cases h4 : x.commit < m.index
  ·rw [if_pos h4] at he
   rw [if_pos h4, if_pos h4, if_pos he, if_pos he]
   have hi1 : 1 ≤ i := by omega
   obtain ⟨z, hz⟩ := zci (A := H.LL x.hard.term) (i := i - 1) (by omega)
   have ez := zc3 hz
   rw [show i - 1 + 1 = i by omega] at ez
   have hpos := I.st.pos (lm.led hz)
   obtain ⟨G', kg, alt⟩ := k.inst (LM.match ni.lm lm) hi1 l2 (by omega) (s := m.snap) (by omega) (by omega)
   have eI : insHH x m = instH x.hard i (za6 ((H.LL x.hard.term).take i)) (cfL H.c0 ((H.LL x.hard.term).take i)) m.snap := by
    show instH x.hard m.index m.logTerm m.conf m.snap = _
    rw [e1, lp.lt, hcf]
   rw [← eI] at kg
   have ht' : (insHH x m).term = x.hard.term := rfl
   have hv' : (insHH x m).vote = x.hard.vote := rfl
   generalize insHH x m = h' at *
   obtain ⟨H1, g1, I1, ak⟩ := zj9 I hv (n := i) (d := ndR (folR (setH x h' m.index) m) G') (by rw [hN]; exact l1) (by rw [hN]; exact l2) (by rw [hN]; exact alt) (by rw [hN]; show (folR (setH x h' m.index) m).hard.term = _; rw [eH]; exact ht') (by rw [hN]; show (folR (setH x h' m.index) m).hard.vote = _; rw [eH]; exact hv')
    ⟨by show ¬ (0 : Int) = 2; decide, by show ¬ (0 : Int) = 3; decide⟩ (by
     rw [hN]
     refine .inr ⟨?_, ?_⟩
     ·show m.index.toNat ≤ i; omega
     ·show JG H x.hard.term (H.LL x.hard.term) m.index.toNat
      rw [show m.index.toNat = i by omega]; exact ji)
   exact ⟨H1, G', g1, I1, ⟨i, hiB, by rw [eH]; exact kg⟩, row H1 (setH x h' m.index) m.index rfl fun j hj => ak j (by omega)⟩
  ·rw [if_neg h4, if_neg h4]
   have e6 := jx.lead I.st l1
   have hcG := jx.len I.st
   have eH0 : (folR x m).hard = x.hard := zd3 x m.frm
   obtain ⟨H1, g1, I1, ak⟩ := zj9 I hv (n := x.commit.toNat) (d := ndR (folR x m) G) (by rw [hN]; exact l1) (by rw [hN]; exact zdn e6.symm hcG) (by rw [hN]; exact .inl ⟨e6, rfl⟩) (by rw [hN]; show (folR x m).hard.term = _; rw [eH0]; rfl) (by rw [hN]; show (folR x m).hard.vote = _; rw [eH0]; rfl)
    ⟨by show ¬ (0 : Int) = 2; decide, by show ¬ (0 : Int) = 3; decide⟩ (by rw [hN]; exact .inl (Nat.le_refl _))
   exact ⟨H1, G, g1, I1, ⟨b, hbB, by rw [eH0]; exact k⟩, row H1 x x.commit rfl fun j hj => ak j (by omega)⟩
theorem nx_lrn {B : Nat} {n : Nat} {H : Hist} {N : Nat → Nd} (I : GI H N) {v : Nat} (hv : v < 7) {x : Rft} (hp : Rp n v x) (hn : n ≤ 199) {G : List Ent} {b : Nat} (hN : N v = ndR x G) (k : HG H.c0 x.hard b G) {m : Mg} (hf : 0 ≤ m.frm ∧ m.frm < 7) (hkd : m.kind = 6) (ht : x.hard.term = m.term) (hF : MF H B m) (hbB : b ≤ B := by assumption) :
    NX H B N v (zck x m) [] := by
 unfold zck
 by_cases h3 : x.role = 3
 ·rw [if_pos h3]
  obtain ⟨hs, hb⟩ := zia hp (by omega) k
  have h1 := hp.led (by omega)
  have I1 : GI H (upd N v (ndR { x with silent := x.silent.put m.frm.toNat 0, next := lrnNx x m, mtch := lrnMt x m, reads := x.reads.map (ack1 m.frm m.round), commit := x.commit } G)) :=
   zx7 I hv (by rw [hN]; exact h3) (by rw [hN]; rfl) (by rw [hN]; rfl) (by rw [hN]; rfl) h3 (by rw [hN]; rfl) (fun i hi j hj hle => by
    rw [hN]
    have hl2 : j ≤ ((lrnMt x m).at i).toNat := hle
    clear hle
    show j ≤ (x.mtch.at i).toNat ∨ H.AK i x.hard.term j
    rw [zp6 _ _ (by omega) hi] at hl2
    split at hl2
    ·rename_i e
     subst e
     unfold nxM at hl2
     cases hy : m.yes with
     | false =>
      rw [hy, if_neg (by decide)] at hl2
      exact .inl hl2
     | true =>
      rw [hy, if_pos rfl] at hl2
      by_cases hc : j ≤ (x.mtch.at m.frm.toNat).toNat
      ·exact .inl hc
      ·refine .inr ?_
       rw [ht]
       refine hF.ans hkd hy j ?_
       have : lrnI x m ≤ m.index := by
        show (if lastI x.hard < m.index then lastI x.hard else m.index) ≤ m.index
        split <;> omega
       omega
    ·exact .inl hl2)
  obtain ⟨H2, g2, I2⟩ := zhn I1 hv (R := { x with silent := x.silent.put m.frm.toNat 0, next := lrnNx x m, mtch := lrnMt x m, reads := x.reads.map (ack1 m.frm m.round), commit := zdt x.hard x.commit (lrnMt x m) }) (G := G) (b := b) (c := x.commit) (za9 ..) h3 k (by omega) hp.rgt.com.1 h1 rfl
  rw [zmi] at I2
  exact ⟨H2, G, g2, I2, ⟨b, hbB, k⟩, za1⟩
 ·rw [if_neg h3]
  exact zcg I hN k za1
theorem zya {B : Nat} {H : Hist} (r : Rft) (m : Mg) : RowsF H B (zlt r m) := by
 unfold zlt
 split
 ·exact zdy ⟨2, r.id, m.frm, m.term, 0, 0, 0, 0, true, cz, .no⟩ (.inr (.inl rfl))
 ·exact zdy ⟨2, r.id, m.frm, r.hard.term, 0, 0, 0, 0, false, cz, .no⟩ (.inr (.inl rfl))
theorem zz6 {B : Nat} {H : Hist} (r : Rft) (m : Mg) : RowsF H B (zj2 r m) := by
 unfold zj2
 split
 ·exact zdy ⟨4, r.id, m.frm, r.hard.term, 0, 0, 0, 0, false, cz, .no⟩ (.inr (.inr (.inr ⟨.inl rfl, rfl⟩)))
 ·split
  ·exact zdy ⟨6, r.id, m.frm, r.hard.term, 0, 0, 0, 0, false, cz, .no⟩ (.inr (.inr (.inr ⟨.inr rfl, rfl⟩)))
  ·exact za1
theorem nx_take {B : Nat} {n : Nat} {H : Hist} {N : Nat → Nd} (I : GI H N) {v : Nat} (hv : v < 7) {r : Rft} (hp : Rp n v r) (hn : n ≤ 199) {G : List Ent} {b : Nat} (hN : N v = ndR r G) (k : HG H.c0 r.hard b G) {m : Mg} (hM : RightM r m) (hF : MF H B m) {R : Rft} {O : List (List PV)} {E : Int} (hk : TK r m R O E) (he : E = 0) (hbB : b ≤ B := by assumption) :
    NX H B N v R O := by
 have hx := tkx_rp hp hM
 have hu := zv7 r m
 have hto : m.to = (tkX r m).id := by rw [zwy]; exact hM.to
 have hne : m.frm ≠ (tkX r m).id := by rw [zwy]; exact hM.ne
 have kx : HG H.c0 (tkX r m).hard b G := by
  unfold tkX
  split
  ·exact k.fall _ _
  ·exact k
 have I1 : GI H (upd N v (ndR (tkX r m) G)) := by
  by_cases h : r.hard.term < m.term
  ·rw [zfh h]
   exact gi_wk I hv hN (zh0 (by omega) _).term (Int.le_refl _) (zn2 r _ _) ⟨by rw [zfn]; decide, by rw [zfn]; decide⟩
  ·have e : tkX r m = r := if_neg h
   rw [e, zww hN]
   exact I
 have g0 := Grows.refl H
 cases hk with
 | asked h => exact zcg I hN k (zya r m)
 | old h ht => exact zcg I hN k (zz6 r m)
 | no h hy ht => exact ⟨H, G, g0, I1, ⟨b, hbB, kx⟩, za1⟩
 | k2 h hy ht => exact nx_k2 I hv hp hn hN k hM.frm
 | k3 h ht => exact NX.trans g0 (nx_k3 I1 hv hx hn (za9 ..) kx hM.frm h hF)
 | k4 h hy ht => exact NX.trans g0 (nx_k4 I1 hv hx hn (za9 ..) kx hM.frm h hy (zis ht) hto hF)
 | app h ht => exact NX.trans g0 (nx_app I1 hv hx hn (za9 ..) kx h (zis ht) hF he)
 | lrn h ht => exact NX.trans g0 (nx_lrn I1 hv hx hn (za9 ..) kx hM.frm h (zis ht) hF)
 | ins h ht => exact NX.trans g0 (nx_ins I1 hv hx hn (za9 ..) kx h (zis ht) hF he)
 | k8 h ht => exact NX.trans g0 (nx_k8 I1 hv hx hn (za9 ..) kx hne)
theorem nx_add {B : Nat} {H : Hist} {N : Nat → Nd} (I : GI H N) {v : Nat} (hv : v < 7) {r : Rft} (hid : r.id = v) {G : List Ent} {b : Nat} (hN : N v = ndR r G) (k : HG H.c0 r.hard b G) (hs : G.length ≤ 401600) (hbc : r.hard.base ≤ r.commit) (h1 : 1 ≤ r.hard.term) (hro : r.role = 3) (x : Ent) (hxt : x.term = r.hard.term)
    (hcf : x.kind = 2 → (∃ y, G[r.commit.toNat - 1]? = some y ∧ y.term = r.hard.term) ∧ 1 ≤ r.commit.toNat ∧ (∀ b y, G[b]? = some y → y.kind = 2 → b + 1 ≤ r.commit.toNat) ∧ nearR (cfL H.c0 G) x.conf = true) (hbB : b ≤ B := by assumption) : NX H B N v (addR r x) [] := by
 have kx := k.snoc x
 have hla : lastI (logR r x) = (G ++ [x]).length := kx.last (by rw [List.length_append]; show G.length + 1 < _; omega)
 have hm : ∀ i, i < 7 → (addR r x).mtch.at i = if i = v then lastI (logR r x) else r.mtch.at i := fun i hi => by
  show (r.mtch.put r.id.toNat (lastI (logR r x))).at i = _
  rw [hid, Int.toNat_natCast, zp6 _ _ hv hi]
 obtain ⟨H1, g1, I1⟩ := gi_add I hv (d' := ndR { addR r x with commit := r.commit } (G ++ [x])) (x := x) (by rw [hN]; exact hro) (by rw [hN]; exact hxt) (fun e => by rw [hN]; exact hcf e) (by rw [hN]; rfl) (by rw [hN]; rfl) (by rw [hN]; rfl) hro (by rw [hN]; exact Nat.le_refl _) (fun i hi j hj hle => by
     have hle : j ≤ ((addR r x).mtch.at i).toNat := hle
     rw [hN]
     rw [hm i hi] at hle
     split at hle
     ·rename_i e
      refine .inr ⟨e, ?_⟩
      show j ≤ (G ++ [x]).length
      rw [hla] at hle
      omega
     ·exact .inl hle)
 have kl : HG H1.c0 (addR r x).hard b (G ++ [x]) := by rw [g1.c0]; exact kx
 obtain ⟨H2, g2, I2⟩ := zhn I1 hv (R := addR r x) (G := G ++ [x]) (b := b) (c := r.commit) (za9 ..) hro kl (by rw [List.length_append]; show G.length + 1 < _; omega) hbc h1 rfl
 rw [zmi] at I2
 exact ⟨H2, G ++ [x], g1.trans g2, I2, ⟨b, hbB, kx⟩, za1⟩
theorem nx_act {B : Nat} {n : Nat} {H : Hist} {N : Nat → Nd} (I : GI H N) {v : Nat} (hv : v < 7) {r : Rft} (hp : Rp n v r) (hn : n ≤ 199) {G : List Ent} {b : Nat} (hN : N v = ndR r G) (k : HG H.c0 r.hard b G) {a : Act} {c : Conf} {kd : Int} {R : Rft} (hE : ActE r a c kd R) (hB : kd = 16 → r.commit.toNat ≤ B) (hbB : b ≤ B := by assumption) : NX H B N v R [] := by
 obtain ⟨hs, hb⟩ := zia hp (by omega) k
 have hbc := hp.rgt.com.1
 have hbase := k.base
 rcases hE with hE | ⟨_, rfl⟩
 ·cases hE with
  | prop he =>
   have h3 : r.role = 3 := by
    unfold propE at he
    split at he
    ·rename_i h; exact zdz h
    ·exact absurd he (by decide)
   exact nx_add I hv hp.id hN k hs hbc (hp.led (by omega)) h3 _ rfl (fun e => absurd e (by show ¬ (1 : Int) = 2; decide))
  | chg he =>
   unfold chgE at he
   by_cases a1 : zds r = 0
   ·rw [if_pos a1] at he
    have h3 := zdz a1
    by_cases a2 : mayB r = true
    ·rw [if_pos a2] at he
     by_cases a3 : nearR (zac r) c = true ∧ ¬ zac r = c
     ·have h1 := hp.led (by omega)
      have a2 := a2
      unfold mayB at a2
      rw [Bool.and_eq_true, decide_eq_true_eq] at a2
      obtain ⟨q1, q2, y, q3, q4⟩ := k.at_term hbc h1 a2.1
      refine nx_add (r := nxR r c 7) I hv hp.id hN k hs hbc h1 h3 (ecf r c) rfl (fun _ => ⟨⟨y, q3, q4⟩, q1, fun j z hz hzk => k.cfat (by omega) (c := r.commit.toNat) (by omega) (by omega) j z hz hzk, ?_⟩)
      rw [← k.conf (by omega)]
      exact a3.1
     ·rw [if_neg a3] at he
      exact absurd he (by decide)
    ·rw [if_neg a2] at he
     exact absurd he (by decide)
   ·rw [if_neg a1] at he
    exact absurd he (by decide)
  | ask he => exact zcg (R := askR r a.call) I hN k za1
  | ready => exact zcg (R := zu8 r) I hN k za1
  | comp he =>
   obtain ⟨q, q1, q2, q3, q4⟩ := zqr (by have := hp.log; omega) he
   refine zcg (R := compR r a.n) (b := b + q) I hN ?_ za1 (by have := hB rfl; omega)
   show HG H.c0 (compH r.hard r.commit (byteL a.n)) (b + q) G
   rw [q4]
   exact k.cut (by omega) q2 _
 ·exact zcg I hN k za1
theorem z0r {B : Nat} {n : Nat} {H : Hist} {N : Nat → Nd} (I : GI H N) {v : Nat} (hv : v < 7) {r : Rft} (hp : Rp n v r) {G : List Ent} {b : Nat} (hN : N v = ndR r G) (k : HG H.c0 r.hard b G) (hbB : b ≤ B := by assumption) : NX H B N v (newR v r.hard) [] :=
 zoy (R := newR v r.hard) I hv hN k (Int.le_refl _) hp.rgt.com.1 (fun _ => rfl) ⟨by show ¬ (0 : Int) = 2; decide, by show ¬ (0 : Int) = 3; decide⟩ za1
end Go.Proofs
