import Derived.Test.YtbhfokahocgndabGreatC5
import Derived.Test.YtbhfokahocgndabGreatC1
/- Plain law of safety: votes, elections, entries, commits. -/
set_option linter.unusedSimpArgs false
set_option linter.unusedVariables false
namespace Go.Proofs
open Go.Pv
set_option maxRecDepth 100000
theorem cov_of {H : Hist} (S : Static H) {L : List Ent} (h : LM H L) {t : Int} {n : Nat} {x : Ent} (h1 : 1 ≤ n) (hx : (H.LL t)[n - 1]? = some x) (hxt : x.term = t) (e : L.take n = (H.LL t).take n) : Cov H L t n := by
 have hx2 : L[n - 1]? = some x := (zb7 e (by omega)).trans hx
 have := zbv hx2
 have := h.mem S hx2
 unfold Cov
 omega
theorem zu6 {H : Hist} {L D : List Ent} {t : Int} {n : Nat} (h : Cov H L t n) (hn : za6 L < za6 D ∨ (za6 L = za6 D ∧ L.length ≤ D.length)) : Cov H D t n := by
 unfold Cov at *
 omega
theorem Grows.strong {H H' : Hist} (S : Static H) (g : Grows H H') {T : Int} {D : List Ent} {Q : Int} (hv : ∀ v, v < 7 → tb Q v = true → ∃ c, H.VD v T c D) (h : zie H T D Q) : zie H' T D Q := by
 intro v t n x hv7 hQ ha ht hn hx hxt
 obtain ⟨c, hd⟩ := hv v hv7 hQ
 have ha := g.akv _ _ _ _ _ _ hd ht ha
 have hl := S.akl _ _ _ ha
 have hx : (H.LL t)[n - 1]? = some x := by rw [← hx]; exact (zb7 (g.ll t |>.trans List.take_length.symm) (by omega)).symm
 rcases h v t n x hv7 hQ ha ht hn hx hxt with h | ⟨T', a, b, c, e⟩
 ·exact .inl h
 ·exact .inr ⟨T', a, b, g.led c, g.lost S a hl c e⟩
def addV (H : Hist) (v : Nat) (T : Int) (c : Nat) (D : List Ent) : Hist := { H with VD := fun w t k L => H.VD w t k L ∨ (w = v ∧ t = T ∧ k = c ∧ L = D) }
theorem zf0 (H : Hist) (v : Nat) (T : Int) (c : Nat) (D : List Ent) : Grows H (addV H v T c D) :=
 ⟨rfl, fun t => List.take_length, fun t n x _ h1 h2 => by have := zbv h2; exact absurd this (Nat.not_lt.2 h1), fun _ _ _ _ h => h, fun _ _ _ _ h => .inl h, fun _ _ _ h => h, fun _ _ _ _ _ _ _ _ h => h⟩
theorem zji {H : Hist} (S : Static H) {v : Nat} {T : Int} {c : Nat} {D : List Ent} (hu : ∀ c' D', H.VD v T c' D' → c' = c ∧ D' = D)
    (hvi : ∀ t n x, H.AK v t n → t < T → 1 ≤ n → (H.LL t)[n - 1]? = some x → x.term = t → Cov H D t n ∨ ∃ T', t < T' ∧ T' ≤ T ∧ H.LL T' ≠ [] ∧ ¬ (H.LL T').take n = (H.LL t).take n) : Static (addV H v T c D) := by
 have g := zf0 H v T c D
 refine ⟨S.llm, S.lle, fun t h => ?_, S.akl, fun w T1 c1 D1 t n x hd ha ht hn hx hxt => ?_, fun w T1 c1 D1 c2 D2 h1 h2 => ?_, S.cm, S.own, S.old, S.nr⟩
 ·obtain ⟨c', D', Q, hc, hs, h1, h2⟩ := S.led t h
  exact ⟨c', D', Q, g.cand hc, hs, h1, h2⟩
 ·rcases hd with hd | ⟨rfl, rfl, rfl, rfl⟩
  ·exact S.vi w T1 c1 D1 t n x hd ha ht hn hx hxt
  ·exact hvi t n x ha ht hn hx hxt
 ·rcases h1 with h1 | ⟨rfl, rfl, rfl, rfl⟩
  ·rcases h2 with h2 | ⟨rfl, rfl, rfl, rfl⟩
   ·exact S.vu _ _ _ _ _ _ h1 h2
   ·exact hu _ _ h1
  ·rcases h2 with h2 | ⟨_, _, rfl, rfl⟩
   ·have := hu _ _ h2
    exact ⟨this.1.symm, this.2.symm⟩
   ·exact ⟨rfl, rfl⟩
theorem zls {H : Hist} (S : Static H) {v : Nat} {T : Int} {c : Nat} {D : List Ent} {w : Nat} {d : Nd} (hw : w ≠ v) (h : NI H w d) : NI (addV H v T c D) w d :=
 h.mono S (zf0 H v T c D) (fun T1 c1 D1 hd => by
  rcases hd with hd | ⟨e, _⟩
  ·exact hd
  ·exact absurd e hw) (fun _ _ h => h) (fun _ => rfl) (fun _ h1 h2 => absurd h1 h2)
theorem zz8 {H : Hist} {N : Nat → Nd} (I : GI H N) {v : Nat} (hv : v < 7) {d : Nd} (h0 : 0 ≤ (N v).term) (hl : d.log = (N v).log) (ht : d.term = (N v).term + 1) (hvo : d.vote = v) (hr : d.role = 2) (hvs : ∀ i, i < 7 → tb d.votes i = true → i = v) (hc : d.com ≤ (N v).com) :
    ∃ H', Grows H H' ∧ GI H' (upd N v d) ∧ H'.VD v d.term v d.log := by
 have h := I.nd v hv
 have S := I.st
 have hno : ∀ c' D', ¬ H.VD v d.term c' D' := fun c' D' hd => by have := (h.vd _ _ _ hd).1; omega
 have g := zf0 H v d.term v d.log
 have S' : Static (addV H v d.term v d.log) := zji S (fun c' D' hd => absurd hd (hno c' D')) fun t n x ha htT hn hx hxt => by
  rcases (h.ak t n ha).2 with h3 | ⟨T', a, b, c, e⟩
  ·rw [hl]
   exact .inl (cov_of S h.lm hn hx hxt h3)
  ·exact .inr ⟨T', a, by omega, c, e⟩
 refine ⟨addV H v d.term v d.log, g, ⟨S', fun w T c D hd => ?_, fun w hw => ?_⟩, .inr ⟨rfl, rfl, rfl, rfl⟩⟩
 ·rcases hd with hd | ⟨rfl, rfl, rfl, rfl⟩
  ·exact .inl (I.vc _ _ _ _ hd)
  ·exact .inr ⟨rfl, rfl, rfl, rfl⟩
 ·by_cases e : w = v
  ·subst e
   rw [za9]
   refine ⟨by rw [hl]; exact h.lm, fun x hx => by rw [hl] at hx; have := h.le x hx; omega, ?_, fun T c D hd => ?_, fun t n hn => ?_, fun _ => ⟨by omega, .inr ⟨rfl, rfl, rfl, rfl⟩, fun x hx => by rw [hl] at hx; have := h.le x hx; omega, fun i hi hb => by
    have := hvs i hi hb
    subst this
    exact .inr ⟨rfl, rfl, rfl, rfl⟩, fun hne => ?_⟩, fun e => by omega⟩
   ·rw [hl]
    exact (h.com.le hc).mono S g (by omega) rfl
   ·rcases hd with hd | ⟨_, rfl, rfl, rfl⟩
    ·have := (h.vd T c D hd).1
     exact ⟨by omega, fun e => by omega⟩
    ·exact ⟨Int.le_refl _, fun _ => hvo⟩
   ·obtain ⟨h1, h3⟩ := h.ak t n hn
    refine ⟨by omega, ?_⟩
    rw [hl]
    rcases h3 with h3 | ⟨T', a, b, c, e⟩
    ·exact .inl h3
    ·exact .inr ⟨T', a, by omega, c, e⟩
   ·obtain ⟨c, D, Q, hcd, _⟩ := S.led d.term hne
    refine ⟨c, D, Q, fun e => ?_, g.cand hcd⟩
    subst e
    exact hno _ _ hcd.self
  ·rw [zc0 N e]
   exact zls S e (I.nd w hw)
theorem gi_vote {H : Hist} {N : Nat → Nd} (I : GI H N) {v c : Nat} (hv : v < 7) {D : List Ent} (hD : H.VD c (N v).term c D) (hvt : (N v).vote = -1 ∨ (N v).vote = c) (hnew : za6 (N v).log < za6 D ∨ (za6 (N v).log = za6 D ∧ (N v).log.length ≤ D.length))
    {d : Nd} (hl : d.log = (N v).log) (ht : d.term = (N v).term) (hvo : d.vote = c) (hr : d.role ≠ 2 ∧ d.role ≠ 3) (hc : d.com ≤ (N v).com) :
    ∃ H', Grows H H' ∧ GI H' (upd N v d) ∧ H'.VD v d.term c D := by
 have h := I.nd v hv
 have S := I.st
 have hu : ∀ c' D', H.VD v d.term c' D' → c' = c ∧ D' = D := fun c' D' hd => by
  have h2 := (h.vd _ _ _ hd).2 ht
  have e : c' = c := by omega
  subst e
  have h3 := I.vc _ _ _ _ hd
  rw [ht] at h3
  exact ⟨rfl, (S.vu _ _ _ _ _ _ h3 hD).2⟩
 have g := zf0 H v d.term c D
 have S' : Static (addV H v d.term c D) := zji S hu fun t n x ha htT hn hx hxt => by
  rcases (h.ak t n ha).2 with h3 | ⟨T', a, b, c, e⟩
  ·exact .inl (zu6 (cov_of S h.lm hn hx hxt h3) hnew)
  ·exact .inr ⟨T', a, by omega, c, e⟩
 refine ⟨addV H v d.term c D, g, ⟨S', fun w T c' D' hd => ?_, fun w hw => ?_⟩, .inr ⟨rfl, rfl, rfl, rfl⟩⟩
 ·rcases hd with hd | ⟨rfl, rfl, rfl, rfl⟩
  ·exact .inl (I.vc _ _ _ _ hd)
  ·rw [ht]
   exact .inl hD
 ·by_cases e : w = v
  ·subst e
   rw [za9]
   refine ⟨by rw [hl]; exact h.lm, fun x hx => by rw [hl] at hx; have := h.le x hx; omega, ?_, fun T c' D' hd => ?_, fun t n hn => ?_, fun e => absurd e hr.1, fun e => absurd e hr.2⟩
   ·rw [hl]
    exact (h.com.le hc).mono S g (by omega) rfl
   ·rcases hd with hd | ⟨_, rfl, rfl, rfl⟩
    ·have h1 := h.vd T c' D' hd
     refine ⟨by omega, fun e => ?_⟩
     have h2 := h1.2 (by omega)
     omega
    ·exact ⟨Int.le_refl _, fun _ => hvo⟩
   ·obtain ⟨h1, h3⟩ := h.ak t n hn
    refine ⟨by omega, ?_⟩
    rw [hl]
    rcases h3 with h3 | ⟨T', a, b, c, e⟩
    ·exact .inl h3
    ·exact .inr ⟨T', a, by omega, c, e⟩
  ·rw [zc0 N e]
   exact zls S e (I.nd w hw)
theorem zzi {H : Hist} {N : Nat → Nd} (I : GI H N) {v : Nat} (hv : v < 7) {d : Nd} (hr0 : (N v).role = 2) (hl : d.log = (N v).log) (ht : d.term = (N v).term) (hvo : d.vote = (N v).vote) (hr : d.role = 2) (hc : d.com = (N v).com)
    (hvs : ∀ i, i < 7 → tb d.votes i = true → tb (N v).votes i = true ∨ ∃ D, H.VD i d.term v D) : GI H (upd N v d) := by
 refine ⟨I.st, I.vc, fun w hw => ?_⟩
 by_cases e : w = v
 ·subst e
  rw [za9]
  have h := I.nd w hw
  obtain ⟨s1, s2, s3, s4, s5⟩ := h.st hr0
  refine ⟨by rw [hl]; exact h.lm, fun x hx => by rw [hl] at hx; have := h.le x hx; omega, by rw [hl, hc, ht]; exact h.com, fun T c D hd => by rw [ht, hvo]; exact h.vd T c D hd, fun t n hn => by rw [hl, ht]; exact h.ak t n hn, fun _ => ?_, fun e => by omega⟩
  rw [ht, hl]
  refine ⟨s1, s2, s3, fun i hi hb => ?_, s5⟩
  rcases hvs i hi hb with h1 | ⟨D, h1⟩
  ·exact s4 i hi h1
  ·rw [ht] at h1
   have h2 := I.vc _ _ _ _ h1
   rw [(I.st.vu _ _ _ _ _ _ s2 h2).2]
   exact h1
 ·rw [zc0 N e]
  exact I.nd w hw
def setL (H : Hist) (v : Nat) (T : Int) (L : List Ent) : Hist := { H with LL := fun t => if t = T then L else H.LL t, AK := fun w t n => H.AK w t n ∨ (w = v ∧ t = T ∧ n ≤ L.length) }
theorem zce (H : Hist) (v : Nat) (T : Int) (L : List Ent) : (setL H v T L).LL T = L := if_pos rfl
theorem zei (H : Hist) (v : Nat) {T t : Int} (L : List Ent) (h : t ≠ T) : (setL H v T L).LL t = H.LL t := if_neg h
theorem zez {α : Type} {L : List α} {x y : α} {n : Nat} (h : (L ++ [x])[n]? = some y) : (n < L.length ∧ L[n]? = some y) ∨ (n = L.length ∧ y = x) := by
 by_cases hn : n < L.length
 ·rw [List.getElem?_append_left hn] at h
  exact .inl ⟨hn, h⟩
 ·have h1 := zbv h
  rw [List.length_append, List.length_singleton] at h1
  have e : n = L.length := by omega
  subst e
  rw [List.getElem?_append_right (Nat.le_refl _), Nat.sub_self] at h
  exact .inr ⟨rfl, (Option.some.inj h).symm⟩
theorem zdq {α : Type} {L : List α} {x : α} {n : Nat} (h : n ≤ L.length) : (L ++ [x]).take n = L.take n := List.take_append_of_le_length h
theorem zlr {H : Hist} {v : Nat} {T : Int} {L : List Ent} {x : Ent} (hxt : x.term = T) (h0 : H.LL T = [] ∨ H.LL T = L) (hvT : ∀ T' c D, H.VD v T' c D → T' ≤ T) : Grows H (setL H v T (L ++ [x])) := by
 refine ⟨rfl, fun t => ?_, fun t n y he hn hy => ?_, fun _ _ _ _ h => h, fun _ _ _ _ h => h, fun _ _ _ h => .inl h, fun w T' c D t n hd ht ha => ?_⟩
 ·by_cases e : t = T
  ·subst e
   rw [zce]
   rcases h0 with h0 | h0
   ·rw [h0]; rfl
   ·rw [h0, zdq (Nat.le_refl _), List.take_length]
  ·rw [zei H v _ e, List.take_length]
 ·by_cases e : t = T
  ·subst e
   rw [zce] at hy
   rcases h0 with h0 | h0
   ·exact absurd h0 he
   ·rw [h0] at hn
    rcases zez hy with ⟨h1, _⟩ | ⟨_, rfl⟩
    ·omega
    ·exact hxt
  ·rw [zei H v _ e] at hy
   have := zbv hy
   omega
 ·rcases ha with ha | ⟨rfl, rfl, _⟩
  ·exact ha
  ·have := hvT _ _ _ hd
   omega
theorem zqk {H : Hist} (S : Static H) {v : Nat} {T : Int} {L : List Ent} {x : Ent} (hxt : x.term = T) (h0 : H.LL T = [] ∨ H.LL T = L) (hvT : ∀ T' c D, H.VD v T' c D → T' ≤ T) (hL : LM H L) (hle : ∀ y ∈ L, y.term ≤ T)
    (hled : ∃ c D Q, Cand H T c D Q ∧ zie H T D Q ∧ L.take D.length = D ∧ ∀ n y, D.length ≤ n → L[n]? = some y → y.term = T)
    (hown : x.kind = 2 → ∃ n k W, H.Cm T n k W ∧ k ≤ L.length)
    (hold : x.kind = 2 → ∀ b y, L[b]? = some y → y.kind = 2 → ∃ t n k W, H.Cm t n k W ∧ t ≤ T ∧ b + 1 ≤ n ∧ (H.LL t).take (b + 1) = L.take (b + 1) ∧ (t = T → k ≤ L.length))
    (hnr : x.kind = 2 → nearR (cfL H.c0 L) x.conf = true) : Static (setL H v T (L ++ [x])) ∧ LM (setL H v T (L ++ [x])) (L ++ [x]) := by
 have g := zlr hxt h0 hvT
 have hLM : LM (setL H v T (L ++ [x])) (L ++ [x]) := by
  intro n y hy
  rcases zez hy with ⟨h1, h2⟩ | ⟨rfl, rfl⟩
  ·rw [zdq (by omega)]
   exact g.lm hL n y h2
  ·rw [hxt, zce]
 -- an entry of term T in L: then L is the leader's log
 have hin : ∀ {a : Nat} {y : Ent}, L[a]? = some y → y.term = T → H.LL T = L := fun {a y} ha hy => by
  rcases h0 with h0 | h0
  ·exact absurd (hy ▸ h0) (hL.led ha)
  ·exact h0
 refine ⟨⟨fun t => ?_, fun t y hy => ?_, fun t he => ?_, fun w t n ha => ?_, fun w T1 c D t n y hd ha ht hn hy hyt => ?_, S.vu, fun t n k W hc => ?_, fun t a y ha hk hyt => ?_, fun t a y b z ha hk hyt hba hb hkb => ?_, fun t a y ha hk hyt => ?_⟩, hLM⟩
 ·by_cases e : t = T
  ·subst e
   rw [zce]; exact hLM
  ·rw [zei H v _ e]; exact g.lm (S.llm t)
 ·by_cases e : t = T
  ·subst e
   rw [zce] at hy
   rcases List.mem_append.1 hy with hy | hy
   ·exact hle y hy
   ·rw [List.mem_singleton.1 hy]; omega
  ·rw [zei H v _ e] at hy; exact S.lle t y hy
 ·by_cases e : t = T
  ·subst e
   rw [zce]
   obtain ⟨c, D, Q, h1, h2, h3, h4⟩ := hled
   have hDl : D.length ≤ L.length := by
    have := congrArg List.length h3
    rw [List.length_take] at this
    omega
   refine ⟨c, D, Q, g.cand h1, g.strong S (fun w hw hQ => ⟨c, h1.vd w hw hQ⟩) h2, by rw [zdq hDl]; exact h3, fun n y hn hy => ?_⟩
   rcases zez hy with ⟨_, h5⟩ | ⟨_, rfl⟩
   ·exact h4 n y hn h5
   ·exact hxt
  ·rw [zei H v _ e] at he ⊢
   obtain ⟨c, D, Q, h1, h2, h3⟩ := S.led t he
   exact ⟨c, D, Q, g.cand h1, g.strong S (fun w hw hQ => ⟨c, h1.vd w hw hQ⟩) h2, h3⟩
 ·rcases ha with ha | ⟨_, rfl, hn⟩
  ·exact Nat.le_trans (S.akl w t n ha) (g.len t)
  ·rw [zce]; exact hn
 ·rcases ha with ha | ⟨rfl, rfl, _⟩
  ·have hl := S.akl w t n ha
   have hy : (H.LL t)[n - 1]? = some y := by rw [← hy]; exact (zb7 (g.ll t |>.trans List.take_length.symm) (by omega)).symm
   rcases S.vi w T1 c D t n y hd ha ht hn hy hyt with h | ⟨T', a, b, c', e⟩
   ·exact .inl h
   ·exact .inr ⟨T', a, b, g.led c', g.lost S a hl c' e⟩
  ·have := hvT _ _ _ hd
   omega
 ·obtain ⟨h1, h2, h3, ⟨z, h4, h5⟩, h6, h7⟩ := S.cm t n k W hc
  refine ⟨h1, h2, Nat.le_trans h3 (g.len t), ⟨z, g.get h4, h5⟩, by rw [g.take h3]; exact h6, fun w hw hW => .inl (h7 w hw hW)⟩
 ·by_cases e : t = T
  ·subst e
   rw [zce] at ha
   rcases zez ha with ⟨h1, h2⟩ | ⟨rfl, rfl⟩
   ·have hLL := hin h2 hyt
    rw [← hLL] at h2
    exact S.own t a y h2 hk hyt
   ·exact hown hk
  ·rw [zei H v _ e] at ha
   exact S.own t a y ha hk hyt
 ·by_cases e : t = T
  ·subst e
   rw [zce] at ha hb ⊢
   rcases zez hb with ⟨q1, q2⟩ | ⟨rfl, _⟩
   case inr => have := zbv ha; rw [List.length_append, List.length_singleton] at this; omega
   rw [zdq (show b + 1 ≤ L.length by omega)]
   have key : ∃ t' n k W, H.Cm t' n k W ∧ t' ≤ t ∧ b + 1 ≤ n ∧ (H.LL t').take (b + 1) = L.take (b + 1) ∧ (t' = t → k ≤ a) := by
    rcases zez ha with ⟨h1, h2⟩ | ⟨rfl, rfl⟩
    ·have hLL := hin h2 hyt
     rw [← hLL] at h2 q2 ⊢
     exact S.old t a y b z h2 hk hyt hba q2 hkb
    ·exact hold hk b z q2 hkb
   obtain ⟨t', n, k, W, hc, h1, h2, h3, h4⟩ := key
   have := S.cm _ _ _ _ hc
   exact ⟨t', n, k, W, hc, h1, h2, (g.take (by omega)).trans h3, h4⟩
  ·rw [zei H v _ e] at ha hb ⊢
   obtain ⟨t', n, k, W, hc, h1, h2, h3, h4⟩ := S.old t a y b z ha hk hyt hba hb hkb
   have := S.cm _ _ _ _ hc
   exact ⟨t', n, k, W, hc, h1, h2, (g.take (by omega)).trans h3, h4⟩
 ·by_cases e : t = T
  ·subst e
   rw [zce] at ha ⊢
   rcases zez ha with ⟨h1, h2⟩ | ⟨rfl, rfl⟩
   ·have hLL := hin h2 hyt
    rw [zdq (by omega)]
    rw [← hLL] at h2 ⊢
    exact S.nr t a y h2 hk hyt
   ·rw [zdq (Nat.le_refl _), List.take_length]
    exact hnr hk
  ·rw [zei H v _ e] at ha ⊢
   exact S.nr t a y ha hk hyt
theorem setL_ni {H : Hist} (S : Static H) {v : Nat} (hv : v < 7) {d d' : Nd} (h : NI H v d) {x : Ent} (hxt : x.term = d.term) (g : Grows H (setL H v d.term (d.log ++ [x]))) (hLM : LM (setL H v d.term (d.log ++ [x])) (d.log ++ [x]))
    (hc : ∃ D Q, Cand H d.term v D Q) (hl : d'.log = d.log ++ [x]) (ht : d'.term = d.term) (hvo : d'.vote = d.vote) (hr : d'.role = 3) (hco : d'.com ≤ d.com)
    (hm : ∀ i, i < 7 → ∀ n, 1 ≤ n → n ≤ d'.mt i → H.AK i d.term n ∨ (i = v ∧ n ≤ d'.log.length)) : NI (setL H v d.term (d.log ++ [x])) v d' := by
 have hcl := h.com.len S
 refine ⟨by rw [hl]; exact hLM, fun y hy => ?_, ?_, fun T c D hd => by rw [ht, hvo]; exact h.vd T c D hd, fun t n ha => ?_, fun e => by omega, fun _ => ⟨?_, by rw [hl]; simp, ?_, fun i hi n h1 h2 => ?_⟩⟩
 ·rw [hl] at hy
  rcases List.mem_append.1 hy with hy | hy
  ·have := h.le y hy; omega
  ·rw [List.mem_singleton.1 hy]; omega
 ·rw [hl, ht]
  exact (h.com.le hco).mono S g (Int.le_refl _) (zdq (by omega))
 ·rw [hl, ht]
  rcases ha with ha | ⟨_, rfl, hn⟩
  ·obtain ⟨h1, h3⟩ := h.ak t n ha
   have hln := S.akl v t n ha
   refine ⟨h1, ?_⟩
   rcases h3 with h3 | ⟨T', a, b, c, e⟩
   ·have : n ≤ d.log.length := zdn h3 hln
    exact .inl (by rw [zdq this, h3, g.take hln])
   ·exact .inr ⟨T', a, b, g.led c, g.lost S a hln c e⟩
  ·exact ⟨Int.le_refl _, .inl (by rw [zce])⟩
 ·rw [ht, zce, hl]
 ·obtain ⟨D, Q, h1⟩ := hc
  rw [ht]
  exact ⟨D, Q, g.cand h1⟩
 ·rw [ht]
  rcases hm i hi n h1 h2 with h3 | ⟨rfl, h3⟩
  ·exact .inl h3
  ·exact .inr ⟨rfl, rfl, by rw [← hl]; exact h3⟩
theorem zxu {H : Hist} {N : Nat → Nd} (I : GI H N) {v : Nat} (hv : v < 7) {d' : Nd} {x : Ent} (hxt : x.term = (N v).term) (h0 : H.LL (N v).term = [] ∨ (N v).role = 3)
    (hc : ∃ D Q, Cand H (N v).term v D Q)
    (hled : ∃ c D Q, Cand H (N v).term c D Q ∧ zie H (N v).term D Q ∧ (N v).log.take D.length = D ∧ ∀ n y, D.length ≤ n → (N v).log[n]? = some y → y.term = (N v).term)
    (hown : x.kind = 2 → ∃ n k W, H.Cm (N v).term n k W ∧ k ≤ (N v).log.length)
    (hold : x.kind = 2 → ∀ b y, (N v).log[b]? = some y → y.kind = 2 → ∃ t n k W, H.Cm t n k W ∧ t ≤ (N v).term ∧ b + 1 ≤ n ∧ (H.LL t).take (b + 1) = (N v).log.take (b + 1) ∧ (t = (N v).term → k ≤ (N v).log.length))
    (hnr : x.kind = 2 → nearR (cfL H.c0 (N v).log) x.conf = true)
    (hl : d'.log = (N v).log ++ [x]) (ht : d'.term = (N v).term) (hvo : d'.vote = (N v).vote) (hr : d'.role = 3) (hco : d'.com ≤ (N v).com)
    (hm : ∀ i, i < 7 → ∀ n, 1 ≤ n → n ≤ d'.mt i → H.AK i (N v).term n ∨ (i = v ∧ n ≤ d'.log.length)) :
    ∃ H', Grows H H' ∧ GI H' (upd N v d') := by
 have S := I.st
 have h := I.nd v hv
 have h0' : H.LL (N v).term = [] ∨ H.LL (N v).term = (N v).log := h0.imp_right fun e => (h.ld e).1
 have hvT : ∀ T' c D, H.VD v T' c D → T' ≤ (N v).term := fun T' c D hd => (h.vd T' c D hd).1
 have g := zlr hxt h0' hvT
 obtain ⟨S', hLM⟩ := zqk S hxt h0' hvT h.lm h.le hled hown hold hnr
 refine ⟨_, g, S', I.vc, fun w hw => ?_⟩
 by_cases e : w = v
 ·subst e
  rw [za9]
  exact setL_ni S hw h hxt g hLM hc hl ht hvo hr hco hm
 ·rw [zc0 N e]
  refine (I.nd w hw).mono S g (fun _ _ _ h => h) (fun t n ha => ?_) (fun hw3 => ?_) (fun _ h1 _ => ?_)
  ·rcases ha with ha | ⟨e2, _⟩
   ·exact ha
   ·exact absurd e2 e
  ·by_cases e2 : (N w).term = (N v).term
   ·obtain ⟨q1, q2, ⟨D, Q, q3⟩, _⟩ := (I.nd w hw).ld hw3
    rw [e2] at q1 q3
    rcases h0 with h0 | h0
    ·rw [h0] at q1; exact absurd q1.symm q2
    ·obtain ⟨_, _, ⟨D', Q', q4⟩, _⟩ := h.ld h0
     exact absurd (zmv S q3 q4).1 e
   ·exact zei H v _ e2
  ·by_cases e2 : (N w).term = (N v).term
   ·obtain ⟨D, Q, h2⟩ := hc
    rw [e2]
    exact ⟨v, D, Q, fun e3 => e e3.symm, g.cand h2⟩
   ·rename_i h3
    rw [zei H v _ e2] at h3
    exact absurd h1 h3
theorem gi_lead {H : Hist} {N : Nat → Nd} (I : GI H N) {v : Nat} (hv : v < 7) {d' : Nd} {x : Ent} (hr0 : (N v).role = 2) (hq : za0 (cfL H.c0 (N v).log) (N v).votes = true) (hxt : x.term = (N v).term) (hk : x.kind ≠ 2)
    (hl : d'.log = (N v).log ++ [x]) (ht : d'.term = (N v).term) (hvo : d'.vote = (N v).vote) (hr : d'.role = 3) (hco : d'.com ≤ (N v).com)
    (hm : ∀ i, i < 7 → ∀ n, 1 ≤ n → n ≤ d'.mt i → i = v ∧ n ≤ d'.log.length) : ∃ H', Grows H H' ∧ GI H' (upd N v d') := by
 have S := I.st
 have h := I.nd v hv
 obtain ⟨s1, s2, s3, s4, s5⟩ := h.st hr0
 have hcd : Cand H (N v).term v (N v).log (N v).votes := ⟨s2, h.lm, s3, s1, hq, s4⟩
 have hnil : H.LL (N v).term = [] := by
  apply Classical.byContradiction
  intro hne
  obtain ⟨c, D, Q, hcv, hcd2⟩ := s5 hne
  exact hcv (zmv S hcd2 hcd).1
 have hst : zie H (N v).term (N v).log (N v).votes := by
  intro w t n y hw hQ ha ht hn hy hyt
  rcases S.vi w _ v _ t n y (s4 w hw hQ) ha ht hn hy hyt with h | ⟨T', a, b, c, e⟩
  ·exact .inl h
  ·refine .inr ⟨T', a, ?_, c, e⟩
   rcases (by omega : T' < (N v).term ∨ T' = (N v).term) with h | h
   ·exact h
   ·subst h; exact absurd hnil c
 exact zxu I hv hxt (.inl hnil) ⟨_, _, hcd⟩ ⟨v, _, _, hcd, hst, List.take_length, fun n y hn hy => by have := zbv hy; omega⟩ (fun e => absurd e hk) (fun e => absurd e hk) (fun e => absurd e hk) hl ht hvo hr hco fun i hi n h1 h2 => .inr (hm i hi n h1 h2)
theorem gi_add {H : Hist} {N : Nat → Nd} (I : GI H N) {v : Nat} (hv : v < 7) {d' : Nd} {x : Ent} (hr0 : (N v).role = 3) (hxt : x.term = (N v).term)
    (hcf : x.kind = 2 → (∃ y, (N v).log[(N v).com - 1]? = some y ∧ y.term = (N v).term) ∧ 1 ≤ (N v).com ∧ (∀ b y, (N v).log[b]? = some y → y.kind = 2 → b + 1 ≤ (N v).com) ∧ nearR (cfL H.c0 (N v).log) x.conf = true)
    (hl : d'.log = (N v).log ++ [x]) (ht : d'.term = (N v).term) (hvo : d'.vote = (N v).vote) (hr : d'.role = 3) (hco : d'.com ≤ (N v).com)
    (hm : ∀ i, i < 7 → ∀ n, 1 ≤ n → n ≤ d'.mt i → n ≤ (N v).mt i ∨ (i = v ∧ n ≤ d'.log.length)) : ∃ H', Grows H H' ∧ GI H' (upd N v d') := by
 have S := I.st
 have h := I.nd v hv
 obtain ⟨q1, q2, q3, q4⟩ := h.ld hr0
 have hne : H.LL (N v).term ≠ [] := by rw [q1]; exact q2
 have hled := S.led _ hne
 rw [q1] at hled
 refine zxu I hv hxt (.inr hr0) q3 hled (fun hk => ?_) (fun hk b y hb hkb => ?_) (fun hk => (hcf hk).2.2.2) hl ht hvo hr hco fun i hi n h1 h2 => ?_
 ·obtain ⟨⟨y, hy, hyt⟩, hc1, _, _⟩ := hcf hk
  rcases h.com with h0 | ⟨t, n, k, W, hc, htT, hn, e⟩
  ·omega
  ·have hcm := S.cm _ _ _ _ hc
   have hy2 : (H.LL t)[(N v).com - 1]? = some y := by rw [← hy]; exact (zb7 e (by omega)).symm
   have := S.lle t y (zd7 hy2)
   have et : t = (N v).term := by omega
   subst et
   exact ⟨n, k, W, hc, by rw [← q1]; omega⟩
 ·obtain ⟨_, hc1, hall, _⟩ := hcf hk
  have hb2 := hall b y hb hkb
  rcases h.com with h0 | ⟨t, n, k, W, hc, htT, hn, e⟩
  ·omega
  ·have hcm := S.cm _ _ _ _ hc
   refine ⟨t, n, k, W, hc, htT, by omega, (za4 e hb2).symm, fun et => ?_⟩
   subst et
   rw [← q1]; omega
 ·rcases hm i hi n h1 h2 with h3 | h3
  ·exact .inl (q4 i hi n h1 h3)
  ·exact .inr h3
theorem zx7 {H : Hist} {N : Nat → Nd} (I : GI H N) {v : Nat} (hv : v < 7) {d : Nd} (hr0 : (N v).role = 3) (hl : d.log = (N v).log) (ht : d.term = (N v).term) (hvo : d.vote = (N v).vote) (hr : d.role = 3) (hc : d.com = (N v).com)
    (hm : ∀ i, i < 7 → ∀ n, 1 ≤ n → n ≤ d.mt i → n ≤ (N v).mt i ∨ H.AK i (N v).term n) : GI H (upd N v d) := by
 refine ⟨I.st, I.vc, fun w hw => ?_⟩
 by_cases e : w = v
 ·subst e
  rw [za9]
  have h := I.nd w hw
  obtain ⟨q1, q2, q3, q4⟩ := h.ld hr0
  refine ⟨by rw [hl]; exact h.lm, fun x hx => by rw [hl] at hx; have := h.le x hx; omega, by rw [hl, hc, ht]; exact h.com, fun T c D hd => by rw [ht, hvo]; exact h.vd T c D hd, fun t n hn => by rw [hl, ht]; exact h.ak t n hn, fun e => by omega, fun _ => ?_⟩
  rw [ht, hl]
  exact ⟨q1, q2, q3, fun i hi n h1 h2 => (hm i hi n h1 h2).elim (fun a => q4 i hi n h1 a) id⟩
 ·rw [zc0 N e]
  exact I.nd w hw
def addC (H : Hist) (T : Int) (n k : Nat) (W : Int) : Hist := { H with Cm := fun t m j w => H.Cm t m j w ∨ (t = T ∧ m = n ∧ j = k ∧ w = W) }
theorem zxh {H : Hist} {N : Nat → Nd} (I : GI H N) {v : Nat} (hv : v < 7) {d : Nd} (hr0 : (N v).role = 3) {n : Nat} {W : Int} (hn : 1 ≤ n) {x : Ent} (hx : (N v).log[n - 1]? = some x) (hxt : x.term = (N v).term)
    (hq : za0 (cfL H.c0 (N v).log) W = true) (hW : ∀ i, i < 7 → tb W i = true → n ≤ (N v).mt i)
    (hl : d.log = (N v).log) (ht : d.term = (N v).term) (hvo : d.vote = (N v).vote) (hr : d.role = 3) (hc : d.com = n) (hm : d.mt = (N v).mt) : ∃ H', Grows H H' ∧ GI H' (upd N v d) := by
 have S := I.st
 have h := I.nd v hv
 obtain ⟨q1, q2, q3, q4⟩ := h.ld hr0
 have hln := zbv hx
 have g : Grows H (addC H (N v).term n (N v).log.length W) :=
  ⟨rfl, fun t => List.take_length, fun t n x _ h1 h2 => by have := zbv h2; exact absurd this (Nat.not_lt.2 h1), fun _ _ _ _ h => .inl h, fun _ _ _ _ h => h, fun _ _ _ h => h, fun _ _ _ _ _ _ _ _ h => h⟩
 refine ⟨addC H (N v).term n (N v).log.length W, g, ⟨⟨S.llm, S.lle, fun t he => ?_, S.akl, S.vi, S.vu, fun t m k w hcm => ?_, fun t a y ha hk hyt => ?_, fun t a y b z ha hk hyt hba hb hkb => ?_, S.nr⟩, I.vc, fun w hw => ?_⟩⟩
 ·obtain ⟨c, D, Q, h1, h2, h3⟩ := S.led t he
  exact ⟨c, D, Q, g.cand h1, h2, h3⟩
 ·rcases hcm with hcm | ⟨rfl, rfl, rfl, rfl⟩
  ·exact S.cm t m k w hcm
  ·show 1 ≤ m ∧ m ≤ _ ∧ _ ≤ (H.LL (N v).term).length ∧ (∃ x, (H.LL (N v).term)[m - 1]? = some x ∧ x.term = (N v).term) ∧ za0 (cfL H.c0 ((H.LL (N v).term).take _)) w = true ∧ ∀ i, i < 7 → tb w i = true → H.AK i (N v).term m
   rw [q1, List.take_length]
   exact ⟨hn, by omega, Nat.le_refl _, ⟨x, hx, hxt⟩, hq, fun i hi hb => q4 i hi m hn (hW i hi hb)⟩
 ·obtain ⟨n', k', W', h1, h2⟩ := S.own t a y ha hk hyt
  exact ⟨n', k', W', .inl h1, h2⟩
 ·obtain ⟨t', n', k', W', h1, h2⟩ := S.old t a y b z ha hk hyt hba hb hkb
  exact ⟨t', n', k', W', .inl h1, h2⟩
 ·by_cases e : w = v
  ·subst e
   rw [za9]
   refine ⟨by rw [hl]; exact h.lm, fun x hx => by rw [hl] at hx; have := h.le x hx; omega, ?_, fun T c D hd => by rw [ht, hvo]; exact h.vd T c D hd, fun t n hn => by rw [hl, ht]; exact h.ak t n hn, fun e => by omega, fun _ => ?_⟩
   ·rw [hl, hc, ht]
    exact .inr ⟨_, _, _, _, .inr ⟨rfl, rfl, rfl, rfl⟩, Int.le_refl _, Nat.le_refl _, by show _ = (H.LL _).take n; rw [q1]⟩
   ·rw [ht, hl, hm]
    obtain ⟨D, Q, q3⟩ := q3
    exact ⟨q1, q2, ⟨D, Q, g.cand q3⟩, q4⟩
  ·rw [zc0 N e]
   exact (I.nd w hw).mono S g (fun _ _ _ h => h) (fun _ _ h => h) (fun _ => rfl) (fun _ h1 h2 => absurd h1 h2)
def addA (H : Hist) (v : Nat) (T : Int) (n : Nat) : Hist := { H with AK := fun w t m => H.AK w t m ∨ (w = v ∧ t = T ∧ m ≤ n) }
theorem zj9 {H : Hist} {N : Nat → Nd} (I : GI H N) {v : Nat} (hv : v < 7) {d : Nd} {n : Nat} (hne : H.LL (N v).term ≠ []) (hn : n ≤ (H.LL (N v).term).length)
    (hl : ((N v).log.take n = (H.LL (N v).term).take n ∧ d.log = (N v).log) ∨ (¬ (N v).log.take n = (H.LL (N v).term).take n ∧ d.log = (H.LL (N v).term).take n))
    (ht : d.term = (N v).term) (hvo : d.vote = (N v).vote) (hr : d.role ≠ 2 ∧ d.role ≠ 3) (hc : d.com ≤ (N v).com ∨ (d.com ≤ n ∧ JG H (N v).term (H.LL (N v).term) d.com)) :
    ∃ H', Grows H H' ∧ GI H' (upd N v d) ∧ ∀ m, m ≤ n → H'.AK v d.term m := by
 have S := I.st
 have h := I.nd v hv
 have hvT : ∀ T' c D, H.VD v T' c D → T' ≤ (N v).term := fun T' c D hd => (h.vd T' c D hd).1
 have g : Grows H (addA H v (N v).term n) :=
  ⟨rfl, fun t => List.take_length, fun t n x _ h1 h2 => by have := zbv h2; exact absurd this (Nat.not_lt.2 h1), fun _ _ _ _ h => h, fun _ _ _ _ h => h, fun _ _ _ h => .inl h, fun w T' c D t m hd ht ha => by
   rcases ha with ha | ⟨rfl, rfl, _⟩
   ·exact ha
   ·have := hvT _ _ _ hd
    omega⟩
 -- what is committed stays
 have hcl := h.com.len S
 have hcL : (N v).log.take (N v).com = (H.LL (N v).term).take (N v).com := h.com.lead S hne
 have hdn : d.log.take n = (H.LL (N v).term).take n := by
  rcases hl with ⟨h1, h2⟩ | ⟨_, h2⟩
  ·rw [h2]; exact h1
  ·rw [h2, List.take_take, Nat.min_self]
 have hdc : d.log.take (N v).com = (N v).log.take (N v).com := by
  rcases hl with ⟨_, h2⟩ | ⟨h1, h2⟩
  ·rw [h2]
  ·have : (N v).com ≤ n := by
     apply Classical.byContradiction
     intro h3
     exact h1 (za4 hcL (by omega))
   rw [h2, List.take_take, Nat.min_eq_left this]; exact hcL.symm
 have hdLM : LM H d.log := by
  rcases hl with ⟨_, h2⟩ | ⟨_, h2⟩
  ·rw [h2]; exact h.lm
  ·rw [h2]
   intro i x hx
   have hi := zbv hx
   rw [List.length_take] at hi
   rw [List.getElem?_take_of_lt (by omega)] at hx
   rw [List.take_take, Nat.min_eq_left (by omega)]
   exact S.llm _ i x hx
 have hdle : ∀ x ∈ d.log, x.term ≤ (N v).term := by
  intro x hx
  rcases hl with ⟨_, h2⟩ | ⟨_, h2⟩
  ·rw [h2] at hx; exact h.le x hx
  ·rw [h2] at hx; exact S.lle _ x (List.mem_of_mem_take hx)
 refine ⟨addA H v (N v).term n, g, ⟨⟨S.llm, S.lle, fun t he => ?_, fun w t m ha => ?_, fun w T1 c D t m y hd ha htT hm hy hyt => ?_, S.vu, fun t m k w hcm => ?_, S.own, S.old, S.nr⟩, I.vc, fun w hw => ?_⟩, fun m hm => .inr ⟨rfl, ht, hm⟩⟩
 ·obtain ⟨c, D, Q, h1, h2, h3⟩ := S.led t he
  exact ⟨c, D, Q, g.cand h1, g.strong S (fun w hw hQ => ⟨c, h1.vd w hw hQ⟩) h2, h3⟩
 ·rcases ha with ha | ⟨_, rfl, hm⟩
  ·exact S.akl w t m ha
  ·exact Nat.le_trans hm hn
 ·rcases ha with ha | ⟨rfl, rfl, _⟩
  ·exact S.vi w T1 c D t m y hd ha htT hm hy hyt
  ·have := hvT _ _ _ hd
   omega
 ·obtain ⟨h1, h2, h3, h4, h5, h6⟩ := S.cm t m k w hcm
  exact ⟨h1, h2, h3, h4, h5, fun i hi hb => .inl (h6 i hi hb)⟩
 ·by_cases e : w = v
  ·subst e
   rw [za9]
   refine ⟨g.lm hdLM, fun x hx => by rw [ht]; exact hdle x hx, ?_, fun T c D hd => by rw [ht, hvo]; exact h.vd T c D hd, fun t m ha => ?_, fun e => absurd e hr.1, fun e => absurd e hr.2⟩
   ·rw [ht]
    rcases hc with hc | ⟨hc, hj⟩
    ·exact (h.com.le hc).mono S g (Int.le_refl _) (za4 hdc hc)
    ·exact hj.mono S g (Int.le_refl _) (za4 hdn hc)
   ·rw [ht]
    rcases ha with ha | ⟨_, rfl, hm⟩
    ·obtain ⟨h1, h3⟩ := h.ak t m ha
     have hml := S.akl w t m ha
     refine ⟨h1, ?_⟩
     rcases h3 with h3 | ⟨T', a, b, c, e⟩
     ·rcases hl with ⟨_, h5⟩ | ⟨h4, h5⟩
      ·rw [h5]; exact .inl h3
      ·by_cases hk : (H.LL (N w).term).take m = (H.LL t).take m
       ·refine .inl ?_
        have : m ≤ n := by
         apply Classical.byContradiction
         intro h6
         exact h4 (za4 (h3.trans hk.symm) (by omega))
        rw [h5, List.take_take, Nat.min_eq_left this]; exact hk
       ·refine .inr ⟨(N w).term, ?_, Int.le_refl _, hne, hk⟩
        rcases (by omega : t < (N w).term ∨ t = (N w).term) with h7 | h7
        ·exact h7
        ·subst h7; exact absurd rfl hk
     ·exact .inr ⟨T', a, b, c, e⟩
    ·exact ⟨Int.le_refl _, .inl (za4 hdn hm)⟩
  ·rw [zc0 N e]
   exact (I.nd w hw).mono S g (fun _ _ _ h => h) (fun t m ha => by
    rcases ha with ha | ⟨e2, _⟩
    ·exact ha
    ·exact absurd e2 e) (fun _ => rfl) (fun _ h1 h2 => absurd h1 h2)
def lastT (h : Hrd) : Int := match h.log.getLast? with
 | none => h.baseTerm
 | some x => x.term
def lastI (h : Hrd) : Int := if h.log.length = 0 then h.base else w64 (h.base + h.log.length)
theorem zu3 {l : List Ent} (h : l.length ≠ 0) (hm : l.length ≤ maxLen) : 0 ≤ w64 ((l.length : Int) - 1) ∧ (l.map Ent.enc)[(w64 ((l.length : Int) - 1)).toNat]? = some (l.getLast (by intro e; rw [e] at h; exact h rfl)).enc := by
 have hm' : l.length ≤ 9223372036854775807 := Nat.le_trans hm (by decide)
 rw [show w64 ((l.length : Int) - 1) = ((l.length - 1 : Nat) : Int) from by rw [show w64 ((l.length : Int) - 1) = (l.length : Int) - 1 from zai (by omega) (by omega)]; omega]
 refine ⟨by omega, ?_⟩
 rw [zbp (by omega), List.getLast_eq_getElem]
theorem zlj {h : Hrd} (hl : h.log ≠ []) : lastT h = (h.log.getLast hl).term := by
 unfold lastT; first | rw [List.getLast?_eq_some_getLast hl] | rw [List.getLast?_eq_getLast hl] | rw [List.getLast?_eq_getLast_of_ne_nil hl]
theorem zrj (a : Hrd) (hm : a.log.length ≤ maxLen) : Ctr Tryz.prog 48 [.ag a.enc] (.tu [iv (lastI a), iv (lastT a)]) [] := by
 refine sBody Tryz.func48 ?_; conv => whnf
 (refine tSp (fun h => ?_) (fun h => ?_) <;> conv => whnf)
 ·have h0 : a.log = [] := by
    simp only [List.length_map] at *
    exact List.eq_nil_of_length_eq_zero (by omega)
  refine zab rfl ?_
  simp [lastI, lastT, h0]
 ·simp only [List.length_map] at *
  obtain ⟨h1, h2⟩ := zu3 (l := a.log) (by omega) hm
  refine ⟨h1, _, h2, ?_⟩
  conv => whnf
  refine zab rfl ?_
  have hne : a.log ≠ [] := fun e => by simp_all
  rw [zlj hne, lastI, if_neg (by omega)]
theorem zbr (a : Hrd) (hm : a.log.length ≤ maxLen) : Ctr Tryz.prog 151 [.ag a.enc] (.tu [iv (lastI a), iv (lastT a)]) [] := by
 refine sBody Tryz.func151 ?_; conv => whnf
 (refine tSp (fun h => ?_) (fun h => ?_) <;> conv => whnf)
 ·have h0 : a.log = [] := by
    simp only [List.length_map] at *
    exact List.eq_nil_of_length_eq_zero (by omega)
  refine zab rfl ?_
  simp [lastI, lastT, h0]
 ·simp only [List.length_map] at *
  obtain ⟨h1, h2⟩ := zu3 (l := a.log) (by omega) hm
  refine ⟨h1, _, h2, ?_⟩
  conv => whnf
  refine zab rfl ?_
  have hne : a.log ≠ [] := fun e => by simp_all
  rw [zlj hne, lastI, if_neg (by omega)]
def newer (h : Hrd) (i t : Int) : Bool := decide (lastT h < t) || (t == lastT h && decide (lastI h ≤ i))
theorem zq7 (h : Hrd) (hm : h.log.length ≤ maxLen) (i t : Int) : Ctr Tryz.prog 159 [.ag h.enc, iv i, iv t] (bv (newer h i t)) [] := by
 refine sBody Tryz.func159 ?_; conv => whnf
 ((try (refine Exists.intro none ?_; conv => whnf)); (with_reducible refine zaa (zbr h hm) ?_); conv => whnf)
 repeat' (refine tSp (fun h => ?_) (fun h => ?_) <;> conv => whnf)
 all_goals (refine zab rfl ?_; simp [newer, *])
def asked (r : Rft) (m : Mg) : Bool := decide (r.hard.term < m.term) && (r.role != 3 && (decide (6 ≤ r.quiet) && newer r.hard m.index m.logTerm))
theorem zyz (r : Rft) (hm : r.hard.log.length ≤ maxLen) (m : Mg) : Ctr Tryz.prog 91 [.ag r.enc, .ag m.enc] (bv (asked r m)) [] := by
 refine sBody Tryz.func91 ?_; conv => whnf
 repeat' (first | ((try (refine Exists.intro none ?_; conv => whnf)); (with_reducible refine zaa (zq7 r.hard hm _ _) ?_); conv => whnf) | (refine tSp (fun h => ?_) (fun h => ?_) <;> conv => whnf))
 all_goals (refine zab rfl ?_; simp [asked, *])
def voted (r : Rft) (m : Mg) : Bool := m.term == r.hard.term && ((r.hard.vote == -1 || r.hard.vote == m.frm) && newer r.hard m.index m.logTerm)
theorem zq0 (r : Rft) (hm : r.hard.log.length ≤ maxLen) (m : Mg) : Ctr Tryz.prog 93 [.ag r.enc, .ag m.enc] (bv (voted r m)) [] := by
 refine sBody Tryz.func93 ?_; conv => whnf
 repeat' (first | ((try (refine Exists.intro none ?_; conv => whnf)); (with_reducible refine zaa (zq7 r.hard hm _ _) ?_); conv => whnf) | (refine tSp (fun h => ?_) (fun h => ?_) <;> conv => whnf))
 all_goals (refine zab rfl ?_; simp [voted, *])
abbrev idx (h : Hrd) (k : Nat) : Int := w64 (w64 (h.base + k) + 1)
def fwd (h : Hrd) (upto : Int) : Nat → Conf × Int
 | 0 => (h.baseConf, h.base)
 | i + 1 => match h.log[i]? with
  | some x => if idx h i ≤ upto ∧ x.kind = 2 then (x.conf, idx h i) else fwd h upto i
  | none => fwd h upto i
def force (h : Hrd) (upto : Int) : Conf × Int := fwd h upto h.log.length
abbrev civ (x : Conf × Int) : PV := .tu [.ag x.1.enc, iv x.2]
theorem zvq {h : Hrd} {upto : Int} {i : Nat} (hi : i < h.log.length) (h1 : idx h i ≤ upto) (h2 : (h.log[i]'hi).kind = 2) : fwd h upto (i + 1) = ((h.log[i]'hi).conf, idx h i) := by
 simp [fwd, hi, h1, h2]
theorem zmg {h : Hrd} {upto : Int} {i : Nat} (hi : i < h.log.length) (h1 : ¬ (idx h i ≤ upto ∧ (h.log[i]'hi).kind = 2)) : fwd h upto (i + 1) = fwd h upto i := by
 simp only [fwd, List.getElem?_eq_getElem hi, h1, if_false]
theorem zj3 (a : Hrd) (hm : a.log.length ≤ maxLen) (upto : Int) : Ctr Tryz.prog 152 [.ag a.enc, iv upto] (civ (force a upto)) [] := by
 have hm' : a.log.length ≤ 9223372036854775807 := Nat.le_trans hm (by decide)
 refine sBody Tryz.func152 ?_; conv => whnf
 refine ze1 mixed (by kernel_rfl) (fun i : Nat => i ≤ a.log.length) (fun i => [(8, iv i), (7, iv (fwd a upto i).2)]) (fun i => [(2, a.enc), (4, cz.enc), (6, (fwd a upto i).1.enc)]) [] (fun i => a.log.length - i) 0 (Nat.zero_le _) ?_ ?_
 ·conv => whnf
  exact wkD
 ·intro i hi
  conv => whnf
  (refine tSp (fun h => ?_) (fun h => ?_) <;> conv => whnf)
  ·simp only [List.length_map] at h
   have hlt : i < a.log.length := by omega
   (refine tSp (fun h => ?_) (fun h => ?_) <;> conv => whnf)
   ·refine ⟨by omega, _, zbp hlt, ?_⟩
    conv => whnf
    rename_i h0
    (refine tSp (fun h => ?_) (fun h => ?_) <;> conv => whnf)
    ·refine ⟨by omega, _, zbp hlt, ?_⟩
     conv => whnf
     rename_i h1
     refine ⟨i + 1, ⟨by omega, by omega⟩, ?_⟩
     conv => whnf
     have e := zvq hlt h1 h
     (refine wkx ?_; refine ⟨?_, ?_, ?_⟩ <;> (conv => whnf) <;> repeat' first | exact wkc | (with_reducible refine And.intro ?_ ?_) <;> first | exact wks | refine wko ?_ | refine wki ?_ | refine wkb ?_ | (refine zal ?_; conv => whnf) | (refine zad ?_; conv => whnf) | (refine zae ?_; conv => whnf) | conv => whnf)
     all_goals first | exact w1 (by omega) | (rw [e])
    ·rename_i h1
     refine ⟨i + 1, ⟨by omega, by omega⟩, ?_⟩
     conv => whnf
     have e := zmg (upto := upto) hlt (fun x => h x.2)
     (refine wkx ?_; refine ⟨?_, ?_, ?_⟩ <;> (conv => whnf) <;> repeat' first | exact wkc | (with_reducible refine And.intro ?_ ?_) <;> first | exact wks | refine wko ?_ | refine wki ?_ | refine wkb ?_ | (refine zal ?_; conv => whnf) | (refine zad ?_; conv => whnf) | (refine zae ?_; conv => whnf) | conv => whnf)
     all_goals first | exact w1 (by omega) | (rw [e])
   ·rename_i h0
    refine ⟨i + 1, ⟨by omega, by omega⟩, ?_⟩
    conv => whnf
    have e := zmg hlt (fun x => h x.1)
    (refine wkx ?_; refine ⟨?_, ?_, ?_⟩ <;> (conv => whnf) <;> repeat' first | exact wkc | (with_reducible refine And.intro ?_ ?_) <;> first | exact wks | refine wko ?_ | refine wki ?_ | refine wkb ?_ | (refine zal ?_; conv => whnf) | (refine zad ?_; conv => whnf) | (refine zae ?_; conv => whnf) | conv => whnf)
    all_goals first | exact w1 (by omega) | (rw [e])
  ·simp only [List.length_map] at h
   have : i = a.log.length := by omega
   subst this
   exact zab rfl rfl
theorem zb3 (r : Rft) (hm : r.hard.log.length ≤ maxLen) : Ctr Tryz.prog 76 [.ag r.enc] (.ag (force r.hard (lastI r.hard)).1.enc) [] := by
 refine sBody Tryz.func76 ?_; conv => whnf
 ((try (refine Exists.intro none ?_; conv => whnf)); (with_reducible refine zaa (zbr r.hard hm) ?_); conv => whnf)
 ((try (refine Exists.intro none ?_; conv => whnf)); (with_reducible refine zaa (zj3 r.hard hm _) ?_); conv => whnf)
 exact zab rfl rfl
abbrev zac (r : Rft) : Conf := (force r.hard (lastI r.hard)).1
theorem zj5 (r : Rft) (hm : r.hard.log.length ≤ maxLen) : Ctr Tryz.prog 79 [.ag r.enc] (bv (za0 (zac r) r.votes)) [] := by
 refine sBody Tryz.func79 ?_; conv => whnf
 ((try (refine Exists.intro none ?_; conv => whnf)); (with_reducible refine zaa (zb3 r hm) ?_); conv => whnf)
 ((try (refine Exists.intro none ?_; conv => whnf)); (with_reducible refine zaa (zg3 (zac r) _) ?_); conv => whnf)
 exact zab rfl rfl
theorem zit (r : Rft) (hm : r.hard.log.length ≤ maxLen) : Ctr Tryz.prog 78 [.ag r.enc] (bv (bitB (bor (zac r).full (zac r).wit) r.id)) [] := by
 refine sBody Tryz.func78 ?_; conv => whnf
 ((try (refine Exists.intro none ?_; conv => whnf)); (with_reducible refine zaa (zb5 _) ?_); conv => whnf)
 (refine tSp (fun h => ?_) (fun h => ?_) <;> conv => whnf)
 ·((try (refine Exists.intro none ?_; conv => whnf)); (with_reducible refine zaa (zb3 r hm) ?_); conv => whnf)
  ((try (refine Exists.intro none ?_; conv => whnf)); (with_reducible refine zaa (zje (zac r)) ?_); conv => whnf)
  ((try (refine Exists.intro none ?_; conv => whnf)); (with_reducible refine zaa (c_Has _ _) ?_); conv => whnf)
  refine zab rfl ?_
  rw [zh1 h]
 ·refine zab rfl ?_
  rw [zm2 h]
theorem zil (c : Conf) (i : Int) : Ctr Tryz.prog 75 [.ag c.enc, iv i] (iv (delay c i)) [] := by
 refine sBody Tryz.func75 ?_; conv => whnf
 ((try (refine Exists.intro none ?_; conv => whnf)); (with_reducible refine zaa (zms c i) ?_); conv => whnf)
 repeat' (refine tSp (fun h => ?_) (fun h => ?_) <;> conv => whnf)
 all_goals (refine zab rfl ?_; have hf := zm7 c i; have hw := zx5 c i; rw [Bool.eq_iff_iff, beq_iff_eq] at hf hw; simp_all [delay])
abbrev bz : ByteArray := ⟨#[]⟩
abbrev vz : VVal := ⟨0, 0, bz⟩
abbrev kz : VCall := ⟨0, 0, ⟨0, bz, vz, vz⟩⟩
abbrev ez : Ent := ⟨0, 0, kz, cz⟩
def entAt (h : Hrd) (i : Int) : Option Ent := if h.base < i ∧ i - h.base ≤ h.log.length then h.log[(i - h.base - 1).toNat]? else none
theorem zdx {h : Hrd} {i : Int} (hh : ¬ (h.base < i ∧ i - h.base ≤ h.log.length)) : entAt h i = none := by
 unfold entAt; rw [if_neg hh]
theorem zfw {h : Hrd} {i : Int} (h1 : h.base < i) (h2 : i - h.base ≤ h.log.length) : entAt h i = some (h.log[(i - h.base - 1).toNat]'(by omega)) := by
 unfold entAt; rw [if_pos ⟨h1, h2⟩, List.getElem?_eq_getElem]
theorem zt3 {α : Type} {f : α → List PV} {l : List α} {n : Int} {k : Nat} (hn : n = k) (h : k < l.length) : 0 ≤ n ∧ (l.map f)[n.toNat]? = some (f (l[k]'h)) := by
 subst hn; exact ⟨by omega, zbp h⟩
theorem c_Entry (a : Hrd) (hm : a.log.length ≤ maxLen) (hb : isI a.base) (i : Int) (hi : isI i) : Ctr Tryz.prog 141 [.ag a.enc, iv i] (.tu [.ag ((entAt a i).getD ez).enc, bv (entAt a i).isSome]) [] := by
 have hm' : a.log.length ≤ 9223372036854775807 := Nat.le_trans hm (by decide)
 unfold isI at hb hi
 refine sBody Tryz.func141 ?_; conv => whnf
 (refine tSp (fun h => ?_) (fun h => ?_) <;> conv => whnf)
 ·refine zab rfl ?_
  rw [zdx (by omega)]; rfl
 have h0 := h
 (refine tSp (fun h => ?_) (fun h => ?_) <;> conv => whnf)
 ·refine zab rfl ?_
  simp only [List.length_map] at h
  rw [zdx]
  ·rfl
  ·rw [zn1] at h; split at h <;> omega
 have h1 := h
 (refine tSp (fun h => ?_) (fun h => ?_) <;> conv => whnf)
 ·refine zab rfl ?_
  simp only [List.length_map] at h h1
  rw [zdx]
  ·rfl
  ·rw [zn1] at h; split at h <;> omega
 ·simp only [List.length_map] at h h1
  have e : IntKind.i64.wrap (i - a.base) = i - a.base := by
   rw [zn1] at *; split at h <;> split <;> omega
  rw [e] at h h1
  have e2 : IntKind.i64.wrap (IntKind.i64.wrap (i - a.base) - 1) = ((i - a.base - 1).toNat : Int) := by
   rw [e, zai (by omega) (by omega)]; omega
  obtain ⟨r1, r2⟩ := zt3 (f := Ent.enc) (l := a.log) e2 (by omega)
  refine ⟨r1, _, r2, ?_⟩
  conv => whnf
  refine zab rfl ?_
  rw [zfw (by omega) (by omega)]; rfl
def zbk (h : Hrd) (i : Int) : Int := if i = h.base then h.baseTerm else match entAt h i with
 | some x => x.term
 | none => -1
def fits (h : Hrd) (i t : Int) : Bool := t != -1 && zbk h i == t
theorem c_rAt (a : Hrd) (hm : a.log.length ≤ maxLen) (hb : 0 ≤ a.base) (hs : a.base + a.log.length < 9223372036854775808) (i : Int) (hi : isI i) : Ctr Tryz.prog 54 [.ag a.enc, iv i] (.tu [.ag ((entAt a i).getD ez).enc, bv (entAt a i).isSome]) [] := by
 have hm' : a.log.length ≤ 9223372036854775807 := Nat.le_trans hm (by decide)
 unfold isI at hi
 refine sBody Tryz.func54 ?_; conv => whnf
 (refine tSp (fun h => ?_) (fun h => ?_) <;> conv => whnf)
 ·refine zab rfl ?_
  rw [zdx (by omega)]; rfl
 have h0 := h
 (refine tSp (fun h => ?_) (fun h => ?_) <;> conv => whnf)
 ·refine zab rfl ?_
  simp only [List.length_map] at h
  rw [zai (by omega) (by omega)] at h
  rw [zdx (by omega)]; rfl
 ·simp only [List.length_map] at h
  rw [zai (by omega) (by omega)] at h
  have e2 : IntKind.i64.wrap (IntKind.i64.wrap (i - a.base) - 1) = ((i - a.base - 1).toNat : Int) := by
   rw [zai (n := i - a.base) (by omega) (by omega), zai (by omega) (by omega)]; omega
  obtain ⟨r1, r2⟩ := zt3 (f := Ent.enc) (l := a.log) e2 (by omega)
  refine ⟨r1, _, r2, ?_⟩
  conv => whnf
  refine zab rfl ?_
  rw [zfw (by omega) (by omega)]; rfl
theorem zj1 (a : Hrd) (hm : a.log.length ≤ maxLen) (hb : 0 ≤ a.base) (hs : a.base + a.log.length < 9223372036854775808) (i : Int) (hi : isI i) : Ctr Tryz.prog 58 [.ag a.enc, iv i] (iv (zbk a i)) [] := by
 refine sBody Tryz.func58 ?_; conv => whnf
 (refine tSp (fun h => ?_) (fun h => ?_) <;> conv => whnf)
 ·exact zab rfl (by rw [zbk, if_pos h])
 have h0 := h
 ((try (refine Exists.intro none ?_; conv => whnf)); (with_reducible refine zaa (c_rAt a hm hb hs i hi) ?_); conv => whnf)
 cases he : entAt a i with
 | none =>
  conv => whnf
  exact zab rfl (by rw [zbk, if_neg h0, he])
 | some x =>
  conv => whnf
  exact zab rfl (by rw [zbk, if_neg h0, he]; rfl)
def Arr.at (m : Arr) : Nat → Int
 | 0 => m.a0
 | 1 => m.a1
 | 2 => m.a2
 | 3 => m.a3
 | 4 => m.a4
 | 5 => m.a5
 | 6 => m.a6
 | _ => 0
noncomputable def haveB (m : Arr) (n : Int) : Nat → Int
 | 0 => 0
 | k + 1 => if n ≤ m.at k then bor (haveB m n k) (shl 1 k) else haveB m n k
def down (p : Int → Bool) (base commit : Int) : Nat → Int
 | 0 => commit
 | f + 1 => if commit < base + f then (if p (base + f) then base + f else down p base commit f) else commit
noncomputable def hit (h : Hrd) (m : Arr) (n : Int) : Bool := fits h n h.term && za0 (force h (lastI h)).1 (haveB m n 7)
noncomputable def zdt (h : Hrd) (commit : Int) (m : Arr) : Int := down (hit h m) h.base commit (h.log.length + 1)
theorem zyu {h : Hrd} (hb : 0 ≤ h.base) (hs : h.base + h.log.length < 9223372036854775808) : lastI h = h.base + h.log.length := by
 unfold lastI
 split
 ·omega
 ·exact zai (by omega) (by omega)
theorem zzf (c : Conf) : Ctr Tryz.prog 31 [.ag c.enc] (.ag [iv 0, iv (-1), iv 0, iv 0, iv c.full, iv c.wit, iv c.learn, iv c.lwit, .nl, .nl]) [] := by
 refine sBody Tryz.func31 ?_; conv => whnf
 exact zab rfl rfl
abbrev et (t : Int) : Ent := ⟨t, 0, kz, cz⟩
theorem zl1 {p : Int → Bool} {base commit : Int} : ∀ f, commit ≤ down p base commit f
 | 0 => Int.le_refl _
 | f + 1 => by
  unfold down
  split
  ·split
   ·omega
   ·exact zl1 f
  ·exact Int.le_refl _
theorem zke {p : Int → Bool} {base commit : Int} : ∀ f, down p base commit f = commit ∨ (commit < down p base commit f ∧ base ≤ down p base commit f ∧ down p base commit f < base + f ∧ p (down p base commit f) = true)
 | 0 => .inl rfl
 | f + 1 => by
  unfold down
  split
  ·split
   ·rename_i h1 h2
    exact .inr ⟨h1, by omega, by omega, h2⟩
   ·rcases zke (p := p) (base := base) (commit := commit) f with h | ⟨h1, h2, h3, h4⟩
    ·exact .inl h
    ·exact .inr ⟨h1, h2, by omega, h4⟩
  ·exact .inl rfl
end Go.Proofs
