import Derived.Test.YtbhfokahocgndabGreatC13
import Derived.Test.YtbhfokahocgndabGreatPvN
import Derived.Test.YtbhfokahocgndabGreatPvX
import Derived.Test.YtbhfokahocgndabGreatC1
import Derived.Test.YtbhfokahocgndabGreatC5
import Derived.Test.YtbhfokahocgndabGreatC24
/-
  A nil slice where a contract speaks of an empty one, however deep. Generic over the program.
-/
set_option linter.unusedSimpArgs false
set_option linter.unusedVariables false
namespace Go.Pv
mutual
def SubV : PV → PV → Prop
 | .nl, q => q = .nl ∨ ∃ sz, q = .sl sz []
 | .ag ps, q => ∃ qs, q = .ag qs ∧ SubVL ps qs
 | .tu ps, q => ∃ qs, q = .tu qs ∧ SubVL ps qs
 | .cl f ps, q => ∃ qs, q = .cl f qs ∧ SubVL ps qs
 | .cm f ps, q => ∃ qs, q = .cm f qs ∧ SubVL ps qs
 | .sl sz rows, q => ∃ rows', q = .sl sz rows' ∧ SubVR rows rows'
 | .ep ps, q => ∃ qs, q = .ep qs ∧ SubVL ps qs
 | .sc v, q => q = .sc v
 | .pt k off, q => q = .pt k off
 | .bs k off len, q => q = .bs k off len
 | .ow k lo len, q => q = .ow k lo len
 | .eo k i off, q => q = .eo k i off
 | .ub φ, q => q = .ub φ
 | .nn kd, q => q = .nn kd
 | .ls sz rows, q => q = .ls sz rows
 | .lp s, q => q = .lp s
 | .bad, q => q = .bad
def SubVL : List PV → List PV → Prop
 | [], qs => qs = []
 | p :: ps, qs => ∃ q r, qs = q :: r ∧ SubV p q ∧ SubVL ps r
def SubVR : List (List PV) → List (List PV) → Prop
 | [], qs => qs = []
 | p :: ps, qs => ∃ q r, qs = q :: r ∧ SubVL p q ∧ SubVR ps r
end
theorem SubVL.len : ∀ {ps qs : List PV}, SubVL ps qs → qs.length = ps.length
 | [], qs, h => by simp only [SubVL] at h; simp [h]
 | p :: ps, qs, h => by
  simp only [SubVL] at h
  obtain ⟨q, r, rfl, _, h2⟩ := h
  simp [SubVL.len h2]
theorem SubVR.len : ∀ {ps qs : List (List PV)}, SubVR ps qs → qs.length = ps.length
 | [], qs, h => by simp only [SubVR] at h; simp [h]
 | p :: ps, qs, h => by
  simp only [SubVR] at h
  obtain ⟨q, r, rfl, _, h2⟩ := h
  simp [SubVR.len h2]
mutual
theorem SubV.sound {M : Mem} {w : World} : ∀ (p q : PV) (v : Value), SubV p q → RV M w p v → RV M w q v
 | .nl, q, v, h, hv => by
  simp only [SubV] at h
  rcases h with rfl | ⟨sz, rfl⟩
  ·exact hv
  ·exact sub_nl hv
 | .ag ps, q, v, h, hv => by
  simp only [SubV] at h
  obtain ⟨qs, rfl, h⟩ := h
  simp only [RV] at hv ⊢
  obtain ⟨cs, e, r⟩ := hv
  exact ⟨cs, e, SubVL.sound ps qs _ h r⟩
 | .tu ps, q, v, h, hv => by
  simp only [SubV] at h
  obtain ⟨qs, rfl, h⟩ := h
  simp only [RV] at hv ⊢
  obtain ⟨cs, e, r⟩ := hv
  exact ⟨cs, e, SubVL.sound ps qs _ h r⟩
 | .cl f ps, q, v, h, hv => by
  simp only [SubV] at h
  obtain ⟨qs, rfl, h⟩ := h
  simp only [RV] at hv ⊢
  obtain ⟨cs, e, r⟩ := hv
  exact ⟨cs, e, SubVL.sound ps qs _ h r⟩
 | .cm f ps, q, v, h, hv => by
  simp only [SubV] at h
  obtain ⟨qs, rfl, h⟩ := h
  simp only [RV] at hv ⊢
  obtain ⟨cs, e, r⟩ := hv
  exact ⟨cs, e, SubVL.sound ps qs _ h r⟩
 | .sl sz rows, q, v, h, hv => by
  simp only [SubV] at h
  obtain ⟨rows', rfl, h⟩ := h
  simp only [RV] at hv ⊢
  obtain ⟨a, n, c, e, hn, hc, r⟩ := hv
  refine ⟨a, n, c, e, by rw [h.len]; exact hn, hc, ?_⟩
  rcases r with rfl | ⟨b, off, cs, ha, hs, hcl, hR⟩
  ·left; simpa [SubVR] using h
  ·exact .inr ⟨b, off, cs, ha, hs, hcl, SubVR.sound sz rows rows' cs h hR⟩
 | .ep ps, q, v, h, hv => by
  simp only [SubV] at h
  obtain ⟨qs, rfl, h⟩ := h
  simp only [RV] at hv ⊢
  obtain ⟨b, off, cs, e, hs, hcl, hr⟩ := hv
  exact ⟨b, off, cs, e, hs, hcl, SubVL.sound ps qs cs h hr⟩
 | .sc x, q, v, h, hv => by simp only [SubV] at h; subst h; exact hv
 | .pt .., q, v, h, hv => by simp only [SubV] at h; subst h; exact hv
 | .bs .., q, v, h, hv => by simp only [SubV] at h; subst h; exact hv
 | .ow .., q, v, h, hv => by simp only [SubV] at h; subst h; exact hv
 | .eo .., q, v, h, hv => by simp only [SubV] at h; subst h; exact hv
 | .ub .., q, v, h, hv => by simp only [SubV] at h; subst h; exact hv
 | .nn .., q, v, h, hv => by simp only [SubV] at h; subst h; exact hv
 | .ls .., q, v, h, hv => by simp only [SubV] at h; subst h; exact hv
 | .lp .., q, v, h, hv => by simp only [SubV] at h; subst h; exact hv
 | .bad, q, v, h, hv => by simp only [SubV] at h; subst h; exact hv
theorem SubVL.sound {M : Mem} {w : World} : ∀ (ps qs : List PV) (cs : List Value), SubVL ps qs → RVL M w ps cs → RVL M w qs cs
 | [], qs, cs, h, hv => by simp only [SubVL] at h; subst h; exact hv
 | p :: ps, qs, cs, h, hv => by
  simp only [SubVL] at h
  obtain ⟨q, r, rfl, h1, h2⟩ := h
  simp only [RVL] at hv ⊢
  obtain ⟨c, rr, e, h3, h4⟩ := hv
  exact ⟨c, rr, e, SubV.sound p q c h1 h3, SubVL.sound ps r rr h2 h4⟩
theorem SubVR.sound {M : Mem} {w : World} (sz : Nat) : ∀ (ps qs : List (List PV)) (cs : List Value), SubVR ps qs → RVR M w sz ps cs → RVR M w sz qs cs
 | [], qs, cs, h, hv => by simp only [SubVR] at h; subst h; exact hv
 | p :: ps, qs, cs, h, hv => by
  simp only [SubVR] at h
  obtain ⟨q, r, rfl, h1, h2⟩ := h
  simp only [RVR] at hv ⊢
  obtain ⟨c1, c2, e, hl, h3, h4⟩ := hv
  exact ⟨c1, c2, e, h1.len.trans hl, SubVL.sound p q c1 h1 h3, SubVR.sound sz ps r c2 h2 h4⟩
end
theorem Ctr.deep {P : Program} {f : Nat} {ps qs : List PV} {r : PV} {os : List (Nat × List (List PV))} (h : Ctr P f qs r os) (hs : SubVL ps qs) : Ctr P f ps r os :=
 ⟨fun w st vs hst hv => h.run w st vs hst (SubVL.sound ps qs vs hs hv)⟩
theorem za9 {P : Program} {f : Nat} {ps qs : List PV} {r : PV} {os : List (Nat × List (List PV))} {K : PV → List (Nat × List (List PV)) → Prop} (h : Ctr P f qs r os) (hs : SubVL ps qs) (k : K r os) : ∃ r os, Ctr P f ps r os ∧ K r os := ⟨r, os, h.deep hs, k⟩
mutual
theorem SubV.refl : ∀ p : PV, SubV p p
 | .nl => by simp [SubV]
 | .ag ps => by simp only [SubV]; exact ⟨ps, rfl, SubVL.refl ps⟩
 | .tu ps => by simp only [SubV]; exact ⟨ps, rfl, SubVL.refl ps⟩
 | .cl f ps => by simp only [SubV]; exact ⟨ps, rfl, SubVL.refl ps⟩
 | .cm f ps => by simp only [SubV]; exact ⟨ps, rfl, SubVL.refl ps⟩
 | .sl sz rows => by simp only [SubV]; exact ⟨rows, rfl, SubVR.refl rows⟩
 | .ep ps => by simp only [SubV]; exact ⟨ps, rfl, SubVL.refl ps⟩
 | .sc x => by simp [SubV]
 | .pt .. => by simp [SubV]
 | .bs .. => by simp [SubV]
 | .ow .. => by simp [SubV]
 | .eo .. => by simp [SubV]
 | .ub .. => by simp [SubV]
 | .nn .. => by simp [SubV]
 | .ls .. => by simp [SubV]
 | .lp .. => by simp [SubV]
 | .bad => by simp [SubV]
theorem SubVL.refl : ∀ ps : List PV, SubVL ps ps
 | [] => by simp [SubVL]
 | p :: ps => by simp only [SubVL]; exact ⟨p, ps, rfl, SubV.refl p, SubVL.refl ps⟩
theorem SubVR.refl : ∀ ps : List (List PV), SubVR ps ps
 | [] => by simp [SubVR]
 | p :: ps => by simp only [SubVR]; exact ⟨p, ps, rfl, SubVL.refl p, SubVR.refl ps⟩
end
theorem zbn {sz : Nat} : SubV .nl (.sl sz []) := by simp only [SubV]; exact .inr ⟨sz, rfl⟩
theorem zb0 {sz : Nat} {rows rows' : List (List PV)} (h : SubVR rows rows') : SubV (.sl sz rows) (.sl sz rows') := by simp only [SubV]; exact ⟨rows', rfl, h⟩
theorem zb2 {sz n : Nat} {r : List (List PV)} (h : r.length = n) : SubV (.sl sz ((r.drop 0).take n)) (.sl sz r) := by subst h; rw [List.drop_zero, List.take_length]; exact SubV.refl _
theorem zby {ps qs : List PV} (h : SubVL ps qs) : SubV (.ag ps) (.ag qs) := by simp only [SubV]; exact ⟨qs, rfl, h⟩
theorem zbz {ps qs : List PV} (h : SubVL ps qs) : SubV (.ep ps) (.ep qs) := by simp only [SubV]; exact ⟨qs, rfl, h⟩
theorem zaz {p q : PV} {ps qs : List PV} (h1 : SubV p q) (h2 : SubVL ps qs) : SubVL (p :: ps) (q :: qs) := by simp only [SubVL]; exact ⟨q, qs, rfl, h1, h2⟩
theorem za6 : SubVL [] [] := by simp [SubVL]
theorem za0 {p q : List PV} {ps qs : List (List PV)} (h1 : SubVL p q) (h2 : SubVR ps qs) : SubVR (p :: ps) (q :: qs) := by simp only [SubVR]; exact ⟨q, qs, rfl, h1, h2⟩
theorem za5 : SubVR [] [] := by simp [SubVR]
end Go.Pv
namespace Go.Proofs
open Go.Pv
set_option maxRecDepth 100000
theorem app1_map {α : Type} {f : α → List PV} {l : List α} {n : Nat} {x : List PV} (hn : n = (l.map f).length) (y : α) (hx : x = f y) : (l.map f).take n ++ [x] = (l ++ [y]).map f := by
 subst hn; subst hx; simp [List.take_of_length_le]
theorem zav {b : Bool} {sz sz' : Nat} {r r' : List (List PV)} (h : sz = sz') (h2 : r = r') : (b, sz, r) = (b, sz', r') := by subst h; subst h2; rfl
theorem c_rFits (a : Hrd) (hm : a.log.length ≤ maxLen) (hb : 0 ≤ a.base) (hs : a.base + a.log.length < 9223372036854775808) (i : Int) (hi : isI i) (t : Int) : Ctr Tryz.prog 198 [.ag a.enc, iv i, iv t] (bv (fits a i t)) [] := by
 refine sBody Tryz.func198 ?_; conv => whnf
 (refine tSp (fun h => ?_) (fun h => ?_) <;> conv => whnf)
 ·((try (refine Exists.intro none ?_; conv => whnf)); (with_reducible refine zaa (zk5 a hm hb hs i hi) ?_); conv => whnf)
  exact zab rfl (by simp [fits, h])
 ·exact zab rfl (by simp [fits, h])
abbrev hzv : List PV := [iv 0, iv 0, iv 0, iv 0, iv 0, iv 0, iv 0, iv 0, .nl, .nl]
def putM : List Ent → List Ent → List Ent
 | g, [] => g
 | [], x :: l => x :: l
 | y :: g, x :: l => if y.term = x.term then y :: putM g l else x :: l
def putG (g : List Ent) (n : Nat) (l : List Ent) : List Ent := g.take n ++ putM (g.drop n) l
def putH (h : Hrd) (i : Int) (l : List Ent) : Hrd := { h with log := putG h.log (i - h.base).toNat l }
def alike (g : List Ent) (n : Nat) (l : List Ent) (j : Nat) : Prop := ∀ k, k < j → ∃ h1 : n + k < g.length, ∃ h2 : k < l.length, (g[n + k]'h1).term = (l[k]'h2).term
theorem putM_all : ∀ (g l : List Ent), (∀ k, k < l.length → ∃ h1 : k < g.length, ∃ h2 : k < l.length, (g[k]'h1).term = (l[k]'h2).term) → putM g l = g
 | g, [], _ => by cases g <;> rfl
 | [], x :: l, h => by obtain ⟨h1, _⟩ := h 0 (by simp); simp at h1
 | y :: g, x :: l, h => by
  obtain ⟨_, _, h0⟩ := h 0 (by simp)
  simp only [List.getElem_cons_zero] at h0
  rw [putM, if_pos h0, putM_all g l]
  intro k hk
  obtain ⟨h1, h2, h3⟩ := h (k + 1) (by simpa using hk)
  simp only [List.getElem_cons_succ] at h3
  exact ⟨by simpa using h1, hk, h3⟩
theorem putM_at : ∀ (g l : List Ent) (j : Nat), (∀ k, k < j → ∃ h1 : k < g.length, ∃ h2 : k < l.length, (g[k]'h1).term = (l[k]'h2).term) → (hj : j < l.length) → (∀ h1 : j < g.length, (g[j]'h1).term ≠ (l[j]'hj).term) → putM g l = g.take j ++ l.drop j
 | g, [], j, _, hj, _ => by simp at hj
 | [], x :: l, 0, _, _, _ => rfl
 | [], x :: l, j + 1, h, _, _ => by obtain ⟨h1, _⟩ := h 0 (by omega); simp at h1
 | y :: g, x :: l, 0, _, _, hn => by
  have := hn (by simp)
  simp only [List.getElem_cons_zero] at this
  rw [putM, if_neg this]; rfl
 | y :: g, x :: l, j + 1, h, hj, hn => by
  obtain ⟨_, _, h0⟩ := h 0 (by omega)
  simp only [List.getElem_cons_zero] at h0
  rw [putM, if_pos h0, putM_at g l j ?_ (by simpa using hj) ?_]
  ·rfl
  ·intro k hk
   obtain ⟨h1, h2, h3⟩ := h (k + 1) (by omega)
   simp only [List.getElem_cons_succ] at h3
   exact ⟨by simpa using h1, by simpa using h2, h3⟩
  ·intro h1
   have := hn (by simpa using h1)
   simpa using this
theorem putG_all {g l : List Ent} {n : Nat} (h : alike g n l l.length) : putG g n l = g := by
 unfold putG
 rw [putM_all, List.take_append_drop]
 intro k hk
 obtain ⟨h1, h2, h3⟩ := h k hk
 exact ⟨by rw [List.length_drop]; omega, h2, by rw [List.getElem_drop]; exact h3⟩
theorem putG_at {g l : List Ent} {n j : Nat} (h : alike g n l j) (hn : n ≤ g.length) (hj : j < l.length) (hd : ∀ h1 : n + j < g.length, (g[n + j]'h1).term ≠ (l[j]'hj).term) : putG g n l = g.take (n + j) ++ l.drop j := by
 unfold putG
 rw [putM_at (g.drop n) l j ?_ hj ?_, ← List.append_assoc]
 ·congr 1
  rw [List.take_add]
 ·intro k hk
  obtain ⟨h1, h2, h3⟩ := h k hk
  exact ⟨by rw [List.length_drop]; omega, h2, by rw [List.getElem_drop]; exact h3⟩
 ·intro h1
  rw [List.getElem_drop]
  exact hd (by rw [List.length_drop] at h1; omega)
noncomputable def putHE (h : Hrd) (i : Int) (l : List Ent) : Int := if hardB h = true then (if (h.base ≤ i ∧ i ≤ lastI h) ∧ rowB l (zbc h i) h.term = true then 0 else 1) else 6
theorem putHE_inv {h : Hrd} {i : Int} {l : List Ent} (e : putHE h i l = 0) : hardB h = true ∧ (h.base ≤ i ∧ i ≤ lastI h) ∧ rowB l (zbc h i) h.term = true := by
 unfold putHE at e
 by_cases h1 : hardB h = true
 ·rw [if_pos h1] at e
  by_cases h2 : (h.base ≤ i ∧ i ≤ lastI h) ∧ rowB l (zbc h i) h.term = true
  ·exact ⟨h1, h2⟩
  ·rw [if_neg h2] at e; omega
 ·rw [if_neg h1] at e; omega
def resV (e : Int) (x : Hrd) : PV := if e = 0 then .tu [.ag (x.own 0), iv 0] else .tu [.ag hzv, iv e]
def resO (e : Int) (x : Hrd) : List (Nat × List (List PV)) := if e = 0 then x.obs else []
def resW (e : Int) (x : Hrd) : PV := if e = 0 then .tu [.ag x.enc, iv 0] else .tu [.ag hzv, iv e]
theorem res_ok {e : Int} {x : Hrd} (he : e = 0) : resV e x = .tu [.ag (x.own 0), iv 0] ∧ resO e x = x.obs ∧ resW e x = .tu [.ag x.enc, iv 0] := by
 subst he; exact ⟨rfl, rfl, rfl⟩
theorem zgc {e : Int} {x : Hrd} (he : ¬ e = 0) : resV e x = .tu [.ag hzv, iv e] ∧ resO e x = [] ∧ resW e x = .tu [.ag hzv, iv e] := by
 unfold resV resO resW
 rw [if_neg he, if_neg he, if_neg he]; exact ⟨rfl, rfl, rfl⟩
theorem za8 {h : Hrd} (e : hardB h = true) : HardA h ∧ confB h.baseConf = true ∧ (h.snap.length ≤ 16384 ∧ (0 < h.base ∨ h.snap.length = 0)) ∧ rowB h.log h.baseTerm h.term = true := by
 unfold hardB at e
 simp only [Bool.and_eq_true, decide_eq_true_eq] at e
 obtain ⟨e1, e2, e3, e4⟩ := e
 refine ⟨?_, e2, e3, e4⟩
 apply Classical.byContradiction
 intro hn
 rw [zh2 hn] at e1; cases e1
theorem zbu {h : Hrd} (hb : 0 ≤ h.base) (hs : h.base + h.log.length < 9223372036854775808) : lastI h = h.base + h.log.length := by
 unfold lastI
 split
 ·omega
 ·exact zaj (by omega) (by omega)
theorem alike_0 (g : List Ent) (n : Nat) (l : List Ent) : alike g n l 0 := fun k hk => absurd hk (Nat.not_lt_zero _)
theorem alike_succ {g : List Ent} {n : Nat} {l : List Ent} {j : Nat} (h : alike g n l j) (h1 : n + j < g.length) (h2 : j < l.length) (e : (g[n + j]'h1).term = (l[j]'h2).term) : alike g n l (j + 1) := by
 intro k hk
 by_cases ek : k = j
 ·subst ek; exact ⟨h1, h2, e⟩
 ·exact h k (by omega)
theorem alike_le {g : List Ent} {n : Nat} {l : List Ent} {j : Nat} (h : alike g n l j) (hn : n ≤ g.length) : n + j ≤ g.length := by
 by_cases ek : j = 0
 ·omega
 ·obtain ⟨h1, _⟩ := h (j - 1) (by omega); omega
theorem zeroC_kz : zeroC kz = true := (zeroC_nrm kz).1 rfl
theorem entryB_et (t : Int) : zcy (et t) = true := by
 unfold zcy
 rw [if_pos rfl, zeroC_kz]; simp
theorem putM_term : ∀ (g l : List Ent) (k : Nat) (h : k < l.length), ∃ a, (putM g l)[k]? = some a ∧ a.term = (l[k]'h).term
 | g, [], k, h => by simp at h
 | [], x :: l, k, h => ⟨(x :: l)[k], by simp [putM, h], rfl⟩
 | y :: g, x :: l, k, h => by
  by_cases e : y.term = x.term
  ·rw [putM, if_pos e]
   cases k with
   | zero => exact ⟨y, rfl, e⟩
   | succ k =>
    obtain ⟨a, h1, h2⟩ := putM_term g l k (by simpa using h)
    exact ⟨a, by simpa using h1, by simpa using h2⟩
  ·rw [putM, if_neg e]
   exact ⟨(x :: l)[k], by simp [h], rfl⟩
theorem rowB_putM : ∀ (g l : List Ent) (b t : Int), rowB g b t = true → rowB l b t = true → rowB (putM g l) b t = true
 | g, [], b, t, h, _ => by
  have : putM g [] = g := by cases g <;> rfl
  rw [this]; exact h
 | [], x :: l, b, t, _, h => by rw [putM]; exact h
 | y :: g, x :: l, b, t, h1, h2 => by
  by_cases e : y.term = x.term
  ·rw [putM, if_pos e]
   simp only [rowB, Bool.and_eq_true] at h1 h2 ⊢
   exact ⟨h1.1, rowB_putM g l y.term t h1.2 (by rw [e]; exact h2.2)⟩
  ·rw [putM, if_neg e]; exact h2
theorem behind_cons (x : Ent) (g : List Ent) (b : Int) (n : Nat) : za1 (x :: g) b (n + 1) = za1 g x.term n := by
 cases n with
 | zero => simp [za1]
 | succ n =>
  cases g with
  | nil => simp [za1]
  | cons y g =>
   simp only [za1, List.take_succ_cons, List.getLast?_cons_cons]
   cases he : (y :: List.take n g).getLast? with
   | none => simp at he
   | some z => rfl
theorem zdy : ∀ (g k : List Ent) (b t : Int), rowB (g ++ k) b t = (rowB g b t && rowB k (za1 g b g.length) t)
 | [], k, b, t => by simp [rowB, za1]
 | x :: g, k, b, t => by
  simp only [List.cons_append, rowB, zdy g k, List.length_cons, behind_cons, Bool.and_assoc]
theorem zft (g : List Ent) (b : Int) (n : Nat) (hn : n ≤ g.length) : za1 (g.take n) b (g.take n).length = za1 g b n := by
 unfold za1
 rw [List.take_length]
theorem rowB_putG {g l : List Ent} {b t : Int} {n : Nat} (hn : n ≤ g.length) (h1 : rowB g b t = true) (h2 : rowB l (za1 g b n) t = true) : rowB (putG g n l) b t = true := by
 unfold putG
 have h := h1
 rw [← List.take_append_drop n g, zdy, Bool.and_eq_true, zft g b n hn] at h
 rw [zdy, Bool.and_eq_true, zft g b n hn]
 exact ⟨h.1, rowB_putM _ _ _ _ h.2 h2⟩
theorem ziy {h : Hrd} {j : Int} {m : Nat} (e : j = h.base + 1 + m) : entAt h j = h.log[m]? := by
 by_cases hm : m < h.log.length
 ·rw [zec (by omega) (by omega), List.getElem?_eq_getElem hm]
  congr 2
  omega
 ·rw [zdr (by omega), List.getElem?_eq_none (by omega)]
theorem zdq {h : Hrd} {j : Int} {n : Nat} (e : j = h.base + n) (hn : n ≤ h.log.length) : zbc h j = za1 h.log h.baseTerm n := by
 unfold zbc
 cases n with
 | zero => rw [if_pos (by omega), zd1]
 | succ n =>
  rw [if_neg (by omega), ziy (m := n) (by omega), List.getElem?_eq_getElem (by omega), zbh (by omega)]
theorem zgf (g l : List Ent) {n : Nat} (hn : n ≤ g.length) : (putG g n l).take n = g.take n := by
 unfold putG
 rw [List.take_append_of_le_length (by simp; omega), List.take_take, Nat.min_self]
theorem zf4 (g l : List Ent) {n : Nat} (hn : n ≤ g.length) : (putG g n l).drop n = putM (g.drop n) l := by
 unfold putG
 rw [List.drop_append_of_le_length (by simp; omega), List.drop_eq_nil_of_le (by simp; omega), List.nil_append]
theorem zga : ∀ g l : List Ent, (putM g l).length ≤ g.length + l.length ∧ l.length ≤ (putM g l).length
 | g, [] => by cases g <;> simp [putM]
 | [], x :: l => by simp [putM]
 | y :: g, x :: l => by
  have := zga g l
  rw [putM]
  split <;> simp only [List.length_cons] <;> omega
theorem putG_le (g l : List Ent) {n : Nat} (hn : n ≤ g.length) : (putG g n l).length ≤ g.length + l.length := by
 have := (zga (g.drop n) l).1
 unfold putG
 rw [List.length_append, List.length_take]
 rw [List.length_drop] at this
 omega
structure PutOk (h : Hrd) (i : Int) (l : List Ent) (n : Nat) : Prop where
 hard : hardB h = true
 at' : i = h.base + n
 le : n ≤ h.log.length
 row : rowB l (za1 h.log h.baseTerm n) h.term = true
theorem putOk {h : Hrd} {i : Int} {l : List Ent} (e : putHE h i l = 0) (hl : h.log.length ≤ 4294967) : ∃ n, PutOk h i l n := by
 obtain ⟨h1, h2, h3⟩ := putHE_inv e
 have hA := (za8 h1).1
 have := hA.b
 rw [zbu this.1 (by omega)] at h2
 refine ⟨(i - h.base).toNat, h1, by omega, by omega, ?_⟩
 rw [← zdq (h := h) (j := i) (by omega) (by omega)]
 exact h3
theorem PutOk.e {h : Hrd} {i : Int} {l : List Ent} {n : Nat} (k : PutOk h i l n) (hl : h.log.length ≤ 4294967) : putHE h i l = 0 := by
 have hA := (za8 k.hard).1
 have := hA.b
 have := k.at'
 have := k.le
 unfold putHE
 rw [if_pos k.hard, if_pos]
 refine ⟨?_, ?_⟩
 ·rw [zbu (by omega) (by omega)]; omega
 ·rw [zdq k.at' k.le]; exact k.row
theorem PutOk.log {h : Hrd} {i : Int} {l : List Ent} {n : Nat} (k : PutOk h i l n) : putH h i l = { h with log := putG h.log n l } := by
 have := k.at'
 unfold putH
 rw [show (i - h.base).toNat = n by omega]
theorem hardB_log {h : Hrd} (e : hardB h = true) {g : List Ent} (hg : rowB g h.baseTerm h.term = true) : hardB { h with log := g } = true := by
 obtain ⟨hA, h2, h3, _⟩ := za8 e
 unfold hardB
 rw [zd3 (show HardA { h with log := g } from ⟨hA.t, hA.v, hA.b, hA.bt, hA.z⟩)]
 simp only [h2, hg, h3, Bool.and_true, Bool.true_and, decide_eq_true_eq]
 simp
theorem PutOk.right {h : Hrd} {i : Int} {l : List Ent} {n : Nat} (k : PutOk h i l n) : hardB (putH h i l) = true := by
 rw [k.log]
 exact hardB_log k.hard (rowB_putG k.le (za8 k.hard).2.2.2 k.row)
theorem putM_nil (g : List Ent) : putM g [] = g := by cases g <;> rfl
theorem zgg (l : List Ent) : putM [] l = l := by cases l <;> rfl
theorem zj6 : ∀ (g l : List Ent) (k : Nat), k ≤ l.length → (putM g (l.take k)).take k ++ putM ((putM g (l.take k)).drop k) (l.drop k) = putM g l
 | g, l, 0, _ => by simp [putM_nil]
 | g, [], k + 1, h => by simp at h
 | [], x :: l, k + 1, h => by
  have h' : k ≤ l.length := by simpa using h
  have h1 : ((x :: l).take (k + 1)).length = k + 1 := by simp; omega
  rw [zgg, zgg, List.take_take, Nat.min_self, List.drop_eq_nil_of_le (by omega), zgg, List.take_append_drop]
 | y :: g, x :: l, k + 1, h => by
  have h' : k ≤ l.length := by simpa using h
  by_cases e : y.term = x.term
  ·rw [List.take_succ_cons, putM, if_pos e, List.take_succ_cons, List.drop_succ_cons, List.drop_succ_cons, List.cons_append, zj6 g l k h', putM, if_pos e]
  ·have h1 : (x :: l.take k).length = k + 1 := by simp; omega
   rw [List.take_succ_cons, putM, if_neg e, List.take_of_length_le (by omega), List.drop_eq_nil_of_le (by omega), zgg, List.drop_succ_cons, List.cons_append, List.take_append_drop, putM, if_neg e]
theorem putG_split {g l : List Ent} {n k : Nat} (hn : n ≤ g.length) (hk : k ≤ l.length) : putG (putG g n (l.take k)) (n + k) (l.drop k) = putG g n l := by
 have h1 : (g.take n).length = n := by simp; omega
 show (putG g n (l.take k)).take (n + k) ++ putM ((putG g n (l.take k)).drop (n + k)) (l.drop k) = g.take n ++ putM (g.drop n) l
 rw [← zj6 (g.drop n) l k hk, List.take_add, zgf g _ hn, zf4 g _ hn, List.append_assoc, ← List.drop_drop, zf4 g _ hn]
theorem behind_put {g l : List Ent} {b : Int} {n k : Nat} (hn : n ≤ g.length) (hk : k ≤ l.length) : za1 (putG g n (l.take k)) b (n + k) = za1 (l.take k) (za1 g b n) (l.take k).length := by
 have hl : (l.take k).length = k := by simp; omega
 rw [hl]
 cases k with
 | zero =>
  rw [Nat.add_zero, zd1]
  unfold za1
  rw [zgf g _ hn]
 | succ k =>
  have h3 := (zga (g.drop n) (l.take (k + 1))).2
  have h4 : n + k < (putG g n (l.take (k + 1))).length := by
   unfold putG
   rw [List.length_append, List.length_take]; omega
  rw [show n + (k + 1) = n + k + 1 from rfl, zbh h4, zbh (by omega)]
  obtain ⟨a, h5, h6⟩ := putM_term (g.drop n) (l.take (k + 1)) k (by omega)
  rw [← h6]
  have h7 : (putG g n (l.take (k + 1)))[n + k]? = some a := by
   rw [← List.getElem?_drop, zf4 g _ hn, h5]
  rw [List.getElem?_eq_getElem h4, Option.some.injEq] at h7
  rw [h7]
theorem zko {l : List Ent} {b t : Int} (h : rowB l b t = true) (k : Nat) : rowB (l.take k) b t = true ∧ rowB (l.drop k) (za1 (l.take k) b (l.take k).length) t = true := by
 rw [← List.take_append_drop k l, zdy, Bool.and_eq_true] at h
 exact h
theorem PutOk.part {h : Hrd} {i : Int} {l : List Ent} {n k : Nat} (o : PutOk h i l n) (hk : k ≤ l.length) : PutOk h i (l.take k) n ∧ PutOk (putH h i (l.take k)) (i + k) (l.drop k) (n + k) ∧ putH (putH h i (l.take k)) (i + k) (l.drop k) = putH h i l := by
 obtain ⟨r1, r2⟩ := zko o.row k
 have o1 : PutOk h i (l.take k) n := ⟨o.hard, o.at', o.le, r1⟩
 have hr := o1.right
 have hlog := o1.log
 have ha := o.at'
 have h3 := (zga (h.log.drop n) (l.take k)).2
 have h4 : (l.take k).length = k := by simp; omega
 have h5 : n + k ≤ (putG h.log n (l.take k)).length := by
  have := o.le
  unfold putG
  rw [List.length_append, List.length_take]; omega
 have o2 : PutOk (putH h i (l.take k)) (i + k) (l.drop k) (n + k) := ⟨hr, by show i + k = h.base + ((n + k : Nat) : Int); omega, by rw [hlog]; exact h5, by
  rw [hlog]
  show rowB (l.drop k) (za1 (putG h.log n (l.take k)) h.baseTerm (n + k)) h.term = true
  rw [behind_put o.le hk]; exact r2⟩
 refine ⟨o1, o2, ?_⟩
 rw [o2.log, o.log, hlog]
 simp only [putG_split o.le hk]
def fromL (h : Hrd) (i m : Int) : List Ent := if h.base < i ∧ 1 ≤ m then (h.log.drop (i - h.base - 1).toNat).take m.toNat else []
theorem fromL_none {h : Hrd} {i m : Int} (he : entAt h i = none) : fromL h i m = [] := by
 unfold fromL
 split
 ·rename_i hc
  by_cases h2 : i - h.base ≤ h.log.length
  ·rw [zec hc.1 h2] at he; cases he
  ·rw [List.drop_eq_nil_of_le (by omega), List.take_nil]
 ·rfl
theorem fromL_few {h : Hrd} {i m : Int} (hm : m < 1) : fromL h i m = [] := by
 unfold fromL; rw [if_neg (by omega)]
theorem entAt_inH {h : Hrd} {i : Int} {x : Ent} (he : entAt h i = some x) : h.base < i ∧ i - h.base ≤ h.log.length := by
 unfold entAt at he
 split at he
 ·assumption
 ·cases he
set_option maxHeartbeats 1000000 in
theorem c_lFrom (a : Hrd) (hl : a.log.length ≤ 4294967296) (hb : isI a.base) (i : Int) (hi : isI i) (m : Int) : Ctr Tryz.prog 205 [.ag a.enc, iv i, iv m] (.ow 0 0 ((fromL a i m).map Ent.enc).length) [(16, (fromL a i m).map Ent.enc)] := by
 have c0 := c_Entry a (zam hl) hb i hi
 unfold isI at hb hi
 refine sBody Tryz.func205 ?_; conv => whnf
 ((try (refine Exists.intro none ?_; conv => whnf)); (with_reducible refine zaa (c0) ?_); conv => whnf)
 cases he : entAt a i with
 | none =>
  conv => whnf
  rw [fromL_none he]
  exact zfi 16
 | some x =>
  conv => whnf
  (refine tSp (fun h => ?_) (fun h => ?_) <;> conv => whnf)
  ·rw [fromL_few h]
   exact zfi 16
  obtain ⟨h1, h2⟩ := entAt_inH he
  obtain ⟨q, hq, hql⟩ : ∃ q : Nat, i - a.base - 1 = q ∧ q ≤ a.log.length := ⟨(i - a.base - 1).toNat, by omega, by omega⟩
  have e1 : IntKind.i64.wrap (IntKind.i64.wrap (i - a.base) - 1) = (q : Int) := by
   rw [show IntKind.i64.wrap (i - a.base) = i - a.base from zaj (by omega) (by omega), zaj (by omega) (by omega), hq]
  rw [e1]
  refine ⟨⟨by omega, by rw [List.length_map]; omega⟩, ?_⟩
  conv => whnf
  have e2 : List.drop (q : Int).toNat (List.take (((a.log.map Ent.enc).length : Nat) : Int).toNat (a.log.map Ent.enc)) = (a.log.drop q).map Ent.enc := by rw [Int.toNat_natCast, Int.toNat_natCast, List.take_length, List.map_drop]
  rw [e2]
  have e3 : fromL a i m = (a.log.drop q).take m.toNat := by
   unfold fromL; rw [if_pos ⟨h1, by omega⟩, hq, Int.toNat_natCast]
  rw [e3]
  generalize hD : a.log.drop q = D
  have hDl : D.length ≤ 4294967296 := by rw [← hD, List.length_drop]; omega
  obtain ⟨r, hr, hrt, hrl⟩ : ∃ r : Nat, (if (((D.map Ent.enc).length : Nat) : Int) < m then (((D.map Ent.enc).length : Nat) : Int) else m) = (r : Int) ∧ D.take m.toNat = D.take r ∧ r ≤ D.length := by
   rw [List.length_map]
   by_cases hc : (D.length : Int) < m
   ·refine ⟨D.length, by rw [if_pos hc], ?_, Nat.le_refl _⟩
    rw [List.take_length, List.take_of_length_le (by omega)]
   ·exact ⟨m.toNat, by rw [if_neg hc]; omega, rfl, by omega⟩
  rw [hr, hrt]
  refine ⟨⟨by omega, by omega, by rw [List.length_map]; omega⟩, ?_⟩
  conv => whnf
  refine Exists.intro none ?_
  conv => whnf
  have e4 : List.drop (Int.toNat 0) (List.take (r : Int).toNat (D.map Ent.enc)) = (D.take r).map Ent.enc := by rw [Int.toNat_natCast, List.map_take]; rfl
  rw [e4]
  have c1 := zd8 (D.take r) (by rw [List.length_take]; omega)
  ((try (refine Exists.intro none ?_; conv => whnf)); (with_reducible refine zaa (c1) ?_); conv => whnf)
  (refine Exists.intro _ (And.intro rfl (And.intro (by intro q hq; first | (cases hq; done) | (simp only [List.mem_cons, List.not_mem_nil, or_false] at hq; rcases hq with rfl | rfl <;> (simp only [List.length_cons, List.length_nil]; omega)) | (simp only [List.mem_cons, List.not_mem_nil, or_false] at hq; subst hq; simp only [List.length_cons, List.length_nil]; omega)) (And.intro (by intro i hi; simp only [List.length_cons, List.length_nil, Nat.lt_one_iff, Nat.zero_add] at hi; subst hi; rfl) ?_))); conv => whnf)
  exact zcc [(0, 576)] rfl ⟨rfl, True.intro⟩ (zbg rfl rfl rfl)
theorem c_lFromV (a : Hrd) (hl : a.log.length ≤ 4294967296) (hb : isI a.base) (i : Int) (hi : isI i) (m : Int) : Ctr Tryz.prog 205 [.ag a.enc, iv i, iv m] (.sl 16 ((fromL a i m).map Ent.enc)) [] :=
 (c_lFrom a hl hb i hi m).frz (zbq (.head _) rfl)
theorem fromL_eq {h : Hrd} {i m : Int} (hi : h.base < i) (hm : 0 ≤ m) : fromL h i m = (h.log.drop (i - h.base - 1).toNat).take m.toNat := by
 unfold fromL
 by_cases h1 : 1 ≤ m
 ·rw [if_pos ⟨hi, h1⟩]
 ·rw [if_neg (by omega), show m.toNat = 0 by omega]; rfl
end Go.Proofs
