import Derived.Test.YtbhfokahocgndaaGreatC47
/- Plain law: what becomes of a log by a message. -/
set_option linter.unusedSimpArgs false
set_option linter.unusedVariables false
namespace Go.Proofs
open Go.Pv
set_option maxRecDepth 100000

abbrev emax (a b : Int) : Int := if b > a then b else a
abbrev emin (a b : Int) : Int := if b < a then b else a
theorem emax_eq (a b : Int) : emax a b = max a b := by unfold emax; split <;> omega
theorem emin_eq (a b : Int) : emin a b = min a b := by unfold emin; split <;> omega

def gRight (h : Hrd) (c : Int) (m : Mg) : Prop := (h.base ≤ c ∧ c ≤ lastI h) ∧ (0 ≤ m.index ∧ m.index ≤ 1099511627776) ∧ 0 ≤ m.logTerm ∧ 0 ≤ m.commit ∧ (m.entries.length : Int) ≤ 8
instance (h : Hrd) (c : Int) (m : Mg) : Decidable (gRight h c m) := by unfold gRight; infer_instance
def gP (h : Hrd) (m : Mg) : Int := if m.index < h.base then h.base else m.index
def gT (h : Hrd) (m : Mg) : Int := if m.index < h.base then h.baseTerm else m.logTerm
def gL (h : Hrd) (m : Mg) : List Ent := m.entries.drop (h.base - m.index).toNat
def gBrk (h : Hrd) (c p : Int) (l : List Ent) : Bool := (List.range l.length).any fun k => decide (p + 1 + k ≤ c) && (termAt h (p + 1 + k) != (l.getD k ez).term)
theorem gBrk_t {h : Hrd} {c p : Int} {l : List Ent} {k : Nat} (hk : k < l.length) (h1 : p + 1 + k ≤ c) (h2 : termAt h (p + 1 + k) ≠ (l[k]'hk).term) : gBrk h c p l = true := by
  unfold gBrk
  rw [List.any_eq_true]
  refine ⟨k, List.mem_range.2 hk, ?_⟩
  have e : l.getD k ez = l[k]'hk := by rw [List.getD_eq_getElem?_getD, List.getElem?_eq_getElem hk]; rfl
  rw [e]
  simp only [Bool.and_eq_true, decide_eq_true_eq, bne_iff_ne, ne_eq]
  exact ⟨h1, h2⟩
theorem gBrk_off {h : Hrd} {c p : Int} {l : List Ent} (hb : gBrk h c p l = false) : ∀ k (hk : k < l.length), p + 1 + k ≤ c → termAt h (p + 1 + k) = (l[k]'hk).term := by
  intro k hk h1
  apply Classical.byContradiction
  intro hn
  rw [gBrk_t hk h1 hn] at hb
  cases hb
theorem gBrk_f {h : Hrd} {c p : Int} {l : List Ent} (hh : ∀ k (hk : k < l.length), p + 1 + k ≤ c → termAt h (p + 1 + k) = (l[k]'hk).term) : gBrk h c p l = false := by
  cases hb : gBrk h c p l with
  | false => rfl
  | true =>
    unfold gBrk at hb
    rw [List.any_eq_true] at hb
    obtain ⟨k, hk, hx⟩ := hb
    have hk := List.mem_range.1 hk
    have e : l.getD k ez = l[k]'hk := by rw [List.getD_eq_getElem?_getD, List.getElem?_eq_getElem hk]; rfl
    rw [e] at hx
    simp only [Bool.and_eq_true, decide_eq_true_eq, bne_iff_ne, ne_eq] at hx
    exact absurd (hh k hk hx.1) hx.2

noncomputable def growE (h : Hrd) (c : Int) (m : Mg) : Int := if hardB h = true then (if gRight h c m then (if fits h (gP h m) (gT h m) = true then (if gBrk h c (gP h m) (gL h m) = true then 13 else putHE h (gP h m) (gL h m)) else 0) else 1) else 6
structure GOut where
  h : Hrd
  c : Int
  yes : Bool
  i : Int
def growO (h : Hrd) (c : Int) (m : Mg) : GOut := if fits h (gP h m) (gT h m) = true then ⟨putH h (gP h m) (gL h m), emax c (emin m.commit (gP h m + (gL h m).length)), true, gP h m + (gL h m).length⟩ else ⟨h, c, false, emax (emin (lastI h) (gP h m - 1)) h.base⟩
theorem growE_hard {h : Hrd} {c : Int} {m : Mg} (e : growE h c m = 0) : hardB h = true ∧ gRight h c m := by
  unfold growE at e
  by_cases h1 : hardB h = true
  · rw [if_pos h1] at e
    by_cases h2 : gRight h c m
    · exact ⟨h1, h2⟩
    · rw [if_neg h2] at e; omega
  · rw [if_neg h1] at e; omega
theorem growE_no {h : Hrd} {c : Int} {m : Mg} (h1 : hardB h = true) (h2 : gRight h c m) (hf : fits h (gP h m) (gT h m) = false) : growE h c m = 0 ∧ growO h c m = ⟨h, c, false, emax (emin (lastI h) (gP h m - 1)) h.base⟩ := by
  unfold growE growO
  rw [if_pos h1, if_pos h2, hf, if_neg (by decide), if_neg (by decide)]
  exact ⟨rfl, rfl⟩
theorem growE_brk {h : Hrd} {c : Int} {m : Mg} (h1 : hardB h = true) (h2 : gRight h c m) (hf : fits h (gP h m) (gT h m) = true) (hb : gBrk h c (gP h m) (gL h m) = true) : growE h c m = 13 := by
  unfold growE
  rw [if_pos h1, if_pos h2, if_pos hf, if_pos hb]
theorem growE_put {h : Hrd} {c : Int} {m : Mg} (h1 : hardB h = true) (h2 : gRight h c m) (hf : fits h (gP h m) (gT h m) = true) (hb : gBrk h c (gP h m) (gL h m) = false) : growE h c m = putHE h (gP h m) (gL h m) ∧ growO h c m = ⟨putH h (gP h m) (gL h m), emax c (emin m.commit (gP h m + (gL h m).length)), true, gP h m + (gL h m).length⟩ := by
  unfold growE growO
  rw [if_pos h1, if_pos h2, if_pos hf, if_pos hf, hb, if_neg (by decide)]
  exact ⟨rfl, rfl⟩
theorem gL_len (h : Hrd) (m : Mg) : (gL h m).length ≤ m.entries.length := by unfold gL; rw [List.length_drop]; omega
/-- What was put, when a message fits. -/
theorem growOk {h : Hrd} {c : Int} {m : Mg} (hl : h.log.length ≤ 4294967) (e : growE h c m = 0) (hf : fits h (gP h m) (gT h m) = true) : ∃ n, PutOk h (gP h m) (gL h m) n ∧ gRight h c m ∧ gBrk h c (gP h m) (gL h m) = false := by
  obtain ⟨h1, h2⟩ := growE_hard e
  cases hb : gBrk h c (gP h m) (gL h m) with
  | true => rw [growE_brk h1 h2 hf hb] at e; omega
  | false =>
    rw [(growE_put h1 h2 hf hb).1] at e
    obtain ⟨n, ko⟩ := putOk e hl
    exact ⟨n, ko, h2, rfl⟩

theorem putM_keep : ∀ (g l : List Ent) (d : Nat), d ≤ g.length → (∀ k (_ : k < d) (h2 : k < l.length) (h3 : k < g.length), (g[k]'h3).term = (l[k]'h2).term) → (putM g l).take d = g.take d
  | g, [], d, _, _ => by cases g <;> rfl
  | [], x :: l, d, hd, _ => by
    have e : d = 0 := by simpa using hd
    subst e; rfl
  | y :: g, x :: l, 0, _, _ => by simp
  | y :: g, x :: l, d + 1, hd, h => by
    have h0 := h 0 (by omega) (by simp) (by simp)
    simp only [List.getElem_cons_zero] at h0
    rw [putM, if_pos h0, List.take_succ_cons, List.take_succ_cons, putM_keep g l d (by simpa using hd) ?_]
    intro k h1 h2 h3
    have := h (k + 1) (by omega) (by simpa using h2) (by simpa using h3)
    simpa using this
theorem putG_keep {g l : List Ent} {n d : Nat} (hn : n ≤ g.length) (hd : d ≤ g.length) (h : ∀ k (h2 : k < l.length) (h3 : n + k < g.length), n + k < d → (g[n + k]'h3).term = (l[k]'h2).term) : (putG g n l).take d = g.take d := by
  by_cases hdn : d ≤ n
  · have e := congrArg (List.take d) (putG_take g l hn)
    rw [List.take_take, List.take_take, Nat.min_eq_left hdn] at e
    exact e
  · obtain ⟨q, rfl⟩ : ∃ q, d = n + q := ⟨d - n, by omega⟩
    rw [List.take_add, putG_take g l hn, putG_drop g l hn, putM_keep (g.drop n) l q (by rw [List.length_drop]; omega) ?_, ← List.take_add]
    intro k h1 h2 h3
    rw [List.getElem_drop]
    exact h k h2 (by rw [List.length_drop] at h3; omega) (by omega)
theorem putG_more (g l : List Ent) {n : Nat} (hn : n ≤ g.length) : n + l.length ≤ (putG g n l).length := by
  have := (putM_len (g.drop n) l).2
  unfold putG
  rw [List.length_append, List.length_take]
  omega
theorem termAt_some {h : Hrd} {k : Nat} (hk : k < h.log.length) : termAt h (h.base + 1 + k) = (h.log[k]'hk).term := by
  rw [termAt_nat (n := k + 1) (by omega) (by omega), behind_succ hk]
/-- What is committed stays. -/
theorem grow_keep {h : Hrd} {c : Int} {p : Int} {l : List Ent} {n : Nat} (ko : PutOk h p l n) (hb : gBrk h c p l = false) (hc : c ≤ h.base + h.log.length) : (putG h.log n l).take (c - h.base).toNat = h.log.take (c - h.base).toNat := by
  refine putG_keep ko.le (by omega) ?_
  intro k h2 h3 hlt
  have hat := ko.at'
  have := gBrk_off hb k h2 (by omega)
  rw [show p + 1 + (k : Int) = h.base + 1 + ((n + k : Nat) : Int) by omega, termAt_some h3] at this
  exact this
theorem grow_last {h : Hrd} {c : Int} {p : Int} {l : List Ent} {n : Nat} (ko : PutOk h p l n) (hb : gBrk h c p l = false) (hc : c ≤ h.base + h.log.length) : c ≤ h.base + (putG h.log n l).length := by
  have e := congrArg List.length (grow_keep ko hb hc)
  rw [List.length_take, List.length_take] at e
  omega

theorem hard_last {h : Hrd} (hh : hardB h = true) (hl : h.log.length ≤ 4294967) : lastI h = h.base + h.log.length := by
  have := (hardB_A hh).1.b
  exact lastI_sum this.1 (by omega)

structure GrowFit (h : Hrd) (c : Int) (m : Mg) (n : Nat) : Prop where
  ko : PutOk h (gP h m) (gL h m) n
  right : gRight h c m
  brk : gBrk h c (gP h m) (gL h m) = false
  out : growO h c m = ⟨{ h with log := putG h.log n (gL h m) }, emax c (emin m.commit (gP h m + (gL h m).length)), true, gP h m + (gL h m).length⟩
theorem growFit {h : Hrd} {c : Int} {m : Mg} (hl : h.log.length ≤ 4294967) (e : growE h c m = 0) (hf : fits h (gP h m) (gT h m) = true) : ∃ n, GrowFit h c m n := by
  obtain ⟨n, ko, hr, hb⟩ := growOk hl e hf
  refine ⟨n, ko, hr, hb, ?_⟩
  rw [(growE_put ko.hard hr hf hb).2, ko.log]
theorem GrowFit.last {h : Hrd} {c : Int} {m : Mg} {n : Nat} (k : GrowFit h c m n) (hl : h.log.length ≤ 4294000) : lastI (growO h c m).h = h.base + (putG h.log n (gL h m)).length ∧ (growO h c m).h.log.length ≤ 4294967 := by
  have hb := (hardB_A k.ko.hard).1.b
  have h8 := k.right.2.2.2.2
  have h1 := gL_len h m
  have h2 := putG_le h.log (gL h m) k.ko.le
  rw [k.out]
  refine ⟨?_, ?_⟩
  · refine lastI_sum hb.1 ?_
    show h.base + ((putG h.log n (gL h m)).length : Int) < _
    omega
  · show (putG h.log n (gL h m)).length ≤ _
    omega
theorem GrowFit.le {h : Hrd} {c : Int} {m : Mg} {n : Nat} (k : GrowFit h c m n) (hl : h.log.length ≤ 4294000) : c ≤ h.base + (putG h.log n (gL h m)).length ∧ gP h m + (gL h m).length ≤ h.base + (putG h.log n (gL h m)).length := by
  have hc := k.right.1.2
  rw [hard_last k.ko.hard (by omega)] at hc
  have h1 := grow_last k.ko k.brk hc
  have h2 := putG_more h.log (gL h m) k.ko.le
  have h3 := k.ko.at'
  exact ⟨h1, by omega⟩

theorem grow_base {h : Hrd} {c : Int} {m : Mg} (e : growE h c m = 0) : (growO h c m).h.base = h.base := by
  unfold growO; split <;> rfl
theorem grow_len {h : Hrd} {c : Int} {m : Mg} (hl : h.log.length ≤ 4294000) (e : growE h c m = 0) : (growO h c m).h.log.length ≤ h.log.length + 8 := by
  obtain ⟨h1, h2⟩ := growE_hard e
  cases hf : fits h (gP h m) (gT h m) with
  | false => rw [(growE_no h1 h2 hf).2]; show h.log.length ≤ _; omega
  | true =>
    obtain ⟨n, k⟩ := growFit (by omega) e hf
    have h8 := k.right.2.2.2.2
    have h3 := gL_len h m
    have h4 := putG_le h.log (gL h m) k.ko.le
    rw [k.out]
    show (putG h.log n (gL h m)).length ≤ _
    omega

end Go.Proofs

/- Plain law: a leader that feeds comes down to where the logs fit. -/
namespace Go.Proofs
open Go.Pv
set_option maxRecDepth 100000

def feedP (g : Hrd) (next : Int) : Int := emin (next - 1) (lastI g)
def feedL (g : Hrd) (next : Int) : List Ent := fromL g (feedP g next + 1) 8
def feedM (g : Hrd) (next : Int) : Mg := ⟨5, 0, 0, 0, feedP g next, termAt g (feedP g next), 0, 0, false, feedL g next, ⟨0, 0, 0, 0⟩, [], []⟩
def agr (g h : Hrd) (n : Nat) : Prop := ∀ k, k < n → ∃ a b, g.log[k]? = some a ∧ h.log[k]? = some b ∧ a.term = b.term
def nxN (next mt : Int) (yes : Bool) (i : Int) : Int := if yes = true then max next (max mt i + 1) else max (min (next - 1) (i + 1)) (mt + 1)
def nxM (mt : Int) (yes : Bool) (i : Int) : Int := if yes = true then max mt i else mt

structure Fs where
  h : Hrd
  next : Int
  mt : Int
  i : Nat
structure FInv (g h0 : Hrd) (s : Fs) : Prop where
  hard : hardB s.h = true
  base : s.h.base = 0
  term : g.term ≤ s.h.term
  len : s.h.log.length ≤ 40
  ph : (s.h = h0 ∧ s.mt = 0 ∧ 1 ≤ s.next ∧ (s.i : Int) + s.next ≤ g.log.length + 1) ∨ (0 ≤ s.mt ∧ s.mt ≤ g.log.length ∧ s.next = s.mt + 1 ∧ (s.i : Int) ≤ g.log.length + 1 + s.mt ∧ agr g s.h s.mt.toNat)

end Go.Proofs
