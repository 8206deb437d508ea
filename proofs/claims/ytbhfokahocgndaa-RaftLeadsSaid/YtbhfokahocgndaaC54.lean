import Derived.Test.YtbhfokahocgndaaC47
/- Plain law: what becomes of a log by a message. -/
set_option linter.unusedSimpArgs false
set_option linter.unusedVariables false
namespace Go.Proofs
open Go.Pv
set_option maxRecDepth 100000

abbrev emax (a b : Int) : Int := if b > a then b else a
abbrev emin (a b : Int) : Int := if b < a then b else a
theorem emax_eq (a b : Int) : emax a b = max a b := by unfold emax; split <;> omega
theorem emin_eq (a b : Int) : emin a b = min a b := by unfold emin; split <;> omega

def gRight (h : Hrd) (c : Int) (m : Mg) : Prop := (h.base ≤ c ∧ c ≤ lastI h) ∧ (0 ≤ m.index ∧ m.index ≤ 1099511627776) ∧ 0 ≤ m.logTerm ∧ 0 ≤ m.commit ∧ (m.entries.length : Int) ≤ 8
instance (h : Hrd) (c : Int) (m : Mg) : Decidable (gRight h c m) := by unfold gRight; infer_instance
def gP (h : Hrd) (m : Mg) : Int := if m.index < h.base then h.base else m.index
def gT (h : Hrd) (m : Mg) : Int := if m.index < h.base then h.baseTerm else m.logTerm
def gL (h : Hrd) (m : Mg) : List Ent := m.entries.drop (h.base - m.index).toNat
def gBrk (h : Hrd) (c p : Int) (l : List Ent) : Bool := (List.range l.length).any fun k => decide (p + 1 + k ≤ c) && (termAt h (p + 1 + k) != (l.getD k ez).term)
theorem gBrk_t {h : Hrd} {c p : Int} {l : List Ent} {k : Nat} (hk : k < l.length) (h1 : p + 1 + k ≤ c) (h2 : termAt h (p + 1 + k) ≠ (l[k]'hk).term) : gBrk h c p l = true := by
  unfold gBrk
  rw [List.any_eq_true]
  refine ⟨k, List.mem_range.2 hk, ?_⟩
  have e : l.getD k ez = l[k]'hk := by rw [List.getD_eq_getElem?_getD, List.getElem?_eq_getElem hk]; rfl
  rw [e]
  simp only [Bool.and_eq_true, decide_eq_true_eq, bne_iff_ne, ne_eq]
  exact ⟨h1, h2⟩
theorem gBrk_off {h : Hrd} {c p : Int} {l : List Ent} (hb : gBrk h c p l = false) : ∀ k (hk : k < l.length), p + 1 + k ≤ c → termAt h (p + 1 + k) = (l[k]'hk).term := by
  intro k hk h1
  apply Classical.byContradiction
  intro hn
  rw [gBrk_t hk h1 hn] at hb
  cases hb
theorem gBrk_f {h : Hrd} {c p : Int} {l : List Ent} (hh : ∀ k (hk : k < l.length), p + 1 + k ≤ c → termAt h (p + 1 + k) = (l[k]'hk).term) : gBrk h c p l = false := by
  cases hb : gBrk h c p l with
  | false => rfl
  | true =>
    unfold gBrk at hb
    rw [List.any_eq_true] at hb
    obtain ⟨k, hk, hx⟩ := hb
    have hk := List.mem_range.1 hk
    have e : l.getD k ez = l[k]'hk := by rw [List.getD_eq_getElem?_getD, List.getElem?_eq_getElem hk]; rfl
    rw [e] at hx
    simp only [Bool.and_eq_true, decide_eq_true_eq, bne_iff_ne, ne_eq] at hx
    exact absurd (hh k hk hx.1) hx.2

noncomputable def growE (h : Hrd) (c : Int) (m : Mg) : Int := if hardB h = true then (if gRight h c m then (if fits h (gP h m) (gT h m) = true then (if gBrk h c (gP h m) (gL h m) = true then 13 else putHE h (gP h m) (gL h m)) else 0) else 1) else 6
structure GOut where
  h : Hrd
  c : Int
  yes : Bool
  i : Int
def growO (h : Hrd) (c : Int) (m : Mg) : GOut := if fits h (gP h m) (gT h m) = true then ⟨putH h (gP h m) (gL h m), emax c (emin m.commit (gP h m + (gL h m).length)), true, gP h m + (gL h m).length⟩ else ⟨h, c, false, emax (emin (lastI h) (gP h m - 1)) h.base⟩
theorem growE_hard {h : Hrd} {c : Int} {m : Mg} (e : growE h c m = 0) : hardB h = true ∧ gRight h c m := by
  unfold growE at e
  by_cases h1 : hardB h = true
  · rw [if_pos h1] at e
    by_cases h2 : gRight h c m
    · exact ⟨h1, h2⟩
    · rw [if_neg h2] at e; omega
  · rw [if_neg h1] at e; omega
theorem growE_no {h : Hrd} {c : Int} {m : Mg} (h1 : hardB h = true) (h2 : gRight h c m) (hf : fits h (gP h m) (gT h m) = false) : growE h c m = 0 ∧ growO h c m = ⟨h, c, false, emax (emin (lastI h) (gP h m - 1)) h.base⟩ := by
  unfold growE growO
  rw [if_pos h1, if_pos h2, hf, if_neg (by decide), if_neg (by decide)]
  exact ⟨rfl, rfl⟩
theorem growE_brk {h : Hrd} {c : Int} {m : Mg} (h1 : hardB h = true) (h2 : gRight h c m) (hf : fits h (gP h m) (gT h m) = true) (hb : gBrk h c (gP h m) (gL h m) = true) : growE h c m = 13 := by
  unfold growE
  rw [if_pos h1, if_pos h2, if_pos hf, if_pos hb]
theorem growE_put {h : Hrd} {c : Int} {m : Mg} (h1 : hardB h = true) (h2 : gRight h c m) (hf : fits h (gP h m) (gT h m) = true) (hb : gBrk h c (gP h m) (gL h m) = false) : growE h c m = putHE h (gP h m) (gL h m) ∧ growO h c m = ⟨putH h (gP h m) (gL h m), emax c (emin m.commit (gP h m + (gL h m).length)), true, gP h m + (gL h m).length⟩ := by
  unfold growE growO
  rw [if_pos h1, if_pos h2, if_pos hf, if_pos hf, hb, if_neg (by decide)]
  exact ⟨rfl, rfl⟩
theorem gP_ge (h : Hrd) (m : Mg) : h.base ≤ gP h m := by unfold gP; split <;> omega
theorem gL_len (h : Hrd) (m : Mg) : (gL h m).length ≤ m.entries.length := by unfold gL; rw [List.length_drop]; omega
/-- What was put, when a message fits. -/
theorem growOk {h : Hrd} {c : Int} {m : Mg} (hl : h.log.length ≤ 4294967) (e : growE h c m = 0) (hf : fits h (gP h m) (gT h m) = true) : ∃ n, PutOk h (gP h m) (gL h m) n ∧ gRight h c m ∧ gBrk h c (gP h m) (gL h m) = false := by
  obtain ⟨h1, h2⟩ := growE_hard e
  cases hb : gBrk h c (gP h m) (gL h m) with
  | true => rw [growE_brk h1 h2 hf hb] at e; omega
  | false =>
    rw [(growE_put h1 h2 hf hb).1] at e
    obtain ⟨n, ko⟩ := putOk e hl
    exact ⟨n, ko, h2, rfl⟩

theorem putM_keep : ∀ (g l : List Ent) (d : Nat), d ≤ g.length → (∀ k (_ : k < d) (h2 : k < l.length) (h3 : k < g.length), (g[k]'h3).term = (l[k]'h2).term) → (putM g l).take d = g.take d
  | g, [], d, _, _ => by cases g <;> rfl
  | [], x :: l, d, hd, _ => by
    have e : d = 0 := by simpa using hd
    subst e; rfl
  | y :: g, x :: l, 0, _, _ => by simp
  | y :: g, x :: l, d + 1, hd, h => by
    have h0 := h 0 (by omega) (by simp) (by simp)
    simp only [List.getElem_cons_zero] at h0
    rw [putM, if_pos h0, List.take_succ_cons, List.take_succ_cons, putM_keep g l d (by simpa using hd) ?_]
    intro k h1 h2 h3
    have := h (k + 1) (by omega) (by simpa using h2) (by simpa using h3)
    simpa using this
theorem putG_keep {g l : List Ent} {n d : Nat} (hn : n ≤ g.length) (hd : d ≤ g.length) (h : ∀ k (h2 : k < l.length) (h3 : n + k < g.length), n + k < d → (g[n + k]'h3).term = (l[k]'h2).term) : (putG g n l).take d = g.take d := by
  by_cases hdn : d ≤ n
  · have e := congrArg (List.take d) (putG_take g l hn)
    rw [List.take_take, List.take_take, Nat.min_eq_left hdn] at e
    exact e
  · obtain ⟨q, rfl⟩ : ∃ q, d = n + q := ⟨d - n, by omega⟩
    rw [List.take_add, putG_take g l hn, putG_drop g l hn, putM_keep (g.drop n) l q (by rw [List.length_drop]; omega) ?_, ← List.take_add]
    intro k h1 h2 h3
    rw [List.getElem_drop]
    exact h k h2 (by rw [List.length_drop] at h3; omega) (by omega)
theorem putG_more (g l : List Ent) {n : Nat} (hn : n ≤ g.length) : n + l.length ≤ (putG g n l).length := by
  have := (putM_len (g.drop n) l).2
  unfold putG
  rw [List.length_append, List.length_take]
  omega
theorem termAt_some {h : Hrd} {k : Nat} (hk : k < h.log.length) : termAt h (h.base + 1 + k) = (h.log[k]'hk).term := by
  rw [termAt_nat (n := k + 1) (by omega) (by omega), behind_succ hk]
/-- What is committed stays. -/
theorem grow_keep {h : Hrd} {c : Int} {p : Int} {l : List Ent} {n : Nat} (ko : PutOk h p l n) (hb : gBrk h c p l = false) (hc : c ≤ h.base + h.log.length) : (putG h.log n l).take (c - h.base).toNat = h.log.take (c - h.base).toNat := by
  refine putG_keep ko.le (by omega) ?_
  intro k h2 h3 hlt
  have hat := ko.at'
  have := gBrk_off hb k h2 (by omega)
  rw [show p + 1 + (k : Int) = h.base + 1 + ((n + k : Nat) : Int) by omega, termAt_some h3] at this
  exact this
theorem grow_last {h : Hrd} {c : Int} {p : Int} {l : List Ent} {n : Nat} (ko : PutOk h p l n) (hb : gBrk h c p l = false) (hc : c ≤ h.base + h.log.length) : c ≤ h.base + (putG h.log n l).length := by
  have e := congrArg List.length (grow_keep ko hb hc)
  rw [List.length_take, List.length_take] at e
  omega

theorem hard_last {h : Hrd} (hh : hardB h = true) (hl : h.log.length ≤ 4294967) : lastI h = h.base + h.log.length := by
  have := (hardB_A hh).1.b
  exact lastI_sum this.1 (by omega)

structure GrowFit (h : Hrd) (c : Int) (m : Mg) (n : Nat) : Prop where
  ko : PutOk h (gP h m) (gL h m) n
  right : gRight h c m
  brk : gBrk h c (gP h m) (gL h m) = false
  out : growO h c m = ⟨{ h with log := putG h.log n (gL h m) }, emax c (emin m.commit (gP h m + (gL h m).length)), true, gP h m + (gL h m).length⟩
theorem growFit {h : Hrd} {c : Int} {m : Mg} (hl : h.log.length ≤ 4294967) (e : growE h c m = 0) (hf : fits h (gP h m) (gT h m) = true) : ∃ n, GrowFit h c m n := by
  obtain ⟨n, ko, hr, hb⟩ := growOk hl e hf
  refine ⟨n, ko, hr, hb, ?_⟩
  rw [(growE_put ko.hard hr hf hb).2, ko.log]
theorem GrowFit.last {h : Hrd} {c : Int} {m : Mg} {n : Nat} (k : GrowFit h c m n) (hl : h.log.length ≤ 4294000) : lastI (growO h c m).h = h.base + (putG h.log n (gL h m)).length ∧ (growO h c m).h.log.length ≤ 4294967 := by
  have hb := (hardB_A k.ko.hard).1.b
  have h8 := k.right.2.2.2.2
  have h1 := gL_len h m
  have h2 := putG_le h.log (gL h m) k.ko.le
  rw [k.out]
  refine ⟨?_, ?_⟩
  · refine lastI_sum hb.1 ?_
    show h.base + ((putG h.log n (gL h m)).length : Int) < _
    omega
  · show (putG h.log n (gL h m)).length ≤ _
    omega
theorem GrowFit.le {h : Hrd} {c : Int} {m : Mg} {n : Nat} (k : GrowFit h c m n) (hl : h.log.length ≤ 4294000) : c ≤ h.base + (putG h.log n (gL h m)).length ∧ gP h m + (gL h m).length ≤ h.base + (putG h.log n (gL h m)).length := by
  have hc := k.right.1.2
  rw [hard_last k.ko.hard (by omega)] at hc
  have h1 := grow_last k.ko k.brk hc
  have h2 := putG_more h.log (gL h m) k.ko.le
  have h3 := k.ko.at'
  exact ⟨h1, by omega⟩

/-- A follower knows no more to be committed than it may. -/
theorem grow_commits {h : Hrd} {c : Int} {m : Mg} (hl : h.log.length ≤ 4294000) (e : growE h c m = 0) : c ≤ (growO h c m).c ∧ (growO h c m).c ≤ lastI (growO h c m).h ∧ ((growO h c m).yes = false → (growO h c m).c = c) ∧ ((growO h c m).c = c ∨ ((growO h c m).c ≤ m.commit ∧ (growO h c m).c ≤ (growO h c m).i)) := by
  obtain ⟨h1, h2⟩ := growE_hard e
  cases hf : fits h (gP h m) (gT h m) with
  | false =>
    rw [(growE_no h1 h2 hf).2]
    exact ⟨Int.le_refl _, h2.1.2, fun _ => rfl, .inl rfl⟩
  | true =>
    obtain ⟨n, k⟩ := growFit (by omega) e hf
    obtain ⟨k1, k2⟩ := k.le hl
    rw [(k.last hl).1, k.out]
    simp only [emax_eq, emin_eq]
    refine ⟨by omega, by omega, (fun x => by cases x), by omega⟩

theorem grow_again {h : Hrd} {c : Int} {m : Mg} (hl : h.log.length ≤ 4294000) (e : growE h c m = 0) : growE (growO h c m).h (growO h c m).c m = 0 ∧ growO (growO h c m).h (growO h c m).c m = growO h c m := by
  obtain ⟨h1, h2⟩ := growE_hard e
  cases hf : fits h (gP h m) (gT h m) with
  | false =>
    have e2 := (growE_no h1 h2 hf).2
    rw [show (growO h c m).h = h by rw [e2], show (growO h c m).c = c by rw [e2]]
    exact ⟨e, rfl⟩
  | true =>
    obtain ⟨n, k⟩ := growFit (by omega) e hf
    obtain ⟨k1, k2⟩ := k.le hl
    obtain ⟨k3, k4⟩ := k.last hl
    obtain ⟨ko2, hxx⟩ := k.ko.again
    have hr := k.ko.right
    rw [k.ko.log] at ko2 hxx hr
    rw [k.out] at k3 k4
    have hO := k.out
    have ht : fits h (gP h m) (gT h m) = fits { h with log := putG h.log n (gL h m) } (gP h m) (gT h m) := by
      unfold fits
      rw [termAt_nat k.ko.at' k.ko.le, termAt_nat (h := { h with log := putG h.log n (gL h m) }) ko2.at' ko2.le]
      show _ = (gT h m != -1 && behind (putG h.log n (gL h m)) h.baseTerm n == gT h m)
      rw [show behind (putG h.log n (gL h m)) h.baseTerm n = behind h.log h.baseTerm n from by unfold behind; rw [putG_take _ _ k.ko.le]]
    rw [hf] at ht
    rw [hO]
    simp only
    have hr2 : gRight { h with log := putG h.log n (gL h m) } (emax c (emin m.commit (gP h m + (gL h m).length))) m := by
      refine ⟨?_, k.right.2⟩
      rw [k3]
      have := k.right.1.1
      simp only [emax_eq, emin_eq]
      show h.base ≤ _ ∧ _
      omega
    have hb2 : gBrk { h with log := putG h.log n (gL h m) } (emax c (emin m.commit (gP h m + (gL h m).length))) (gP h m) (gL h m) = false := by
      refine gBrk_f ?_
      intro j hj _
      obtain ⟨a, ha1, ha2⟩ := putM_term (h.log.drop n) (gL h m) j hj
      rw [← putG_drop h.log (gL h m) k.ko.le, List.getElem?_drop] at ha1
      obtain ⟨hlt, hval⟩ := List.getElem?_eq_some_iff.1 ha1
      have := k.ko.at'
      rw [show gP h m + 1 + (j : Int) = ({ h with log := putG h.log n (gL h m) } : Hrd).base + 1 + ((n + j : Nat) : Int) by
        show _ = h.base + 1 + _
        omega, termAt_some (h := { h with log := putG h.log n (gL h m) }) hlt]
      rw [← ha2, ← hval]
    have hp := growE_put (h := { h with log := putG h.log n (gL h m) }) (m := m) hr hr2 ht.symm hb2
    rw [hp.1, hp.2]
    refine ⟨ko2.e k4, ?_⟩
    show GOut.mk (putH { h with log := putG h.log n (gL h m) } (gP h m) (gL h m)) _ _ _ = _
    rw [hxx]
    have em : emax (emax c (emin m.commit (gP h m + (gL h m).length))) (emin m.commit (gP h m + (gL h m).length)) = emax c (emin m.commit (gP h m + (gL h m).length)) := by
      simp only [emax_eq, emin_eq]; omega
    exact congrArg (fun z => GOut.mk { h with log := putG h.log n (gL h m) } z true (gP h m + (gL h m).length)) em

theorem grow_base {h : Hrd} {c : Int} {m : Mg} (e : growE h c m = 0) : (growO h c m).h.base = h.base := by
  unfold growO; split <;> rfl
theorem grow_snap {h : Hrd} {c : Int} {m : Mg} (e : growE h c m = 0) : (growO h c m).h.snap = h.snap := by
  unfold growO; split <;> rfl
theorem grow_len {h : Hrd} {c : Int} {m : Mg} (hl : h.log.length ≤ 4294000) (e : growE h c m = 0) : (growO h c m).h.log.length ≤ h.log.length + 8 := by
  obtain ⟨h1, h2⟩ := growE_hard e
  cases hf : fits h (gP h m) (gT h m) with
  | false => rw [(growE_no h1 h2 hf).2]; show h.log.length ≤ _; omega
  | true =>
    obtain ⟨n, k⟩ := growFit (by omega) e hf
    have h8 := k.right.2.2.2.2
    have h3 := gL_len h m
    have h4 := putG_le h.log (gL h m) k.ko.le
    rw [k.out]
    show (putG h.log n (gL h m)).length ≤ _
    omega

theorem grow_i {h : Hrd} {c : Int} {m : Mg} (hl : h.log.length ≤ 4294000) (e : growE h c m = 0) : -1 ≤ (growO h c m).i ∧ (growO h c m).i ≤ 2199023255552 := by
  obtain ⟨h1, h2⟩ := growE_hard e
  have hb := (hardB_A h1).1.b
  have hla := hard_last h1 (by omega)
  obtain ⟨_, ⟨g1, g2⟩, _, _, g8⟩ := h2
  have hL := gL_len h m
  have hP : h.base ≤ gP h m ∧ gP h m ≤ 1099511627776 := by unfold gP; split <;> omega
  unfold growO
  split
  · show -1 ≤ gP h m + ((gL h m).length : Int) ∧ gP h m + ((gL h m).length : Int) ≤ _
    omega
  · show -1 ≤ emax (emin (lastI h) (gP h m - 1)) h.base ∧ emax (emin (lastI h) (gP h m - 1)) h.base ≤ _
    rw [emax_eq, emin_eq]
    omega

/-- What was committed is there as it was. -/
theorem grow_stays {h : Hrd} {c : Int} {m : Mg} (hl : h.log.length ≤ 4294000) (e : growE h c m = 0) {j : Nat} (hj : h.base + 1 + j ≤ c) : (growO h c m).h.base = h.base ∧ ∃ x, h.log[j]? = some x ∧ (growO h c m).h.log[j]? = some x := by
  obtain ⟨h1, h2⟩ := growE_hard e
  have hc := h2.1.2
  rw [hard_last h1 (by omega)] at hc
  have hlt : j < h.log.length := by omega
  cases hf : fits h (gP h m) (gT h m) with
  | false =>
    rw [(growE_no h1 h2 hf).2]
    exact ⟨rfl, _, List.getElem?_eq_getElem hlt, List.getElem?_eq_getElem hlt⟩
  | true =>
    obtain ⟨n, k⟩ := growFit (by omega) e hf
    rw [k.out]
    refine ⟨rfl, _, List.getElem?_eq_getElem hlt, ?_⟩
    have e1 := congrArg (fun z => z[j]?) (grow_keep k.ko k.brk hc)
    try simp only at e1
    rw [List.getElem?_take_of_lt (by omega), List.getElem?_take_of_lt (by omega), List.getElem?_eq_getElem hlt] at e1
    exact e1
end Go.Proofs

/- Plain law: a leader that feeds comes down to where the logs fit. -/
namespace Go.Proofs
open Go.Pv
set_option maxRecDepth 100000

def feedP (g : Hrd) (next : Int) : Int := emin (next - 1) (lastI g)
def feedL (g : Hrd) (next : Int) : List Ent := fromL g (feedP g next + 1) 8
def feedM (g : Hrd) (next : Int) : Mg := ⟨5, 0, 0, 0, feedP g next, termAt g (feedP g next), 0, 0, false, feedL g next, ⟨0, 0, 0, 0⟩, [], []⟩
theorem feed_at {g : Hrd} {next : Int} (hg : hardB g = true) (hl : g.log.length ≤ 4294967) (hn : g.base < next) : ∃ n : Nat, feedP g next = g.base + n ∧ n ≤ g.log.length ∧ feedL g next = (g.log.drop n).take 8 ∧ termAt g (feedP g next) = behind g.log g.baseTerm n := by
  have hla := hard_last hg hl
  have hp : feedP g next = min (next - 1) (lastI g) := emin_eq _ _
  obtain ⟨n, e, hle⟩ : ∃ n : Nat, feedP g next = g.base + n ∧ n ≤ g.log.length := ⟨(feedP g next - g.base).toNat, by omega, by omega⟩
  refine ⟨n, e, hle, ?_, termAt_nat e hle⟩
  unfold feedL
  rw [e, fromL_eq (by omega) (by omega), show (g.base + (n : Int) + 1 - g.base - 1).toNat = n by omega]
  rfl

theorem rowB_split {l : List Ent} {b t : Int} (n : Nat) (hn : n ≤ l.length) (h : rowB l b t = true) : rowB (l.take n) b t = true ∧ rowB (l.drop n) (behind l b n) t = true := by
  have h2 := h
  rw [← List.take_append_drop n l, rowB_append, Bool.and_eq_true, behind_take l b n hn] at h2
  exact h2
theorem rowB_mono : ∀ (l : List Ent) (b t t' : Int), t ≤ t' → rowB l b t = true → rowB l b t' = true
  | [], _, _, _, _, _ => rfl
  | x :: l, b, t, t', h, e => by
    simp only [rowB, Bool.and_eq_true, decide_eq_true_eq] at e ⊢
    exact ⟨⟨⟨e.1.1.1, by omega⟩, e.1.2⟩, rowB_mono l x.term t t' h e.2⟩
theorem rowB_mem : ∀ (l : List Ent) (b t : Int), rowB l b t = true → ∀ x ∈ l, 1 ≤ x.term ∧ x.term ≤ t
  | [], _, _, _, x, hx => by cases hx
  | y :: l, b, t, e, x, hx => by
    simp only [rowB, Bool.and_eq_true, decide_eq_true_eq] at e
    rcases List.mem_cons.1 hx with rfl | hx
    · omega
    · exact rowB_mem l y.term t e.2 x hx
theorem behind_ge {l : List Ent} {b t : Int} (n : Nat) (h : rowB l b t = true) (hb : 0 ≤ b) : 0 ≤ behind l b n := by
  unfold behind
  cases he : (l.take n).getLast? with
  | none => exact hb
  | some x =>
    have := (rowB_mem l b t h x (List.mem_of_mem_take (List.mem_of_getLast? he))).1
    show 0 ≤ x.term
    omega
theorem putM_max : ∀ g l : List Ent, (putM g l).length ≤ max g.length l.length
  | g, [] => by cases g <;> simp [putM]
  | [], x :: l => by simp [putM]
  | y :: g, x :: l => by
    have := putM_max g l
    rw [putM]
    split <;> simp only [List.length_cons] <;> omega

def agr (g h : Hrd) (n : Nat) : Prop := ∀ k, k < n → ∃ a b, g.log[k]? = some a ∧ h.log[k]? = some b ∧ a.term = b.term
theorem agr_0 (g h : Hrd) : agr g h 0 := fun k hk => absurd hk (Nat.not_lt_zero k)

def nxN (next mt : Int) (yes : Bool) (i : Int) : Int := if yes = true then max next (max mt i + 1) else max (min (next - 1) (i + 1)) (mt + 1)
def nxM (mt : Int) (yes : Bool) (i : Int) : Int := if yes = true then max mt i else mt

structure Fs where
  h : Hrd
  next : Int
  mt : Int
  i : Nat
structure FInv (g h0 : Hrd) (s : Fs) : Prop where
  hard : hardB s.h = true
  base : s.h.base = 0
  term : g.term ≤ s.h.term
  len : s.h.log.length ≤ 40
  ph : (s.h = h0 ∧ s.mt = 0 ∧ 1 ≤ s.next ∧ (s.i : Int) + s.next ≤ g.log.length + 1) ∨ (0 ≤ s.mt ∧ s.mt ≤ g.log.length ∧ s.next = s.mt + 1 ∧ (s.i : Int) ≤ g.log.length + 1 + s.mt ∧ agr g s.h s.mt.toNat)

theorem behind_agr {g h : Hrd} {n : Nat} (hn : n ≤ g.log.length) (hbt : g.baseTerm = h.baseTerm) (k : agr g h n) : n ≤ h.log.length ∧ behind h.log h.baseTerm n = behind g.log g.baseTerm n := by
  cases n with
  | zero => exact ⟨Nat.zero_le _, by rw [behind_0, behind_0, hbt]⟩
  | succ j =>
    obtain ⟨a, b, h1, h2, h3⟩ := k j (by omega)
    obtain ⟨l1, e1⟩ := List.getElem?_eq_some_iff.1 h1
    obtain ⟨l2, e2⟩ := List.getElem?_eq_some_iff.1 h2
    exact ⟨l2, by rw [behind_succ l2, behind_succ l1, e1, e2, h3]⟩

theorem find_step {g h0 : Hrd} {s : Fs} (hg : hardB g = true) (hgb : g.base = 0) (hgl : g.log.length ≤ 40)
    (hm : ∀ (j : Nat) (a b : Ent), g.log[j]? = some a → h0.log[j]? = some b → a.term = b.term → agr g h0 (j + 1)) (k : FInv g h0 s) (hlt : s.mt < g.log.length) :
    growE s.h 0 (feedM g s.next) = 0 ∧ FInv g h0 ⟨(growO s.h 0 (feedM g s.next)).h, nxN s.next s.mt (growO s.h 0 (feedM g s.next)).yes (growO s.h 0 (feedM g s.next)).i, nxM s.mt (growO s.h 0 (feedM g s.next)).yes (growO s.h 0 (feedM g s.next)).i, s.i + 1⟩ := by
  obtain ⟨gA, _, _, gR⟩ := hardB_A hg
  obtain ⟨hA, _, _, hRw⟩ := hardB_A k.hard
  have hbt1 : g.baseTerm = 0 := gA.z.2 hgb
  have hbt2 : s.h.baseTerm = 0 := hA.z.2 k.base
  have hnx : 1 ≤ s.next ∧ s.next ≤ g.log.length + 1 := by
    rcases k.ph with ⟨_, _, _, _⟩ | ⟨_, _, _, _, _⟩ <;> omega
  obtain ⟨n, e1, e2, e3, e4⟩ := feed_at hg (by omega) (show g.base < s.next by omega)
  have hla := hard_last hg (by omega)
  have hlh := hard_last k.hard (by have := k.len; omega)
  have hn : (n : Int) = s.next - 1 := by
    have hp : feedP g s.next = min (s.next - 1) (lastI g) := emin_eq _ _
    omega
  have hlen := k.len
  have hbase := k.base
  have hP : gP s.h (feedM g s.next) = n := by
    unfold gP
    show (if feedP g s.next < s.h.base then s.h.base else feedP g s.next) = _
    rw [if_neg (by omega)]; omega
  have hT : gT s.h (feedM g s.next) = behind g.log g.baseTerm n := by
    unfold gT
    show (if feedP g s.next < s.h.base then s.h.baseTerm else termAt g (feedP g s.next)) = _
    rw [if_neg (by omega), e4]
  have hL : gL s.h (feedM g s.next) = (g.log.drop n).take 8 := by
    unfold gL
    show List.drop (s.h.base - feedP g s.next).toNat (feedL g s.next) = _
    rw [e3, show (s.h.base - feedP g s.next).toNat = 0 by omega, List.drop_zero]
  have hbg : 0 ≤ behind g.log g.baseTerm n := behind_ge n gR (by omega)
  have hLl : ((g.log.drop n).take 8).length = min 8 (g.log.length - n) := by rw [List.length_take, List.length_drop]
  have hR : gRight s.h 0 (feedM g s.next) := by
    refine ⟨⟨by omega, by omega⟩, ⟨?_, ?_⟩, ?_, ?_, ?_⟩
    · show 0 ≤ feedP g s.next
      omega
    · show feedP g s.next ≤ _
      omega
    · show 0 ≤ termAt g (feedP g s.next)
      omega
    · exact Int.le_refl _
    · show ((feedL g s.next).length : Int) ≤ 8
      rw [e3, hLl]; omega
  have hK : gBrk s.h 0 (gP s.h (feedM g s.next)) (gL s.h (feedM g s.next)) = false := by
    refine gBrk_f fun j _ hle => ?_
    rw [hP] at hle
    omega
  have hfa : agr g s.h n → fits s.h (gP s.h (feedM g s.next)) (gT s.h (feedM g s.next)) = true := fun ka => by
    obtain ⟨q1, q2⟩ := behind_agr e2 (by omega) ka
    rw [hP, hT]
    unfold fits
    rw [termAt_nat (h := s.h) (n := n) (by omega) q1, q2]
    simp only [Bool.and_eq_true, bne_iff_ne, ne_eq, beq_self_eq_true, and_true]
    omega
  cases hf : fits s.h (gP s.h (feedM g s.next)) (gT s.h (feedM g s.next)) with
  | false =>
    obtain ⟨E, O⟩ := growE_no k.hard hR hf
    refine ⟨E, ?_⟩
    rw [O]
    have hna : ¬ agr g s.h n := fun ka => by rw [hfa ka] at hf; cases hf
    rcases k.ph with ⟨A1, A2, A3, A4⟩ | ⟨B1, B2, B3, B4, B5⟩
    · have hn1 : n ≠ 0 := fun e => hna (by rw [e]; exact agr_0 g s.h)
      refine ⟨k.hard, k.base, k.term, k.len, .inl ⟨A1, A2, ?_, ?_⟩⟩
      · show 1 ≤ nxN s.next s.mt false _
        unfold nxN
        rw [if_neg (by decide)]
        omega
      · show ((s.i + 1 : Nat) : Int) + nxN s.next s.mt false _ ≤ _
        unfold nxN
        rw [if_neg (by decide)]
        omega
    · exact absurd (show agr g s.h n by rw [show n = s.mt.toNat by omega]; exact B5) hna
  | true =>
    obtain ⟨E, O⟩ := growE_put k.hard hR hf hK
    have hff := hf
    rw [hP, hT] at hff
    have hin : n ≤ s.h.log.length := by
      by_cases e0 : n = 0
      · omega
      · have := fits_in (by omega) hff (by omega)
        omega
    have hbh : behind s.h.log s.h.baseTerm n = behind g.log g.baseTerm n := by
      unfold fits at hff
      simp only [Bool.and_eq_true, beq_iff_eq] at hff
      rw [← hff.2, termAt_nat (by omega) hin]
    have hag : agr g s.h n := by
      rcases k.ph with ⟨A1, A2, A3, A4⟩ | ⟨B1, B2, B3, B4, B5⟩
      · cases n with
        | zero => exact agr_0 g s.h
        | succ j =>
          rw [behind_succ hin, behind_succ e2] at hbh
          have hh : h0.log[j]? = some (s.h.log[j]'hin) := by rw [← A1]; exact List.getElem?_eq_getElem hin
          rw [A1]
          exact hm j _ _ (List.getElem?_eq_getElem e2) hh hbh.symm
      · rw [show n = s.mt.toNat by omega]; exact B5
    have ko : PutOk s.h (gP s.h (feedM g s.next)) (gL s.h (feedM g s.next)) n := ⟨k.hard, by omega, hin, by
      rw [hL, hbh]
      have r1 := (rowB_split n e2 gR).2
      have r2 := (rowB_split (min 8 (g.log.drop n).length) (Nat.min_le_right _ _) r1).1
      have r3 : (g.log.drop n).take (min 8 (g.log.drop n).length) = (g.log.drop n).take 8 := by
        rw [← List.take_take, List.take_length]
      rw [r3] at r2
      exact rowB_mono _ _ _ _ k.term r2⟩
    rw [O, E, ko.log, hL, hP]
    refine ⟨(by have q := ko.e (by omega); rw [hL, hP] at q; exact q), ?_⟩
    have hx := ko.right
    rw [ko.log, hL] at hx
    have hlx : (putG s.h.log n ((g.log.drop n).take 8)).length ≤ 40 := by
      have := putM_max (s.h.log.drop n) ((g.log.drop n).take 8)
      rw [List.length_drop, hLl] at this
      unfold putG
      rw [List.length_append, List.length_take]
      omega
    have hmt : s.mt ≤ n := by
      rcases k.ph with ⟨A1, A2, A3, A4⟩ | ⟨B1, B2, B3, B4, B5⟩ <;> omega
    have eM : nxM s.mt true ((n : Int) + ((g.log.drop n).take 8).length) = ((n + ((g.log.drop n).take 8).length : Nat) : Int) := by
      unfold nxM
      rw [if_pos rfl]; omega
    have eN : nxN s.next s.mt true ((n : Int) + ((g.log.drop n).take 8).length) = ((n + ((g.log.drop n).take 8).length : Nat) : Int) + 1 := by
      unfold nxN
      rw [if_pos rfl]; omega
    refine ⟨hx, k.base, k.term, hlx, .inr ?_⟩
    show 0 ≤ nxM s.mt true _ ∧ nxM s.mt true _ ≤ _ ∧ nxN s.next s.mt true _ = nxM s.mt true _ + 1 ∧ ((s.i + 1 : Nat) : Int) ≤ _ + nxM s.mt true _ ∧ agr g _ (nxM s.mt true _).toNat
    rw [eM, eN, Int.toNat_natCast]
    have hi : (s.i : Int) ≤ g.log.length + (n + ((g.log.drop n).take 8).length : Nat) := by
      rcases k.ph with ⟨A1, A2, A3, A4⟩ | ⟨B1, B2, B3, B4, B5⟩ <;> omega
    refine ⟨by omega, by omega, rfl, by omega, ?_⟩
    intro j hj
    by_cases hjn : j < n
    · obtain ⟨a, b, q1, q2, q3⟩ := hag j hjn
      refine ⟨a, b, q1, ?_, q3⟩
      have := congrArg (fun z => z[j]?) (putG_take s.h.log ((g.log.drop n).take 8) hin)
      try simp only at this
      rw [List.getElem?_take_of_lt hjn, List.getElem?_take_of_lt hjn] at this
      exact this.trans q2
    · obtain ⟨i, rfl⟩ : ∃ i, j = n + i := ⟨j - n, by omega⟩
      have hil : i < ((g.log.drop n).take 8).length := by omega
      obtain ⟨a, ha1, ha2⟩ := putM_term (s.h.log.drop n) ((g.log.drop n).take 8) i hil
      rw [← putG_drop s.h.log ((g.log.drop n).take 8) hin, List.getElem?_drop] at ha1
      refine ⟨_, a, List.getElem?_eq_getElem (by omega), ha1, ?_⟩
      rw [ha2, List.getElem_take, List.getElem_drop]
end Go.Proofs
