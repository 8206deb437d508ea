import Derived.Test.YtbhfokahocgndabGreatC47
import Derived.Test.YtbhfokahocgndabGreatC1
import Derived.Test.YtbhfokahocgndabGreatC13
/- Plain law: what becomes of a log by a message. -/
set_option linter.unusedSimpArgs false
set_option linter.unusedVariables false
namespace Go.Proofs
open Go.Pv
set_option maxRecDepth 100000
abbrev emax (a b : Int) : Int := if b > a then b else a
abbrev emin (a b : Int) : Int := if b < a then b else a
theorem zvs (a b : Int) : emax a b = max a b := by unfold emax; split <;> omega
theorem zmp (a b : Int) : emin a b = min a b := by unfold emin; split <;> omega
def ze3 (h : Hrd) (c : Int) (m : Mg) : Prop := (h.base ≤ c ∧ c ≤ lastI h) ∧ (0 ≤ m.index ∧ m.index ≤ 1099511627776) ∧ 0 ≤ m.logTerm ∧ 0 ≤ m.commit ∧ (m.entries.length : Int) ≤ 8
instance (h : Hrd) (c : Int) (m : Mg) : Decidable (ze3 h c m) := by unfold ze3; infer_instance
def gP (h : Hrd) (m : Mg) : Int := if m.index < h.base then h.base else m.index
def gT (h : Hrd) (m : Mg) : Int := if m.index < h.base then h.baseTerm else m.logTerm
def gL (h : Hrd) (m : Mg) : List Ent := m.entries.drop (h.base - m.index).toNat
def gBrk (h : Hrd) (c p : Int) (l : List Ent) : Bool := (List.range l.length).any fun k => decide (p + 1 + k ≤ c) && (zbk h (p + 1 + k) != (l.getD k ez).term)
theorem zni {h : Hrd} {c p : Int} {l : List Ent} {k : Nat} (hk : k < l.length) (h1 : p + 1 + k ≤ c) (h2 : zbk h (p + 1 + k) ≠ (l[k]'hk).term) : gBrk h c p l = true := by
 unfold gBrk
 rw [List.any_eq_true]
 refine ⟨k, List.mem_range.2 hk, ?_⟩
 have e : l.getD k ez = l[k]'hk := by rw [List.getD_eq_getElem?_getD, List.getElem?_eq_getElem hk]; rfl
 rw [e]
 simp only [Bool.and_eq_true, decide_eq_true_eq, bne_iff_ne, ne_eq]
 exact ⟨h1, h2⟩
theorem z0c {h : Hrd} {c p : Int} {l : List Ent} (hb : gBrk h c p l = false) : ∀ k (hk : k < l.length), p + 1 + k ≤ c → zbk h (p + 1 + k) = (l[k]'hk).term := by
 intro k hk h1
 apply Classical.byContradiction
 intro hn
 rw [zni hk h1 hn] at hb
 cases hb
theorem gBrk_f {h : Hrd} {c p : Int} {l : List Ent} (hh : ∀ k (hk : k < l.length), p + 1 + k ≤ c → zbk h (p + 1 + k) = (l[k]'hk).term) : gBrk h c p l = false := by
 cases hb : gBrk h c p l with
 | false => rfl
 | true =>
  unfold gBrk at hb
  rw [List.any_eq_true] at hb
  obtain ⟨k, hk, hx⟩ := hb
  have hk := List.mem_range.1 hk
  have e : l.getD k ez = l[k]'hk := by rw [List.getD_eq_getElem?_getD, List.getElem?_eq_getElem hk]; rfl
  rw [e] at hx
  simp only [Bool.and_eq_true, decide_eq_true_eq, bne_iff_ne, ne_eq] at hx
  exact absurd (hh k hk hx.1) hx.2
noncomputable def growE (h : Hrd) (c : Int) (m : Mg) : Int := if hardB h = true then (if ze3 h c m then (if fits h (gP h m) (gT h m) = true then (if gBrk h c (gP h m) (gL h m) = true then 13 else putHE h (gP h m) (gL h m)) else 0) else 1) else 6
structure GOut where
 h : Hrd
 c : Int
 yes : Bool
 i : Int
def growO (h : Hrd) (c : Int) (m : Mg) : GOut := if fits h (gP h m) (gT h m) = true then ⟨putH h (gP h m) (gL h m), emax c (emin m.commit (gP h m + (gL h m).length)), true, gP h m + (gL h m).length⟩ else ⟨h, c, false, emax (emin (lastI h) (gP h m - 1)) h.base⟩
theorem zf9 {h : Hrd} {c : Int} {m : Mg} (e : growE h c m = 0) : hardB h = true ∧ ze3 h c m := by
 unfold growE at e
 by_cases h1 : hardB h = true
 ·rw [if_pos h1] at e
  by_cases h2 : ze3 h c m
  ·exact ⟨h1, h2⟩
  ·rw [if_neg h2] at e; omega
 ·rw [if_neg h1] at e; omega
theorem zij {h : Hrd} {c : Int} {m : Mg} (h1 : hardB h = true) (h2 : ze3 h c m) (hf : fits h (gP h m) (gT h m) = false) : growE h c m = 0 ∧ growO h c m = ⟨h, c, false, emax (emin (lastI h) (gP h m - 1)) h.base⟩ := by
 unfold growE growO
 rw [if_pos h1, if_pos h2, hf, if_neg (by decide), if_neg (by decide)]
 exact ⟨rfl, rfl⟩
theorem zou {h : Hrd} {c : Int} {m : Mg} (h1 : hardB h = true) (h2 : ze3 h c m) (hf : fits h (gP h m) (gT h m) = true) (hb : gBrk h c (gP h m) (gL h m) = true) : growE h c m = 13 := by
 unfold growE
 rw [if_pos h1, if_pos h2, if_pos hf, if_pos hb]
theorem zi6 {h : Hrd} {c : Int} {m : Mg} (h1 : hardB h = true) (h2 : ze3 h c m) (hf : fits h (gP h m) (gT h m) = true) (hb : gBrk h c (gP h m) (gL h m) = false) : growE h c m = putHE h (gP h m) (gL h m) ∧ growO h c m = ⟨putH h (gP h m) (gL h m), emax c (emin m.commit (gP h m + (gL h m).length)), true, gP h m + (gL h m).length⟩ := by
 unfold growE growO
 rw [if_pos h1, if_pos h2, if_pos hf, if_pos hf, hb, if_neg (by decide)]
 exact ⟨rfl, rfl⟩
theorem zu9 (h : Hrd) (m : Mg) : (gL h m).length ≤ m.entries.length := by unfold gL; rw [List.length_drop]; omega
theorem growOk {h : Hrd} {c : Int} {m : Mg} (hl : h.log.length ≤ 4294967) (e : growE h c m = 0) (hf : fits h (gP h m) (gT h m) = true) : ∃ n, PutOk h (gP h m) (gL h m) n ∧ ze3 h c m ∧ gBrk h c (gP h m) (gL h m) = false := by
 obtain ⟨h1, h2⟩ := zf9 e
 cases hb : gBrk h c (gP h m) (gL h m) with
 | true => rw [zou h1 h2 hf hb] at e; omega
 | false =>
  rw [(zi6 h1 h2 hf hb).1] at e
  obtain ⟨n, ko⟩ := putOk e hl
  exact ⟨n, ko, h2, rfl⟩
theorem zm8 : ∀ (g l : List Ent) (d : Nat), d ≤ g.length → (∀ k (_ : k < d) (h2 : k < l.length) (h3 : k < g.length), (g[k]'h3).term = (l[k]'h2).term) → (putM g l).take d = g.take d
 | g, [], d, _, _ => by cases g <;> rfl
 | [], x :: l, d, hd, _ => by
  have e : d = 0 := by simpa using hd
  subst e; rfl
 | y :: g, x :: l, 0, _, _ => by simp
 | y :: g, x :: l, d + 1, hd, h => by
  have h0 := h 0 (by omega) (by simp) (by simp)
  simp only [List.getElem_cons_zero] at h0
  rw [putM, if_pos h0, List.take_succ_cons, List.take_succ_cons, zm8 g l d (by simpa using hd) ?_]
  intro k h1 h2 h3
  have := h (k + 1) (by omega) (by simpa using h2) (by simpa using h3)
  simpa using this
theorem zw7 {g l : List Ent} {n d : Nat} (hn : n ≤ g.length) (hd : d ≤ g.length) (h : ∀ k (h2 : k < l.length) (h3 : n + k < g.length), n + k < d → (g[n + k]'h3).term = (l[k]'h2).term) : (putG g n l).take d = g.take d := by
 by_cases hdn : d ≤ n
 ·have e := congrArg (List.take d) (zgy g l hn)
  rw [List.take_take, List.take_take, Nat.min_eq_left hdn] at e
  exact e
 ·obtain ⟨q, rfl⟩ : ∃ q, d = n + q := ⟨d - n, by omega⟩
  rw [List.take_add, zgy g l hn, zg5 g l hn, zm8 (g.drop n) l q (by rw [List.length_drop]; omega) ?_, ← List.take_add]
  intro k h1 h2 h3
  rw [List.getElem_drop]
  exact h k h2 (by rw [List.length_drop] at h3; omega) (by omega)
theorem zvn (g l : List Ent) {n : Nat} (hn : n ≤ g.length) : n + l.length ≤ (putG g n l).length := by
 have := (zg4 (g.drop n) l).2
 unfold putG
 rw [List.length_append, List.length_take]
 omega
theorem zqq {h : Hrd} {k : Nat} (hk : k < h.log.length) : zbk h (h.base + 1 + k) = (h.log[k]'hk).term := by
 rw [zdi (n := k + 1) (by omega) (by omega), zbj hk]
theorem zwz {h : Hrd} {c : Int} {p : Int} {l : List Ent} {n : Nat} (ko : PutOk h p l n) (hb : gBrk h c p l = false) (hc : c ≤ h.base + h.log.length) : (putG h.log n l).take (c - h.base).toNat = h.log.take (c - h.base).toNat := by
 refine zw7 ko.le (by omega) ?_
 intro k h2 h3 hlt
 have hat := ko.at'
 have := z0c hb k h2 (by omega)
 rw [show p + 1 + (k : Int) = h.base + 1 + ((n + k : Nat) : Int) by omega, zqq h3] at this
 exact this
theorem zws {h : Hrd} {c : Int} {p : Int} {l : List Ent} {n : Nat} (ko : PutOk h p l n) (hb : gBrk h c p l = false) (hc : c ≤ h.base + h.log.length) : c ≤ h.base + (putG h.log n l).length := by
 have e := congrArg List.length (zwz ko hb hc)
 rw [List.length_take, List.length_take] at e
 omega
theorem zd8 {h : Hrd} (hh : hardB h = true) (hl : h.log.length ≤ 4294967) : lastI h = h.base + h.log.length := by
 have := (za2 hh).1.b
 exact zbe this.1 (by omega)
structure GrowFit (h : Hrd) (c : Int) (m : Mg) (n : Nat) : Prop where
 ko : PutOk h (gP h m) (gL h m) n
 right : ze3 h c m
 brk : gBrk h c (gP h m) (gL h m) = false
 out : growO h c m = ⟨{ h with log := putG h.log n (gL h m) }, emax c (emin m.commit (gP h m + (gL h m).length)), true, gP h m + (gL h m).length⟩
theorem zp7 {h : Hrd} {c : Int} {m : Mg} (hl : h.log.length ≤ 4294967) (e : growE h c m = 0) (hf : fits h (gP h m) (gT h m) = true) : ∃ n, GrowFit h c m n := by
 obtain ⟨n, ko, hr, hb⟩ := growOk hl e hf
 refine ⟨n, ko, hr, hb, ?_⟩
 rw [(zi6 ko.hard hr hf hb).2, ko.log]
theorem GrowFit.last {h : Hrd} {c : Int} {m : Mg} {n : Nat} (k : GrowFit h c m n) (hl : h.log.length ≤ 4294000) : lastI (growO h c m).h = h.base + (putG h.log n (gL h m)).length ∧ (growO h c m).h.log.length ≤ 4294967 := by
 have hb := (za2 k.ko.hard).1.b
 have h8 := k.right.2.2.2.2
 have h1 := zu9 h m
 have h2 := zv4 h.log (gL h m) k.ko.le
 rw [k.out]
 refine ⟨?_, ?_⟩
 ·refine zbe hb.1 ?_
  show h.base + ((putG h.log n (gL h m)).length : Int) < _
  omega
 ·show (putG h.log n (gL h m)).length ≤ _
  omega
theorem GrowFit.le {h : Hrd} {c : Int} {m : Mg} {n : Nat} (k : GrowFit h c m n) (hl : h.log.length ≤ 4294000) : c ≤ h.base + (putG h.log n (gL h m)).length ∧ gP h m + (gL h m).length ≤ h.base + (putG h.log n (gL h m)).length := by
 have hc := k.right.1.2
 rw [zd8 k.ko.hard (by omega)] at hc
 have h1 := zws k.ko k.brk hc
 have h2 := zvn h.log (gL h m) k.ko.le
 have h3 := k.ko.at'
 exact ⟨h1, by omega⟩
theorem zh9 {h : Hrd} {c : Int} {m : Mg} (hl : h.log.length ≤ 4294000) (e : growE h c m = 0) : c ≤ (growO h c m).c ∧ (growO h c m).c ≤ lastI (growO h c m).h ∧ ((growO h c m).yes = false → (growO h c m).c = c) ∧ ((growO h c m).c = c ∨ ((growO h c m).c ≤ m.commit ∧ (growO h c m).c ≤ (growO h c m).i)) := by
 obtain ⟨h1, h2⟩ := zf9 e
 cases hf : fits h (gP h m) (gT h m) with
 | false =>
  rw [(zij h1 h2 hf).2]
  exact ⟨Int.le_refl _, h2.1.2, fun _ => rfl, .inl rfl⟩
 | true =>
  obtain ⟨n, k⟩ := zp7 (by omega) e hf
  obtain ⟨k1, k2⟩ := k.le hl
  rw [(k.last hl).1, k.out]
  simp only [zvs, zmp]
  refine ⟨by omega, by omega, (fun x => by cases x), by omega⟩
theorem zm6 {h : Hrd} {c : Int} {m : Mg} (e : growE h c m = 0) : (growO h c m).h.base = h.base := by
 unfold growO; split <;> rfl
theorem zve {h : Hrd} {c : Int} {m : Mg} (e : growE h c m = 0) : (growO h c m).h.snap = h.snap := by
 unfold growO; split <;> rfl
theorem zhf {h : Hrd} {c : Int} {m : Mg} (hl : h.log.length ≤ 4294000) (e : growE h c m = 0) : (growO h c m).h.log.length ≤ h.log.length + 8 := by
 obtain ⟨h1, h2⟩ := zf9 e
 cases hf : fits h (gP h m) (gT h m) with
 | false => rw [(zij h1 h2 hf).2]; show h.log.length ≤ _; omega
 | true =>
  obtain ⟨n, k⟩ := zp7 (by omega) e hf
  have h8 := k.right.2.2.2.2
  have h3 := zu9 h m
  have h4 := zv4 h.log (gL h m) k.ko.le
  rw [k.out]
  show (putG h.log n (gL h m)).length ≤ _
  omega
abbrev mzv : List PV := [iv 0, iv 0, iv 0, iv 0, iv 0, iv 0, iv 0, iv 0, bv false, .nl, iv 0, iv 0, iv 0, iv 0, .nl, .nl]
abbrev ansV (yes : Bool) (i : Int) : List PV := [iv 6, iv 0, iv 0, iv 0, iv i, iv 0, iv 0, iv 0, bv yes, .nl, iv 0, iv 0, iv 0, iv 0, .nl, .nl]
def resG (e : Int) (o : GOut) : PV := if e = 0 then .tu [.ag (o.h.own 0), iv o.c, .ag (ansV o.yes o.i), iv 0] else .tu [.ag hzv, iv 0, .ag mzv, iv e]
def resGO (e : Int) (o : GOut) : List (Nat × List (List PV)) := if e = 0 then o.h.obs else []
def resGW (e : Int) (o : GOut) : PV := if e = 0 then .tu [.ag o.h.enc, iv o.c, .ag (ansV o.yes o.i), iv 0] else .tu [.ag hzv, iv 0, .ag mzv, iv e]
theorem zqf {e : Int} {o : GOut} (he : e = 0) : resG e o = .tu [.ag (o.h.own 0), iv o.c, .ag (ansV o.yes o.i), iv 0] ∧ resGO e o = o.h.obs ∧ resGW e o = .tu [.ag o.h.enc, iv o.c, .ag (ansV o.yes o.i), iv 0] := by
 subst he; exact ⟨rfl, rfl, rfl⟩
theorem zki {e : Int} {o : GOut} (he : ¬ e = 0) : resG e o = .tu [.ag hzv, iv 0, .ag mzv, iv e] ∧ resGO e o = [] ∧ resGW e o = .tu [.ag hzv, iv 0, .ag mzv, iv e] := by
 unfold resG resGO resGW
 rw [if_neg he, if_neg he, if_neg he]; exact ⟨rfl, rfl, rfl⟩
def feedP (g : Hrd) (next : Int) : Int := emin (next - 1) (lastI g)
def feedL (g : Hrd) (next : Int) : List Ent := fromL g (feedP g next + 1) 8
theorem zw6 {g : Hrd} {next : Int} (hg : hardB g = true) (hl : g.log.length ≤ 4294967) (hn : g.base < next) : ∃ n : Nat, feedP g next = g.base + n ∧ n ≤ g.log.length ∧ feedL g next = (g.log.drop n).take 8 ∧ zbk g (feedP g next) = behind g.log g.baseTerm n := by
 have hla := zd8 hg hl
 have hp : feedP g next = min (next - 1) (lastI g) := zmp _ _
 obtain ⟨n, e, hle⟩ : ∃ n : Nat, feedP g next = g.base + n ∧ n ≤ g.log.length := ⟨(feedP g next - g.base).toNat, by omega, by omega⟩
 refine ⟨n, e, hle, ?_, zdi e hle⟩
 unfold feedL
 rw [e, z0f (by omega) (by omega), show (g.base + (n : Int) + 1 - g.base - 1).toNat = n by omega]
 rfl
theorem znh : ∀ (l : List Ent) (b t t' : Int), t ≤ t' → rowB l b t = true → rowB l b t' = true
 | [], _, _, _, _, _ => rfl
 | x :: l, b, t, t', h, e => by
  simp only [rowB, Bool.and_eq_true, decide_eq_true_eq] at e ⊢
  exact ⟨⟨⟨e.1.1.1, by omega⟩, e.1.2⟩, znh l x.term t t' h e.2⟩
def agr (g h : Hrd) (n : Nat) : Prop := ∀ k, k < n → ∃ a b, g.log[k]? = some a ∧ h.log[k]? = some b ∧ a.term = b.term
def nxN (next mt : Int) (yes : Bool) (i : Int) : Int := if yes = true then max next (max mt i + 1) else max (min (next - 1) (i + 1)) (mt + 1)
def nxM (mt : Int) (yes : Bool) (i : Int) : Int := if yes = true then max mt i else mt
structure Fs where
 h : Hrd
 next : Int
 mt : Int
 i : Nat
structure FInv (g h0 : Hrd) (s : Fs) : Prop where
 hard : hardB s.h = true
 base : s.h.base = 0
 term : g.term ≤ s.h.term
 len : s.h.log.length ≤ 40
 ph : (s.h = h0 ∧ s.mt = 0 ∧ 1 ≤ s.next ∧ (s.i : Int) + s.next ≤ g.log.length + 1) ∨ (0 ≤ s.mt ∧ s.mt ≤ g.log.length ∧ s.next = s.mt + 1 ∧ (s.i : Int) ≤ g.log.length + 1 + s.mt ∧ agr g s.h s.mt.toNat)
theorem c_rNext (nx mt : Int) (m : Mg) (h1 : -1152921504606846976 ≤ nx ∧ nx ≤ 1152921504606846976) (h2 : -1152921504606846976 ≤ mt ∧ mt ≤ 1152921504606846976) (h3 : -1152921504606846976 ≤ m.index ∧ m.index ≤ 1152921504606846976) :
    Ctr Tryz.prog 164 [iv nx, iv mt, .ag m.enc] (.tu [iv (nxN nx mt m.yes m.index), iv (nxM mt m.yes m.index)]) [] := by
 have w1 : IntKind.i64.wrap (nx - 1) = nx - 1 := zai (by omega) (by omega)
 have w2 : IntKind.i64.wrap (m.index + 1) = m.index + 1 := zai (by omega) (by omega)
 have w3 : IntKind.i64.wrap (mt + 1) = mt + 1 := zai (by omega) (by omega)
 have w4 : ∀ x : Int, x ≤ 1152921504606846976 → -1152921504606846976 ≤ x → IntKind.i64.wrap (x + 1) = x + 1 := fun x _ _ => zai (by omega) (by omega)
 refine sBody Tryz.func164 ?_; conv => whnf
 (refine tSp (fun h => ?_) (fun h => ?_) <;> conv => whnf)
 ·refine zab rfl ?_
  rw [w4 _ (by split <;> omega) (by split <;> omega), h]
  have q1 : nxM mt true m.index = (if m.index > mt then m.index else mt) := by unfold nxM; rw [if_pos rfl]; split <;> omega
  have q2 : nxN nx mt true m.index = (if (if m.index > mt then m.index else mt) + 1 > nx then (if m.index > mt then m.index else mt) + 1 else nx) := by unfold nxN; rw [if_pos rfl]; repeat' split <;> omega
  rw [q1, q2]
 ·have q1 : nxM mt false m.index = mt := by unfold nxM; rw [if_neg (by decide)]
  have q2 : nxN nx mt false m.index = max (min (nx - 1) (m.index + 1)) (mt + 1) := by unfold nxN; rw [if_neg (by decide)]
  rw [h, q1, q2]
  refine zab rfl ?_
  rw [w1, w2, w3, show (if mt + 1 > (if m.index + 1 < nx - 1 then m.index + 1 else nx - 1) then mt + 1 else (if m.index + 1 < nx - 1 then m.index + 1 else nx - 1)) = max (min (nx - 1) (m.index + 1)) (mt + 1) by repeat' split <;> omega]
theorem zao (x lo hi : Int) : Ctr Tryz.prog 88 [iv x, iv lo, iv hi] (bv (decide (lo ≤ x ∧ x ≤ hi))) [] := by
 refine sBody Tryz.func88 ?_; conv => whnf
 (refine tSp (fun h => ?_) (fun h => ?_) <;> conv => whnf)
 ·exact zab rfl (by simp [h])
 ·exact zab rfl (by simp [h])
theorem far_k {x : Int} (h : 0 ≤ x ∧ x ≤ 1099511627776) : Ctr Tryz.prog 88 [iv x, iv 0, iv 1099511627776] (bv true) [] := by
 have := zao x 0 1099511627776
 rwa [decide_eq_true h] at this
abbrev zA : Arr := ⟨0, 0, 0, 0, 0, 0, 0⟩
abbrev far : Int := 1099511627776
def Arr.all (a : Arr) (p : Int → Prop) : Prop := p a.a0 ∧ p a.a1 ∧ p a.a2 ∧ p a.a3 ∧ p a.a4 ∧ p a.a5 ∧ p a.a6
def Arr.put (a : Arr) (i : Nat) (v : Int) : Arr := match i with
 | 0 => { a with a0 := v }
 | 1 => { a with a1 := v }
 | 2 => { a with a2 := v }
 | 3 => { a with a3 := v }
 | 4 => { a with a4 := v }
 | 5 => { a with a5 := v }
 | 6 => { a with a6 := v }
 | _ => a
noncomputable def fallR (r : Rft) (term lead : Int) : Rft :=
 { r with role := 0, lead := lead, votes := 0, reads := [], next := zA, mtch := zA, silent := zA, wait := delay (zac r) r.id, hard := if term > r.hard.term then { r.hard with term := term, vote := -1 } else r.hard }
noncomputable def othN (id bits : Int) (i : Nat) : List Int := ((List.range i).filter fun k : Nat => decide ((k : Int) ≠ id) && tb bits k).map fun k : Nat => (k : Int)
end Go.Proofs
