import Derived.Test.YtbhfokahocgndabGreatC1
import Derived.Test.YtbhfokahocgndabGreatC13
import Derived.Test.YtbhfokahocgndabGreatY3
/- Contracts of functions: logs that match, that agree (the program's). -/
set_option linter.unusedSimpArgs false
set_option linter.unusedVariables false
namespace Go.Proofs
open Go.Pv
set_option maxRecDepth 100000
def lkB (r : Rft) : Bool := zaj r.hard.base 0 1099511627776
theorem c_has (r : Rft) : Ctr Tryz.prog 68 [.ag r.enc] (bv (lkB r)) [] := by
 refine sBody Tryz.func68 ?_; conv => whnf
 repeat' (refine tSp (fun h => ?_) (fun h => ?_) <;> conv => whnf)
 all_goals (refine zab rfl ?_; simp [lkB, zaj, *])
theorem ze6 {r : Rft} : lkB r = true ↔ 0 ≤ r.hard.base ∧ r.hard.base ≤ 1099511627776 := by simp [lkB, zaj]
abbrev entE (r : Rft) (k : Int) : Ent := (entAt r.hard k).getD ez
theorem zeu (r : Rft) (hm : r.hard.log.length ≤ maxLen) (hb : isI r.hard.base) (hh : lkB r = true) (i : Int) (hi : isI i) : Ctr Tryz.prog 69 [.ag r.enc, iv i] (.tu [.ag (entE r i).enc, bv (entAt r.hard i).isSome]) [] := by
 have hc := c_has r
 rw [hh] at hc
 refine sBody Tryz.func69 ?_; conv => whnf
 ((try (refine Exists.intro none ?_; conv => whnf)); (with_reducible refine zaa (hc) ?_); conv => whnf)
 ((try (refine Exists.intro none ?_; conv => whnf)); (with_reducible refine zaa (c_Entry r.hard hm hb i hi) ?_); conv => whnf)
 exact zab rfl rfl
structure Rft.small (r : Rft) : Prop where
 log : r.hard.log.length ≤ 4294967296
 base : isI r.hard.base
 snap : r.hard.snap.length ≤ 4294967296
 reads : r.reads.length ≤ 4294967296
theorem Rft.small.len {r : Rft} (h : r.small) : r.hard.log.length ≤ maxLen := zag h.log
abbrev lastR (r : Rft) : Int := r.hard.base + r.hard.log.length
theorem zin {r : Rft} (h : r.small) (hh : lkB r = true) : lastI r.hard = lastR r := by
 obtain ⟨h1, h2⟩ := ze6.1 hh
 have := h.log
 unfold lastI
 split
 ·rename_i e; unfold lastR; rw [e]; simp
 ·exact zai (by omega) (by omega)
def zp8 (e : Int → Ent → Ent → Bool) (a b : Rft) : Prop := lkB a = true → lkB b = true → ∀ k : Int, a.hard.base < k → b.hard.base < k → k ≤ lastR a → k ≤ lastR b → e k (entE a k) (entE b k) = true
theorem c_both (a b : Rft) (sa : a.small) (sb : b.small) (g : Nat) (p q : List PV) (e : Int → Ent → Ent → Bool) (he : ∀ k (x y : Ent), Ctr Tryz.prog g [iv k, .ag x.enc, .ag y.enc, .ep p, .ep q] (bv (e k x y)) []) :
    Ctr Tryz.prog 63 [.ag a.enc, .ag b.enc, .cl g [.ep p, .ep q]] (bv (dec (zp8 e a b))) [] := by
 refine sBody Tryz.func63 ?_; conv => whnf
 ((try (refine Exists.intro none ?_; conv => whnf)); (with_reducible refine zaa (c_has a) ?_); conv => whnf)
 (refine tSp (fun h => ?_) (fun h => ?_) <;> conv => whnf)
 ·exact zab rfl (by rw [zbm]; intro h1; rw [h] at h1; cases h1)
 have ha := h
 ((try (refine Exists.intro none ?_; conv => whnf)); (with_reducible refine zaa (c_has b) ?_); conv => whnf)
 (refine tSp (fun h => ?_) (fun h => ?_) <;> conv => whnf)
 ·exact zab rfl (by rw [zbm]; intro _ h1; rw [h] at h1; cases h1)
 have hb := h
 have ea := zin sa ha
 have eb := zin sb hb
 have ra := ze6.1 ha
 have rb := ze6.1 hb
 have la := sa.log
 have lb := sb.log
 have ca := zrj a.hard sa.len
 have cb := zrj b.hard sb.len
 rw [ea] at ca
 rw [eb] at cb
 ((try (refine Exists.intro none ?_; conv => whnf)); (with_reducible refine zaa (ca) ?_); conv => whnf)
 ((try (refine Exists.intro none ?_; conv => whnf)); (with_reducible refine zaa (cb) ?_); conv => whnf)
 generalize hhi : (if lastR b < lastR a then lastR b else lastR a) = hi
 have h1 : hi ≤ lastR a := by rw [← hhi]; split <;> omega
 have h2 : hi ≤ lastR b := by rw [← hhi]; split <;> omega
 have h3 : ∀ n, n ≤ lastR a → n ≤ lastR b → n ≤ hi := by intro n; rw [← hhi]; split <;> omega
 refine ze1 mixed (by kernel_rfl) (fun k : Int => k ≤ hi ∧ (k = hi ∨ (a.hard.base ≤ k ∧ b.hard.base ≤ k)) ∧ ∀ n : Int, a.hard.base < n → b.hard.base < n → k < n → n ≤ hi → e n (entE a n) (entE b n) = true) (fun k => [(11, iv k)]) (fun _ => [(3, a.enc), (4, b.enc)]) [] (fun k => (k - max a.hard.base b.hard.base).toNat) hi ⟨Int.le_refl _, .inl rfl, fun n _ _ h4 h5 => by omega⟩ ?_ ?_
 ·conv => whnf
  exact wkD
 rintro k ⟨hk, hk2, hp⟩
 conv => whnf
 (refine tSp (fun h => ?_) (fun h => ?_) <;> conv => whnf)
 ·have hk3 : a.hard.base < k ∧ b.hard.base < k := by split at h <;> omega
  have hik : isI k := by unfold isI; unfold lastR at h1; omega
  ((try (refine Exists.intro none ?_; conv => whnf)); (with_reducible refine zaa (zeu a sa.len sa.base ha k hik) ?_); conv => whnf)
  ((try (refine Exists.intro none ?_; conv => whnf)); (with_reducible refine zaa (zeu b sb.len sb.base hb k hik) ?_); conv => whnf)
  have hc := he k (entE a k) (entE b k)
  ((try (refine Exists.intro none ?_; conv => whnf)); (with_reducible refine zaa (hc) ?_); conv => whnf)
  (refine tSp (fun h => ?_) (fun h => ?_) <;> conv => whnf)
  ·refine zab rfl ?_
   rw [zc1]
   intro hh
   have := hh ha hb k hk3.1 hk3.2 (by omega) (by omega)
   rw [this] at h; cases h
  ·refine ⟨k - 1, ⟨⟨by omega, .inr (by omega), ?_⟩, by omega⟩, ?_⟩
   ·intro n n1 n2 n3 n4
    by_cases en : n = k
    ·subst en; exact h
    ·exact hp n n1 n2 (by omega) n4
   ·conv => whnf
    (refine wkx ?_; refine ⟨?_, ?_, ?_⟩ <;> (conv => whnf) <;> repeat' first | exact wkc | (with_reducible refine And.intro ?_ ?_) <;> first | exact wks | refine wko ?_ | refine wki ?_ | refine wkb ?_ | (refine zal ?_; conv => whnf) | (refine zad ?_; conv => whnf) | (refine zae ?_; conv => whnf) | conv => whnf)
    all_goals first | rfl | skip
    exact zai (by omega) (by unfold lastR at h1; omega)
 ·have hk3 : k ≤ a.hard.base ∨ k ≤ b.hard.base := by split at h <;> omega
  refine zab rfl ?_
  rw [zbm]
  intro _ _ n n1 n2 n3 n4
  exact hp n n1 n2 (by omega) (h3 n n3 n4)
def zig (a b : Rft) (k : Int) (x y : Ent) : Bool := decide (a.commit < k) || (decide (b.commit < k) || decide (x.nrm = y.nrm))
theorem ztn (a b : Rft) (k : Int) (x y : Ent) : Ctr Tryz.prog 67 [iv k, .ag x.enc, .ag y.enc, .ep a.enc, .ep b.enc] (bv (zig a b k x y)) [] := by
 refine sBody Tryz.func67 ?_; conv => whnf
 repeat' (first | (refine tSp (fun h => ?_) (fun h => ?_) <;> conv => whnf) | ((try (refine Exists.intro none ?_; conv => whnf)); (with_reducible refine zaa (zoo x y) ?_); conv => whnf))
 all_goals (refine zab rfl ?_)
 ·simp [zig, h]
 ·simp [zig, h]
 ·have e1 : decide (a.commit < k) = false := decide_eq_false (by omega)
  have e2 : decide (b.commit < k) = false := decide_eq_false (by omega)
  unfold zig; rw [e1, e2]; rfl
noncomputable def znb (a b : Rft) : Bool := dec (zp8 (zig a b) a b)
theorem zwm (a b : Rft) (sa : a.small) (sb : b.small) : Ctr Tryz.prog 66 [.ag a.enc, .ag b.enc] (bv (znb a b)) [] := by
 refine sBody Tryz.func66 ?_; conv => whnf
 ((try (refine Exists.intro none ?_; conv => whnf)); (with_reducible refine zaa (c_both a b sa sb 67 a.enc b.enc (zig a b) (ztn a b)) ?_); conv => whnf)
 exact zab rfl rfl
theorem zzb (l : List Rft) (hl : l.length ≤ maxLen) (hs : ∀ r ∈ l, r.small) : Ctr Tryz.prog 24 [.sl 40 (l.map Rft.enc)] (bv (dec (zep znb l))) [] := by
 refine sBody Tryz.func24 ?_; conv => whnf
 ((try (refine Exists.intro none ?_; conv => whnf)); (with_reducible refine zaa (zpn l hl 66 znb (fun a ha b hb => zwm a b (hs a ha) (hs b hb))) ?_); conv => whnf)
 exact zab rfl rfl
theorem zqd (met : Bool) (k : Int) (x y : Ent) : CtrE Tryz.prog 64 [iv k, .ag x.enc, .ag y.enc, .pt 1000000 0] [(1000000, [bv met])] [] (bv (!(met || x.term == y.term) || decide (x.nrm = y.nrm))) [(1000000, [bv (met || x.term == y.term)])] [] := by
 refine zc6 Tryz.func64 ?_; conv => whnf
 cases met
 ·conv => whnf
  repeat' (first | (refine tSp (fun h => ?_) (fun h => ?_) <;> conv => whnf) | ((try (refine Exists.intro none ?_; conv => whnf)); (with_reducible refine zaa (zoo x y) ?_); conv => whnf))
  all_goals (refine zah [] [] ?_; (conv => whnf); (refine wkx ?_; refine ⟨?_, ?_, ?_⟩ <;> (conv => whnf) <;> repeat' first | exact wkc | (with_reducible refine And.intro ?_ ?_) <;> first | exact wks | refine wko ?_ | refine wki ?_ | refine wkb ?_ | (refine zal ?_; conv => whnf) | (refine zad ?_; conv => whnf) | (refine zae ?_; conv => whnf) | conv => whnf))
  all_goals simp_all
 ·conv => whnf
  repeat' (first | (refine tSp (fun h => ?_) (fun h => ?_) <;> conv => whnf) | ((try (refine Exists.intro none ?_; conv => whnf)); (with_reducible refine zaa (zoo x y) ?_); conv => whnf))
  all_goals (refine zah [] [] ?_; (conv => whnf); (refine wkx ?_; refine ⟨?_, ?_, ?_⟩ <;> (conv => whnf) <;> repeat' first | exact wkc | (with_reducible refine And.intro ?_ ?_) <;> first | exact wks | refine wko ?_ | refine wki ?_ | refine wkb ?_ | (refine zal ?_; conv => whnf) | (refine zad ?_; conv => whnf) | (refine zae ?_; conv => whnf) | conv => whnf))
  all_goals simp_all
def oneT (a b : Rft) (k : Int) : Prop := (entE a k).term = (entE b k).term
def metP (a b : Rft) (hi k : Int) : Prop := ∃ n : Int, k < n ∧ n ≤ hi ∧ oneT a b n
def zvp (a b : Rft) : Prop := lkB a = true → lkB b = true → ∀ k : Int, a.hard.base < k → b.hard.base < k → k ≤ lastR a → k ≤ lastR b → (∃ n : Int, k ≤ n ∧ n ≤ lastR a ∧ n ≤ lastR b ∧ oneT a b n) → (entE a k).nrm = (entE b k).nrm
theorem z0m (a b : Rft) (hi k : Int) (h : k ≤ hi) : dec (metP a b hi (k - 1)) = (dec (metP a b hi k) || ((entE a k).term == (entE b k).term)) := by
 rw [Bool.eq_iff_iff, Bool.or_eq_true, zes, zes, beq_iff_eq]
 constructor
 ·rintro ⟨n, h1, h2, h3⟩
  by_cases e : n = k
  ·subst e; exact .inr h3
  ·exact .inl ⟨n, by omega, h2, h3⟩
 ·rintro (⟨n, h1, h2, h3⟩ | h3)
  ·exact ⟨n, by omega, h2, h3⟩
  ·exact ⟨k, by omega, h, h3⟩
set_option maxHeartbeats 1000000 in
theorem c_bothM (a b : Rft) (sa : a.small) (sb : b.small) : CtrE Tryz.prog 63 [.ag a.enc, .ag b.enc, .cl 64 [.pt 1000000 0]] [(1000000, [bv false])] [] (bv (dec (zvp a b))) [(1000000, [.bad])] [] := by
 refine zc6 Tryz.func63 ?_; conv => whnf
 ((try (refine Exists.intro none ?_; conv => whnf)); (with_reducible refine zaa (c_has a) ?_); conv => whnf)
 (refine tSp (fun h => ?_) (fun h => ?_) <;> conv => whnf)
 ·(refine zah [] [] ?_; (conv => whnf); (refine wkx ?_; refine ⟨?_, ?_, ?_⟩ <;> (conv => whnf) <;> repeat' first | exact wkc | (with_reducible refine And.intro ?_ ?_) <;> first | exact wks | refine wko ?_ | refine wki ?_ | refine wkb ?_ | (refine zal ?_; conv => whnf) | (refine zad ?_; conv => whnf) | (refine zae ?_; conv => whnf) | conv => whnf))
  rw [zbm]; intro h1; rw [h] at h1; cases h1
 have ha := h
 ((try (refine Exists.intro none ?_; conv => whnf)); (with_reducible refine zaa (c_has b) ?_); conv => whnf)
 (refine tSp (fun h => ?_) (fun h => ?_) <;> conv => whnf)
 ·(refine zah [] [] ?_; (conv => whnf); (refine wkx ?_; refine ⟨?_, ?_, ?_⟩ <;> (conv => whnf) <;> repeat' first | exact wkc | (with_reducible refine And.intro ?_ ?_) <;> first | exact wks | refine wko ?_ | refine wki ?_ | refine wkb ?_ | (refine zal ?_; conv => whnf) | (refine zad ?_; conv => whnf) | (refine zae ?_; conv => whnf) | conv => whnf))
  rw [zbm]; intro _ h1; rw [h] at h1; cases h1
 have hb := h
 have ea := zin sa ha
 have eb := zin sb hb
 have ra := ze6.1 ha
 have rb := ze6.1 hb
 have la := sa.log
 have lb := sb.log
 have ca := zrj a.hard sa.len
 have cb := zrj b.hard sb.len
 rw [ea] at ca
 rw [eb] at cb
 ((try (refine Exists.intro none ?_; conv => whnf)); (with_reducible refine zaa (ca) ?_); conv => whnf)
 ((try (refine Exists.intro none ?_; conv => whnf)); (with_reducible refine zaa (cb) ?_); conv => whnf)
 generalize hhi : (if lastR b < lastR a then lastR b else lastR a) = hi
 have h1 : hi ≤ lastR a := by rw [← hhi]; split <;> omega
 have h2 : hi ≤ lastR b := by rw [← hhi]; split <;> omega
 have h3 : ∀ n, n ≤ lastR a → n ≤ lastR b → n ≤ hi := by intro n; rw [← hhi]; split <;> omega
 refine ze1 mixed (by kernel_rfl) (fun k : Int => k ≤ hi ∧ (k = hi ∨ (a.hard.base ≤ k ∧ b.hard.base ≤ k)) ∧ ∀ n : Int, a.hard.base < n → b.hard.base < n → k < n → n ≤ hi → (∃ m : Int, n ≤ m ∧ m ≤ hi ∧ oneT a b m) → (entE a n).nrm = (entE b n).nrm) (fun k => [(11, iv k)]) (fun k => [(1000000, [bv (dec (metP a b hi k))]), (3, a.enc), (4, b.enc)]) [] (fun k => (k - max a.hard.base b.hard.base).toNat) hi ⟨Int.le_refl _, .inl rfl, fun n _ _ h4 h5 => by omega⟩ ?_ ?_
 ·conv => whnf
  (refine wkx ?_; refine ⟨?_, ?_, ?_⟩ <;> (conv => whnf) <;> repeat' first | exact wkc | (with_reducible refine And.intro ?_ ?_) <;> first | exact wks | refine wko ?_ | refine wki ?_ | refine wkb ?_ | (refine zal ?_; conv => whnf) | (refine zad ?_; conv => whnf) | (refine zae ?_; conv => whnf) | conv => whnf)
  all_goals first | rfl | skip
  rw [zc1]
  rintro ⟨n, n1, n2, _⟩
  omega
 rintro k ⟨hk, hk2, hp⟩
 conv => whnf
 (refine tSp (fun h => ?_) (fun h => ?_) <;> conv => whnf)
 ·have hk3 : a.hard.base < k ∧ b.hard.base < k := by split at h <;> omega
  have hik : isI k := by unfold isI; unfold lastR at h1; omega
  have hms := z0m a b hi k hk
  ((try (refine Exists.intro none ?_; conv => whnf)); (with_reducible refine zaa (zeu a sa.len sa.base ha k hik) ?_); conv => whnf)
  ((try (refine Exists.intro none ?_; conv => whnf)); (with_reducible refine zaa (zeu b sb.len sb.base hb k hik) ?_); conv => whnf)
  ((refine Exists.intro (some ([(1000000, 1000000)], [], [])) ?_); (conv => whnf); first | ((with_reducible refine ziu (zqd (dec (metP a b hi k)) k (entE a k) (entE b k)) ?_); conv => whnf))
  (refine tSp (fun h => ?_) (fun h => ?_) <;> conv => whnf)
  ·(refine zah [] [] ?_; (conv => whnf); (refine wkx ?_; refine ⟨?_, ?_, ?_⟩ <;> (conv => whnf) <;> repeat' first | exact wkc | (with_reducible refine And.intro ?_ ?_) <;> first | exact wks | refine wko ?_ | refine wki ?_ | refine wkb ?_ | (refine zal ?_; conv => whnf) | (refine zad ?_; conv => whnf) | (refine zae ?_; conv => whnf) | conv => whnf))
   rw [zc1]
   intro hh
   rw [← hms] at h
   simp only [Bool.or_eq_false_iff, Bool.not_eq_false', decide_eq_false_iff_not, zes] at h
   obtain ⟨⟨n, n1, n2, n3⟩, h⟩ := h
   exact h (hh ha hb k hk3.1 hk3.2 (by omega) (by omega) ⟨n, by omega, by omega, by omega, n3⟩)
  ·refine ⟨k - 1, ⟨⟨by omega, .inr (by omega), ?_⟩, by omega⟩, ?_⟩
   ·intro n n1 n2 n3 n4 n5
    by_cases en : n = k
    ·subst en
     rw [← hms] at h
     simp only [Bool.or_eq_true, Bool.not_eq_true', decide_eq_true_eq, zoh] at h
     rcases h with h | h
     ·exfalso
      obtain ⟨m, m1, m2, m3⟩ := n5
      exact h ⟨m, by omega, m2, m3⟩
     ·exact h
    ·exact hp n n1 n2 (by omega) n4 n5
   ·conv => whnf
    (refine wkx ?_; refine ⟨?_, ?_, ?_⟩ <;> (conv => whnf) <;> repeat' first | exact wkc | (with_reducible refine And.intro ?_ ?_) <;> first | exact wks | refine wko ?_ | refine wki ?_ | refine wkb ?_ | (refine zal ?_; conv => whnf) | (refine zad ?_; conv => whnf) | (refine zae ?_; conv => whnf) | conv => whnf)
    all_goals first | rfl | exact hms.symm | skip
    exact zai (by omega) (by unfold lastR at h1; omega)
 ·have hk3 : k ≤ a.hard.base ∨ k ≤ b.hard.base := by split at h <;> omega
  (refine zah [] [] ?_; (conv => whnf); (refine wkx ?_; refine ⟨?_, ?_, ?_⟩ <;> (conv => whnf) <;> repeat' first | exact wkc | (with_reducible refine And.intro ?_ ?_) <;> first | exact wks | refine wko ?_ | refine wki ?_ | refine wkb ?_ | (refine zal ?_; conv => whnf) | (refine zad ?_; conv => whnf) | (refine zae ?_; conv => whnf) | conv => whnf))
  rw [zbm]
  rintro _ _ n n1 n2 n3 n4 ⟨m, m1, m2, m3, m4⟩
  exact hp n n1 n2 (by omega) (h3 n n3 n4) ⟨m, m1, h3 m m2 m3, m4⟩
noncomputable def znm (a b : Rft) : Bool := dec (zvp a b)
theorem ztk (a b : Rft) (sa : a.small) (sb : b.small) : Ctr Tryz.prog 62 [.ag a.enc, .ag b.enc] (bv (znm a b)) [] := by
 refine sBody Tryz.func62 ?_; conv => whnf
 ((refine Exists.intro (some ([(1000000, 5)], [], [])) ?_); (conv => whnf); first | ((with_reducible refine ziu (c_bothM a b sa sb) ?_); conv => whnf))
 exact zab rfl rfl
theorem zwv (l : List Rft) (hl : l.length ≤ maxLen) (hs : ∀ r ∈ l, r.small) : Ctr Tryz.prog 23 [.sl 40 (l.map Rft.enc)] (bv (dec (zep znm l))) [] := by
 refine sBody Tryz.func23 ?_; conv => whnf
 ((try (refine Exists.intro none ?_; conv => whnf)); (with_reducible refine zaa (zpn l hl 62 znm (fun a ha b hb => ztk a b (hs a ha) (hs b hb))) ?_); conv => whnf)
 exact zab rfl rfl
theorem zb9 {kb : List Nat} {rn : List (Nat × Nat)} {fz : List (Nat × Bool × Nat × List (List PV))} {k n : Nat} {b : Bool} {sz : Nat} {rows : List (List PV)} (h : (k, b, sz, rows) ∈ fz) (hn : n = rows.length) : WkV kb rn fz (.ow k 0 n) (.sl sz rows) := by
 subst hn
 simp only [WkV]
 exact .inr (.inr ⟨k, 0, _, b, rows, rfl, h, by omega, by simp⟩)
theorem zak (r : Rft) (h : r.small) : Ctr Tryz.prog 32 [.ag r.enc] (.ag r.enc) [] := by
 refine Ctr.frz (zkz r h.snap h.log h.reads) (zae ?_)
 conv => whnf
 repeat' (first | exact rfl | ((with_reducible refine And.intro ?_ ?_) <;> (first | (with_reducible exact zaf _ rfl) | exact zb9 (b := false) (List.Mem.head _) rfl | exact zb9 (b := false) (List.Mem.tail _ (List.Mem.head _)) rfl | exact zb9 (b := false) (List.Mem.tail _ (List.Mem.tail _ (List.Mem.head _))) rfl | (conv => whnf))))
noncomputable def callR (c : VCall) : Int := if c.client < 1 ∨ 4 < c.client ∨ c.seq < 1 ∨ 1099511627776 < c.seq then 1 else cmdR c.cmd
theorem zkn (c : VCall) : Ctr Tryz.prog 167 [.ag c.enc] (iv (callR c)) [] := by
 refine sBody Tryz.func167 ?_; conv => whnf
 repeat' (first | (refine tSp (fun h => ?_) (fun h => ?_) <;> conv => whnf) | ((try (refine Exists.intro none ?_; conv => whnf)); (with_reducible refine zaa (c_rCmd c.cmd) ?_); conv => whnf))
 all_goals (refine zab rfl (congrArg (fun n : Int => iv n) ?_))
 all_goals (unfold callR)
 all_goals (try simp_all)
 all_goals (try ((repeat' split) <;> first | omega | simp_all | skip))
noncomputable def zeroC (c : VCall) : Bool := decide (c.client = 0 ∧ c.seq = 0 ∧ c.cmd.kind = 0 ∧ c.cmd.key = bz) && (zeroV c.cmd.old && zeroV c.cmd.val)
theorem zn5 (v : VVal) : v.nrm = vz.nrm ↔ zeroV v = true := by
 rw [VVal.nrm_eq, zsj, zeroV, decide_eq_true_eq]
theorem zux (c : VCall) : c.nrm = kz.nrm ↔ zeroC c = true := by
 rw [VCall.nrm_eq, VCmd.nrm_eq, zeroC, Bool.and_eq_true, Bool.and_eq_true, decide_eq_true_eq, ← zn5, ← zn5]
 constructor
 ·rintro ⟨h1, h2, h3, h4, h5, h6⟩; exact ⟨⟨h1, h2, h3, h4⟩, h5, h6⟩
 ·rintro ⟨⟨h1, h2, h3, h4⟩, h5, h6⟩; exact ⟨h1, h2, h3, h4, h5, h6⟩
theorem zsn (c : VCall) : Ctr Tryz.prog 228 [.ag c.enc] (bv (zeroC c)) [] := by
 refine sBody Tryz.func228 ?_; conv => whnf
 ((try (refine Exists.intro none ?_; conv => whnf)); (with_reducible refine zaa (c_kCall c kz) ?_); conv => whnf)
 refine zab rfl (congrArg (fun n : Bool => bv n) ?_)
 rw [Bool.eq_iff_iff, decide_eq_true_eq, zux]
theorem zsw (c : Conf) : Ctr Tryz.prog 229 [.ag c.enc] (bv (decide (c = cz))) [] := by
 refine sBody Tryz.func229 ?_; conv => whnf
 ((try (refine Exists.intro none ?_; conv => whnf)); (with_reducible refine zaa (zkj c cz) ?_); conv => whnf)
 exact zab rfl rfl
noncomputable def zeo (x : Ent) : Bool :=
 if x.kind = 0 then zeroC x.call && decide (x.conf = cz) else
 if x.kind = 1 then decide (callR x.call = 0) && decide (x.conf = cz) else
 if x.kind = 2 then zeroC x.call && confB x.conf else false
theorem zzk (x : Ent) : Ctr Tryz.prog 219 [.ag x.enc] (bv (zeo x)) [] := by
 refine sBody Tryz.func219 ?_; conv => whnf
 repeat' (first | (refine tSp (fun h => ?_) (fun h => ?_) <;> conv => whnf) | ((try ((refine Exists.intro none ?_); (conv => whnf))); first | ((with_reducible refine zaa (zsn x.call) ?_); conv => whnf) | ((with_reducible refine zaa (zsw x.conf) ?_); conv => whnf) | ((with_reducible refine zaa (zkn x.call) ?_); conv => whnf) | ((with_reducible refine zaa (zhl x.conf) ?_); conv => whnf)))
 all_goals (refine zab rfl (congrArg (fun n : Bool => bv n) ?_))
 all_goals (unfold zeo)
 all_goals (try simp_all)
noncomputable def rowB : List Ent → Int → Int → Bool
 | [], _, _ => true
 | x :: l, b, t => (decide (max b 1 ≤ x.term ∧ x.term ≤ t) && zeo x) && rowB l x.term t
def behind (l : List Ent) (b : Int) (i : Nat) : Int := match (l.take i).getLast? with
 | none => b
 | some x => x.term
theorem zee (l : List Ent) (b : Int) : behind l b 0 = b := by simp [behind]
theorem zbj {l : List Ent} {b : Int} {i : Nat} (h : i < l.length) : behind l b (i + 1) = (l[i]'h).term := by
 have e : (l.take (i + 1)).getLast? = some (l[i]'h) := by rw [List.take_succ_eq_append_getElem h, List.getLast?_append]; rfl
 unfold behind
 rw [e]
theorem zfy : ∀ (l : List Ent) (b t : Int), rowB l b t = true ↔ ∀ i (h : i < l.length), max (behind l b i) 1 ≤ (l[i]'h).term ∧ (l[i]'h).term ≤ t ∧ zeo (l[i]'h) = true
 | [], b, t => by simp [rowB]
 | x :: l, b, t => by
  simp only [rowB, Bool.and_eq_true, decide_eq_true_eq, zfy l x.term t]
  constructor
  ·rintro ⟨⟨⟨h1, h2⟩, h3⟩, h4⟩ i hi
   cases i with
   | zero => rw [zee]; exact ⟨h1, h2, h3⟩
   | succ i =>
    have := h4 i (by simpa using hi)
    have e : behind (x :: l) b (i + 1) = behind l x.term i := by
     cases i with
     | zero => rw [zee, zbj (by simp)]; simp
     | succ i => rw [zbj (by simp at hi ⊢; omega), zbj (by simp at hi; omega)]; simp
    rw [e]; simpa using this
  ·intro h
   have h0 := h 0 (by simp)
   rw [zee] at h0
   refine ⟨⟨⟨h0.1, h0.2.1⟩, h0.2.2⟩, fun i hi => ?_⟩
   have := h (i + 1) (by simpa using hi)
   have e : behind (x :: l) b (i + 1) = behind l x.term i := by
    cases i with
    | zero => rw [zee, zbj (by simp)]; simp
    | succ i => rw [zbj (by simp; omega), zbj (by omega)]; simp
   rw [e] at this; simpa using this
theorem zcu (n lo hi : Int) : Ctr Tryz.prog 73 [iv n, iv lo, iv hi] (bv (decide (lo ≤ n ∧ n ≤ hi))) [] := by
 refine sBody Tryz.func73 ?_; conv => whnf
 repeat' (refine tSp (fun h => ?_) (fun h => ?_) <;> conv => whnf)
 all_goals (refine zab rfl (congrArg (fun b : Bool => bv b) ?_))
 all_goals (try simp_all)
 all_goals (try omega)
theorem c_row (l : List Ent) (hm : l.length ≤ maxLen) (b t : Int) : Ctr Tryz.prog 202 [.sl 16 (l.map Ent.enc), iv b, iv t] (bv (rowB l b t)) [] := by
 have hm' : l.length ≤ 9223372036854775807 := Nat.le_trans hm (by decide)
 refine sBody Tryz.func202 ?_; conv => whnf
 refine zbw mixed (by kernel_rfl) (fun i : Nat => i ≤ l.length ∧ ∀ j (hj : j < l.length), j < i → max (behind l b j) 1 ≤ (l[j]'hj).term ∧ (l[j]'hj).term ≤ t ∧ zeo (l[j]'hj) = true) (fun i => [(7, iv i), (1, iv (behind l b i))]) [] (fun i => l.length - i) 0 ⟨Nat.zero_le _, fun j _ h => absurd h (Nat.not_lt_zero _)⟩ ?_ ?_
 ·conv => whnf
  exact wkD
 rintro i ⟨hi, hp⟩
 conv => whnf
 (refine tSp (fun h => ?_) (fun h => ?_) <;> conv => whnf)
 ·simp only [List.length_map] at h
  have hlt : i < l.length := by omega
  have emax : (if (1 : Int) > behind l b i then 1 else behind l b i) = max (behind l b i) 1 := by split <;> omega
  (first | ((with_reducible refine And.intro (by omega) (Exists.intro _ (And.intro (zbp hlt) ?_))); conv => whnf))
  ((try (refine Exists.intro none ?_; conv => whnf)); (with_reducible refine zaa (zcu _ _ _) ?_); conv => whnf)
  (refine tSp (fun h => ?_) (fun h => ?_) <;> conv => whnf)
  ·refine zab rfl (congrArg (fun b : Bool => bv b) ?_)
   symm
   rw [← Bool.not_eq_true, zfy]
   intro hh
   have := hh i hlt
   have h2 := of_decide_eq_false h
   rw [emax] at h2
   exact h2 ⟨this.1, this.2.1⟩
  ·have h1 := of_decide_eq_true h
   rw [emax] at h1
   (first | ((with_reducible refine And.intro (by omega) (Exists.intro _ (And.intro (zbp hlt) ?_))); conv => whnf))
   ((try (refine Exists.intro none ?_; conv => whnf)); (with_reducible refine zaa (zzk (l[i]'hlt)) ?_); conv => whnf)
   (refine tSp (fun h => ?_) (fun h => ?_) <;> conv => whnf)
   ·refine zab rfl (congrArg (fun b : Bool => bv b) ?_)
    symm
    rw [← Bool.not_eq_true, zfy]
    intro hh
    have := hh i hlt
    rw [h] at this; cases this.2.2
   ·(first | ((with_reducible refine And.intro (by omega) (Exists.intro _ (And.intro (zbp hlt) ?_))); conv => whnf))
    refine ⟨i + 1, ⟨⟨by omega, ?_⟩, by omega⟩, ?_⟩
    ·intro j hj hji
     by_cases e : j = i
     ·subst e; exact ⟨h1.1, h1.2, h⟩
     ·exact hp j hj (by omega)
    ·rw [zbj hlt]
     conv => whnf
     exact wkD
 ·simp only [List.length_map] at h
  have : i = l.length := by omega
  subst this
  refine zab rfl (congrArg (fun b : Bool => bv b) ?_)
  symm
  rw [zfy]
  intro j hj
  exact hp j hj hj
structure HardA (h : Hrd) : Prop where
 t : 0 ≤ h.term ∧ h.term ≤ 1099511627776
 v : -1 ≤ h.vote ∧ h.vote ≤ 6
 b : 0 ≤ h.base ∧ h.base ≤ 1099511627776
 bt : 0 ≤ h.baseTerm ∧ h.baseTerm ≤ h.term
 z : h.baseTerm = 0 ↔ h.base = 0
noncomputable def hardB (h : Hrd) : Bool := dec (HardA h) && (confB h.baseConf && (decide (h.snap.length ≤ 16384 ∧ (0 < h.base ∨ h.snap.length = 0)) && rowB h.log h.baseTerm h.term))
set_option maxHeartbeats 2000000 in
theorem zmz (a : Hrd) (hm : a.log.length ≤ maxLen) : Ctr Tryz.prog 171 [.ag a.enc] (bv (hardB a)) [] := by
 have no : ¬ HardA a → hardB a = false := fun hn => by unfold hardB; rw [zc1 hn]; rfl
 have hz : ((a.baseTerm == 0) != (a.base == 0)) = true ↔ ¬ (a.baseTerm = 0 ↔ a.base = 0) := by
  rw [bne_iff_ne, ne_eq, Bool.eq_iff_iff, beq_iff_eq, beq_iff_eq]
 refine sBody Tryz.func171 ?_; conv => whnf
 ((try (refine Exists.intro none ?_; conv => whnf)); (with_reducible refine zaa (zcu _ _ _) ?_); conv => whnf)
 (refine tSp (fun h => ?_) (fun h => ?_) <;> conv => whnf)
 ·exact zab rfl (by rw [no (fun k => of_decide_eq_false h k.t)])
 have g1 := of_decide_eq_true h
 ((try (refine Exists.intro none ?_; conv => whnf)); (with_reducible refine zaa (zcu _ _ _) ?_); conv => whnf)
 (refine tSp (fun h => ?_) (fun h => ?_) <;> conv => whnf)
 ·exact zab rfl (by rw [no (fun k => of_decide_eq_false h k.v)])
 have g2 := of_decide_eq_true h
 ((try (refine Exists.intro none ?_; conv => whnf)); (with_reducible refine zaa (zcu _ _ _) ?_); conv => whnf)
 (refine tSp (fun h => ?_) (fun h => ?_) <;> conv => whnf)
 ·exact zab rfl (by rw [no (fun k => of_decide_eq_false h k.b)])
 have g3 := of_decide_eq_true h
 ((try (refine Exists.intro none ?_; conv => whnf)); (with_reducible refine zaa (zcu _ _ _) ?_); conv => whnf)
 (refine tSp (fun h => ?_) (fun h => ?_) <;> conv => whnf)
 ·exact zab rfl (by rw [no (fun k => of_decide_eq_false h k.bt)])
 have g4 := of_decide_eq_true h
 ((with_reducible refine And.intro (show Tryz.prog.underlying _ = some .bool by kernel_rfl) ?_); conv => whnf)
 (refine tSp (fun h => ?_) (fun h => ?_) <;> conv => whnf)
 ·exact zab rfl (by rw [no (fun k => hz.1 h k.z)])
 have g5 : a.baseTerm = 0 ↔ a.base = 0 := by
  apply Classical.byContradiction
  intro hn
  rw [hz.2 hn] at h; cases h
 have yes : dec (HardA a) = true := zbm ⟨g1, g2, g3, g4, g5⟩
 unfold hardB
 rw [yes, Bool.true_and]
 repeat' (first | (refine tSp (fun h => ?_) (fun h => ?_) <;> conv => whnf) | ((try ((refine Exists.intro none ?_); (conv => whnf))); first | ((with_reducible refine zaa (zhl a.baseConf) ?_); conv => whnf) | ((with_reducible refine zaa (c_row a.log hm _ _) ?_); conv => whnf)))
 all_goals (refine zab rfl (congrArg (fun b : Bool => bv b) ?_))
 all_goals (try simp only [List.length_map] at *)
 all_goals (try simp_all)
 all_goals (try omega)
end Go.Proofs
namespace Go.Pv
theorem zqc {P : Program} (hm : P.follows .mixedOrders = true) {f : Nat} {fn : Func} {code : Code} {args : List PV} {r : PV} {os : List (Nat × List (List PV))} (hf : P.funcs[f]? = some fn) (hb : fn.body = some code) (hname : (fn.name == "runtime.NumGoroutine") = false) (hok : zb0 code = true)
    (h : Tri P code (exitQ P fn.results.toList r os) ⟨args ++ List.replicate (fn.ntmps - args.length) .bad, [], []⟩) : Ctr P f args r os := by
 refine ⟨?_⟩
 intro w st vs hst hvs
 left
 refine ⟨by simp [callFunc, hf, hb]; simpa using hname, ?_⟩
 refine calls_of_wp hf hb ?_
 have hlen := hvs.length
 have hrel : Rel w (fun _ => False) (Base.of st) (zbu st) (CSt.st ⟨args ++ List.replicate (fn.ntmps - args.length) .bad, [], []⟩) { tmps := vs.toArray ++ Array.replicate (fn.ntmps - vs.toArray.size) undef, defers := [] } w := by
  refine ⟨{ os := rfl, tape := rfl, out := rfl, size := Nat.le_refl _, kept := fun _ _ _ => rfl, stlt := hst, stok := fun b hb => .inl hb, box := ?_, boxKey := ?_, obj := ?_, objKey := ?_, boxNe := ?_, objNe := ?_, boxObj := ?_, pinB := ?_, pinO := ?_ }, rfl, ?_, ?_⟩
  ·intro k ls hk; cases hk
  ·intro k b hk; cases hk
  ·intro k a b c hk; cases hk
  ·intro k L hk; cases hk
  ·intro k k' b hk; cases hk
  ·intro k k' o o' L L' hk; cases hk
  ·intro k k' b o L hk; cases hk
  ·intro k b hk; cases hk
  ·intro k b hk; cases hk
  ·simp [CSt.st, hlen]
  ·intro t
   simp only [CSt.st]
   rw [List.getD_eq_getElem?_getD, Array.getD_eq_getD_getElem?, List.getElem?_append, Array.getElem?_append]
   by_cases ht : t < args.length
   ·rw [if_pos ht, if_pos (by simp; omega)]
    obtain ⟨c, hc, hv⟩ := hvs.get t (p := args[t]) (by simp [ht])
    simp [ht, hc]
    exact hv
   ·rw [if_neg ht]
    rw [List.getElem?_replicate]
    split <;> simp [RV]
 refine wp_mono (h.run w (fun _ => False) (Base.of st) (zbu st) _ w hrel) ?_
 rintro e a' w' ⟨c', M', hr', hq⟩
 cases e with
 | ret =>
  obtain ⟨v, h1, M'', h2, h3⟩ := zf4 (fn := fn) hr' hq
  exact ⟨hr'.dfr, v, h1, v, M'', rfl, h2, h3⟩
 | normal =>
  obtain ⟨v, h1, M'', h2, h3⟩ := zf4 (fn := fn) hr' hq
  exact ⟨hr'.dfr, v, h1, v, M'', rfl, h2, h3⟩
 | exit i => exact hq.elim
 | goto i => exact hq.elim
 | panic ch => exact hq.elim
 | outgrown => exact hq.elim
theorem zbb {P : Program} (hm : P.follows .mixedOrders = true) {f : Nat} {fn : Func} {code : Code} {args : List PV} {r : PV} {bx bx' : List (Nat × List PV)} {ob ob' : List (Nat × Option (Bool × Nat × List (List PV)))} (hf : P.funcs[f]? = some fn) (hb : fn.body = some code) (hname : (fn.name == "runtime.NumGoroutine") = false) (hok : zb0 code = true)
    (h : Tri P code (zvw P fn.results.toList r bx' ob') ⟨args ++ List.replicate (fn.ntmps - args.length) .bad, bx, ob⟩) : CtrE P f args bx ob r bx' ob' := by
 refine ⟨?_⟩
 intro w X M vs h0 hvs
 left
 refine ⟨by simp [callFunc, hf, hb]; simpa using hname, ?_⟩
 refine calls_of_wp hf hb ?_
 have hlen := hvs.length
 have hrel : Rel w X (zgi M) M (CSt.st ⟨args ++ List.replicate (fn.ntmps - args.length) .bad, bx, ob⟩) { tmps := vs.toArray ++ Array.replicate (fn.ntmps - vs.toArray.size) undef, defers := [] } w := by
  refine ⟨h0, rfl, ?_, ?_⟩
  ·simp [CSt.st, hlen]
  ·intro t
   simp only [CSt.st]
   rw [List.getD_eq_getElem?_getD, Array.getD_eq_getD_getElem?, List.getElem?_append, Array.getElem?_append]
   by_cases ht : t < args.length
   ·rw [if_pos ht, if_pos (by simp; omega)]
    obtain ⟨c, hc, hv⟩ := hvs.get t (p := args[t]) (by simp [ht])
    simp [ht, hc]
    exact hv
   ·rw [if_neg ht]
    rw [List.getElem?_replicate]
    split <;> simp [RV]
 refine wp_mono (h.run w X (zgi M) M _ w hrel) ?_
 rintro e a' w' ⟨c', M', hr', hq⟩
 cases e with
 | ret =>
  obtain ⟨v, h1, M'', h2, h3⟩ := zer (fn := fn) hr' hq
  exact ⟨hr'.dfr, v, h1, v, M'', rfl, h2, h3⟩
 | normal =>
  obtain ⟨v, h1, M'', h2, h3⟩ := zer (fn := fn) hr' hq
  exact ⟨hr'.dfr, v, h1, v, M'', rfl, h2, h3⟩
 | exit i => exact hq.elim
 | goto i => exact hq.elim
 | panic ch => exact hq.elim
 | outgrown => exact hq.elim
theorem tri_seq {P : Program} (hm : P.follows .mixedOrders = true) {x y : Code} {Q : Exit → CSt → Prop} {c : CSt} (hok : zb0 x = true)
    (h : pwp P x c fun e c' => match e with | .normal => Tri P y Q c' | e => Q e c') : Tri P (.seq x y) Q c := by
 refine ⟨?_⟩
 intro w0 X S0 M a w hr
 refine wp_seq (wp_mono ((zb4 hm x c _ hok h).run w0 X S0 M a w hr) ?_)
 rintro e a' w' ⟨c', M', hr', hq⟩
 cases e with
 | normal => exact Tri.run hq w0 X S0 M' a' w' hr'
 | exit i => exact ⟨c', M', hr', hq⟩
 | goto i => exact ⟨c', M', hr', hq⟩
 | ret => exact ⟨c', M', hr', hq⟩
 | panic ch => exact ⟨c', M', hr', hq⟩
 | outgrown => exact ⟨c', M', hr', hq⟩
theorem Tri.wk' {P : Program} {code : Code} {Q : Exit → CSt → Prop} {c c' : CSt} (hw : Wk c c') (h : Tri P code Q c') : Tri P code Q c := by
 refine ⟨?_⟩
 intro w0 X S0 M a w hr
 obtain ⟨M', hr'⟩ := hw w0 X S0 M a w hr
 exact h.run w0 X S0 M' a w hr'
theorem tri_cut {P : Program} (hm : P.follows .mixedOrders = true) {x y : Code} {Q : Exit → CSt → Prop} {tm : List PV} {bx : List (Nat × List PV)} {ob : List (Nat × Option (Bool × Nat × List (List PV)))} (hok : zb0 x = true) {β : Type} (I : β → Prop) (V : β → List (Nat × PV)) (W : β → List (Nat × List PV)) (O : β → List (Nat × Option (Bool × Nat × List (List PV))))
    (h1 : pwp P x ⟨tm, bx, ob⟩ fun e c' => match e with | .normal => ∃ b rn, I b ∧ headK x tm (V b) fun tm' => wkK rn [] c' tm' (W b) (O b) | e => Q e c')
    (h2 : ∀ b, I b → headK x tm (V b) fun tm' => Tri P y Q ⟨tm', W b, O b⟩) : Tri P (.seq x y) Q ⟨tm, bx, ob⟩ := by
 refine ⟨?_⟩
 intro w0 X S0 M a w hr
 refine wp_seq (wp_mono ((zb4 hm x _ _ hok h1).run w0 X S0 M a w hr) ?_)
 rintro e a' w' ⟨c', M', hr', hq⟩
 cases e with
 | normal =>
  obtain ⟨b, rn, hI, hk⟩ := hq
  have h := h2 b hI
  rw [zc9] at hk h
  exact (Tri.wk' (zc8 hk) h).run w0 X S0 M' a' w' hr'
 | exit i => exact ⟨c', M', hr', hq⟩
 | goto i => exact ⟨c', M', hr', hq⟩
 | ret => exact ⟨c', M', hr', hq⟩
 | panic ch => exact ⟨c', M', hr', hq⟩
 | outgrown => exact ⟨c', M', hr', hq⟩
theorem tSeq {P : Program} {x y : Code} {Q : Exit → CSt → Prop} {c : CSt}
    (h : pwp P x c fun e c' => match e with | .normal => Tri P y Q c' | e => Q e c') (hm : P.follows .mixedOrders = true := by exact mixed) (hok : zb0 x = true := by kernel_rfl) : Tri P (.seq x y) Q c := tri_seq hm hok h
theorem tCut {P : Program} {x y : Code} {Q : Exit → CSt → Prop} {tm : List PV} {bx : List (Nat × List PV)} {ob : List (Nat × Option (Bool × Nat × List (List PV)))} {β : Type} (I : β → Prop) (V : β → List (Nat × PV)) (W : β → List (Nat × List PV)) (O : β → List (Nat × Option (Bool × Nat × List (List PV))))
    (h1 : pwp P x ⟨tm, bx, ob⟩ fun e c' => match e with | .normal => ∃ b rn, I b ∧ headK x tm (V b) fun tm' => wkK rn [] c' tm' (W b) (O b) | e => Q e c')
    (h2 : ∀ b, I b → headK x tm (V b) fun tm' => Tri P y Q ⟨tm', W b, O b⟩) (hm : P.follows .mixedOrders = true := by exact mixed) (hok : zb0 x = true := by kernel_rfl) : Tri P (.seq x y) Q ⟨tm, bx, ob⟩ := tri_cut hm hok I V W O h1 h2
theorem zvt {P : Program} {body : Code} {Q : Exit → CSt → Prop} {c : CSt} {β : Type} (I : β → Prop) (S : β → CSt) (μ : β → Nat) (b0 : β) (h0 : I b0) (hw : Wk c (S b0))
    (N : β → CSt → Prop) (hN : ∀ b c', N b c' → ∃ b', I b' ∧ μ b' < μ b ∧ Wk c' (S b')) (round : ∀ b, I b → Tri P body (loopQ Q (N b)) (S b)) : Tri P (.loop body) Q c := by
 refine ⟨?_⟩
 intro w0 X S0 M a w hr
 obtain ⟨M0, hr0⟩ := hw w0 X S0 M a w hr
 intro fb k cs
 have key : ∀ n b, μ b = n → I b → ∀ M a w, Rel w0 X S0 M (S b).st a w → ∃ e a' w', (∃ c' M', Rel w0 X S0 M' c'.st a' w' ∧ Q e c') ∧ Arrives P (lone (fb.at a (.code body :: .inLoop body :: k)) cs w) fb k cs e a' w' := by
  intro n
  induction n using Nat.strongRecOn with
  | _ n ih =>
   intro b hb hI M a w hr
   obtain ⟨e, a₁, w₁, ⟨c1, M1, hr1, hq⟩, harr⟩ := (round b hI).run w0 X S0 M a w hr fb (.inLoop body :: k) cs
   cases e with
   | normal =>
    obtain ⟨b', hI', hlt, hwk⟩ := hN b c1 hq
    obtain ⟨M2, hr2⟩ := hwk w0 X S0 M1 a₁ w₁ hr1
    obtain ⟨e₂, a₂, w₂, hq₂, harr₂⟩ := ih (μ b') (hb ▸ hlt) b' rfl hI' M2 a₁ w₁ hr2
    exact ⟨e₂, a₂, w₂, hq₂, .of_steps (Steps.trans harr (.one step_inLoop)) harr₂⟩
   | exit id => exact ⟨_, a₁, w₁, ⟨c1, M1, hr1, hq⟩, .pass (x := .inLoop body) rfl (fun _ _ => .inl (by simp)) harr⟩
   | goto l => exact ⟨_, a₁, w₁, ⟨c1, M1, hr1, hq⟩, .pass (x := .inLoop body) rfl (fun _ _ => .inl (by simp)) harr⟩
   | ret => exact ⟨_, a₁, w₁, ⟨c1, M1, hr1, hq⟩, .pass (x := .inLoop body) rfl (fun _ _ => .inl (by simp)) harr⟩
   | panic ch => exact ⟨_, a₁, w₁, ⟨c1, M1, hr1, hq⟩, .pass (x := .inLoop body) rfl (fun _ _ => .inl (by simp)) harr⟩
   | outgrown => exact ⟨_, a₁, w₁, ⟨c1, M1, hr1, hq⟩, .pass (x := .inLoop body) rfl (fun _ _ => .inl (by simp)) harr⟩
 obtain ⟨e, a', w', hq, harr⟩ := key _ b0 rfl h0 M0 a w hr0
 exact ⟨e, a', w', hq, .of_steps (.one step_loop) harr⟩
theorem zhd {P : Program} {body : Code} {Q : Exit → CSt → Prop} {tm : List PV} {bx : List (Nat × List PV)} {ob : List (Nat × Option (Bool × Nat × List (List PV)))} {β : Type} (I : β → Prop) (V : β → List (Nat × PV)) (W : β → List (Nat × List PV)) (O : β → List (Nat × Option (Bool × Nat × List (List PV)))) (rn0 : List (Nat × Nat)) (μ : β → Nat) (b0 : β) (h0 : I b0)
    (hw : headK body tm (V b0) fun tm' => wkK rn0 [] ⟨tm, bx, ob⟩ tm' (W b0) (O b0))
    (round : ∀ b, I b → headK body tm (V b) fun tm' => Tri P body (loopQ Q fun c' => ∃ b' rn, (I b' ∧ μ b' < μ b) ∧ headK body tm (V b') fun tm' => wkK rn [] c' tm' (W b') (O b')) ⟨tm', W b, O b⟩) : Tri P (.loop body) Q ⟨tm, bx, ob⟩ := by
 refine zvt I (fun b => ⟨headT body tm (V b), W b, O b⟩) μ b0 h0 ?_ (fun b c' => ∃ b' rn, (I b' ∧ μ b' < μ b) ∧ headK body tm (V b') fun tm' => wkK rn [] c' tm' (W b') (O b')) ?_ ?_
 ·rw [zc9] at hw
  exact zc8 hw
 ·rintro b c' ⟨b', rn, ⟨h1, h2⟩, h3⟩
  rw [zc9] at h3
  exact ⟨b', h1, h2, zc8 h3⟩
 ·intro b hb
  have h := round b hb
  rw [zc9] at h
  exact h
theorem zmw {P : Program} {x y : Code} {Q : Exit → CSt → Prop} {c : CSt}
    (h : Tri P x (fun e c' => match e with | .normal => Tri P y Q c' | e => Q e c') c) : Tri P (.seq x y) Q c := by
 refine ⟨?_⟩
 intro w0 X S0 M a w hr
 refine wp_seq (wp_mono (h.run w0 X S0 M a w hr) ?_)
 rintro e a' w' ⟨c', M', hr', hq⟩
 cases e with
 | normal => exact Tri.run hq w0 X S0 M' a' w' hr'
 | exit i => exact ⟨c', M', hr', hq⟩
 | goto i => exact ⟨c', M', hr', hq⟩
 | ret => exact ⟨c', M', hr', hq⟩
 | panic ch => exact ⟨c', M', hr', hq⟩
 | outgrown => exact ⟨c', M', hr', hq⟩
theorem zja {P : Program} {id : Nat} {body : Code} {Q : Exit → CSt → Prop} {c : CSt} (h : Tri P body (zjr id Q) c) : Tri P (.block id body) Q c := by
 refine ⟨?_⟩
 intro w0 X S0 M a w hr
 refine wp_block (wp_mono (h.run w0 X S0 M a w hr) ?_)
 rintro e a' w' ⟨c', M', hr', hq⟩
 cases e with
 | exit i =>
  simp only [Exit.inBlock]
  by_cases hi : i = id
  ·subst hi
   rw [if_pos rfl]
   simp only [zjr, Nat.beq_refl, cond_true] at hq
   exact ⟨c', M', hr', hq⟩
  ·rw [if_neg hi]
   simp only [zjr, zbo hi, cond_false] at hq
   exact ⟨c', M', hr', hq⟩
 | normal => exact ⟨c', M', hr', hq⟩
 | goto i => exact ⟨c', M', hr', hq⟩
 | ret => exact ⟨c', M', hr', hq⟩
 | panic ch => exact ⟨c', M', hr', hq⟩
 | outgrown => exact ⟨c', M', hr', hq⟩
theorem zzd {tm : List PV} {bx : List (Nat × List PV)} {ob : List (Nat × Option (Bool × Nat × List (List PV)))} (k off key sz : Nat) (ls : List PV) (hb : lkA bx k = some ls) (hs : ls[off]? = some .nl) (hk : lkA ob key = none) :
    Wk ⟨tm, bx, ob⟩ ⟨tm, setA bx k (ls.set off (.ow key 0 0)), (key, some (false, sz, [])) :: ob⟩ := by
 intro w0 X S0 M a w hr
 obtain ⟨M', h1, hle, L, hL, hn⟩ := hr.toHRel.born key sz hk
 refine ⟨M', ?_, hr.dfr, hr.len, fun t => RV.mono hle _ _ (hr.tmp t)⟩
 have e : lkA ((key, some (false, sz, [])) :: ob) = upd (lkA ob) [(key, some (false, sz, []))] := by
  funext j
  rw [za5]
  by_cases hk : j = key
  ·subst hk; simp [lkA]
  ·rw [if_neg hk]
   simp only [lkA]
   rw [zbo (fun e => hk e.symm)]; rfl
 show HRel w0 X S0 M' (lkA (setA bx k (ls.set off (.ow key 0 0)))) (lkA ((key, some (false, sz, [])) :: ob)) w
 rw [e]
 obtain ⟨b, T, cs, b1, b2, b3, b4⟩ := h1.box k ls hb
 refine ⟨h1.os, h1.tape, h1.out, h1.size, h1.kept, h1.stlt, h1.stok, ?_, ?_, h1.obj, h1.objKey, h1.boxNe, h1.objNe, h1.boxObj, h1.pinB, h1.pinO⟩
 ·intro j ms hj
  rw [zf8] at hj
  by_cases ej : j = k
  ·subst ej
   rw [if_pos rfl] at hj
   cases hj
   refine ⟨b, T, cs, b1, b2, b3, ?_⟩
   obtain ⟨c, hc, hv⟩ := b4.get off hs
   simp only [RV] at hv
   have hnew : RV M' w (.ow key 0 0) c := by
    simp only [RV]
    exact ⟨L, hL, .inl ⟨hn, rfl, hv⟩⟩
   have key2 : ∀ (off : Nat) (ls : List PV) (cs : List Value), RVL M' w ls cs → cs[off]? = some c → RVL M' w (ls.set off (.ow key 0 0)) cs := by
    intro off
    induction off with
    | zero =>
     intro ls cs h hc
     cases ls with
     | nil => simpa using h
     | cons p ls =>
      simp only [RVL] at h
      obtain ⟨c', r, rfl, _, h2⟩ := h
      simp at hc
      subst hc
      simp only [List.set_cons_zero, RVL]
      exact ⟨_, r, rfl, hnew, h2⟩
    | succ off ih =>
     intro ls cs h hc
     cases ls with
     | nil => simpa using h
     | cons p ls =>
      simp only [RVL] at h
      obtain ⟨c', r, rfl, h1, h2⟩ := h
      simp only [List.getElem?_cons_succ] at hc
      simp only [List.set_cons_succ, RVL]
      exact ⟨c', r, rfl, h1, ih ls r h2 hc⟩
   exact key2 off ls cs.toList b4 hc
  ·rw [if_neg ej] at hj
   exact h1.box j ms hj
 ·intro j b' hj
  rw [zf8]
  by_cases ej : j = k
  ·exact ⟨_, if_pos ej⟩
  ·rw [if_neg ej]; exact h1.boxKey j b' hj
def mv1 (K k : Nat) (p : PV) : PV :=
 match p with
 | .ow j lo len => match Nat.beq j K with
  | true => .ow k lo len
  | false => .ow j lo len
 | p => p
theorem mv1_ow (K k j lo len : Nat) : (j = K ∧ Pv.mv1 K k (.ow j lo len) = .ow k lo len) ∨ (j ≠ K ∧ Pv.mv1 K k (.ow j lo len) = .ow j lo len) := by
 cases hb : Nat.beq j K with
 | true => exact .inl ⟨Nat.eq_of_beq_eq_true hb, by unfold Pv.mv1; simp only [hb]⟩
 | false =>
  refine .inr ⟨fun e => ?_, ?_⟩
  ·subst e
   rw [show Nat.beq j j = true from Nat.beq_refl j] at hb
   cases hb
  ·unfold Pv.mv1
   simp only [hb]
theorem RV.mv1 {M M' : Mem} {w : World} {K k : Nat} (hle : M.Le M' w w) (h : ∀ L, M.ob K = some L → M'.ob k = some L) (p : PV) (v : Value) (hv : RV M w p v) : RV M' w (Pv.mv1 K k p) v := by
 cases p with
 | ow j lo len =>
  rcases mv1_ow K k j lo len with ⟨rfl, e⟩ | ⟨_, e⟩
  ·rw [e]
   simp only [RV] at hv ⊢
   obtain ⟨L, hL, h2⟩ := hv
   exact ⟨L, h L hL, h2⟩
  ·rw [e]; exact RV.mono hle _ _ hv
 | _ => exact RV.mono hle _ _ hv
theorem RVL.mv1 {M M' : Mem} {w : World} {K k : Nat} (hle : M.Le M' w w) (h : ∀ L, M.ob K = some L → M'.ob k = some L) : ∀ (ps : List PV) (cs : List Value), RVL M w ps cs → RVL M' w (ps.map (Pv.mv1 K k)) cs
 | [], cs, hv => by simpa [RVL] using hv
 | p :: ps, cs, hv => by
  simp only [RVL] at hv
  obtain ⟨c, r, rfl, h1, h2⟩ := hv
  simp only [List.map_cons, RVL]
  exact ⟨c, r, rfl, RV.mv1 hle h p c h1, RVL.mv1 hle h ps r h2⟩
def mvB (K k : Nat) (bx : List (Nat × List PV)) : List (Nat × List PV) := bx.map fun q => (q.1, q.2.map (Pv.mv1 K k))
theorem zp1 (K k : Nat) : ∀ (bx : List (Nat × List PV)) (j : Nat), lkA (mvB K k bx) j = (lkA bx j).map fun ls => ls.map (Pv.mv1 K k)
 | [], j => rfl
 | (i, ls) :: bx, j => by
  have ih := zp1 K k bx j
  unfold mvB at *
  simp only [List.map_cons, lkA]
  by_cases e : i = j
  ·subst e; simp
  ·rw [zbo e]; exact ih
theorem wk_mv {tm : List PV} {bx : List (Nat × List PV)} {ob : List (Nat × Option (Bool × Nat × List (List PV)))} (K k : Nat) {q : Bool × Nat × List (List PV)} (hK : lkA ob K = some (some q)) (hk : lkA ob k = none) :
    Wk ⟨tm, bx, ob⟩ ⟨tm.map (Pv.mv1 K k), mvB K k bx, (k, some q) :: (K, none) :: ob⟩ := by
 intro w0 X S0 M a w hr
 have h := hr.toHRel
 have hMk : M.ob k = none := h.ob_none hk
 have hKk : K ≠ k := fun e => by
  have hK' : lkA ob K = some (some q) := hK
  rw [e, hk] at hK'; cases hK'
 let M' : Mem := ⟨M.st, M.bx, fun j => if j = k then M.ob K else M.ob j⟩
 have hob : ∀ j, j ≠ k → M'.ob j = M.ob j := fun j hj => if_neg hj
 have hobk : M'.ob k = M.ob K := if_pos rfl
 have hle : M.Le M' w w := ⟨fun _ h => h, fun _ _ h => h, fun j L hj => by
  have : j ≠ k := fun e => by rw [e, hMk] at hj; cases hj
  rw [hob j this]; exact hj, fun _ _ => rfl⟩
 have hmv : ∀ L, M.ob K = some L → M'.ob k = some L := fun L hL => by rw [hobk]; exact hL
 have hO : ∀ j o, lkA ((k, some q) :: (K, none) :: ob) j = some o → (j = k ∧ o = some q) ∨ (j = K ∧ o = none) ∨ (j ≠ k ∧ j ≠ K ∧ lkA ob j = some o) := by
  intro j o hj
  by_cases e1 : j = k
  ·subst e1; simp [lkA] at hj; exact .inl ⟨rfl, hj.symm⟩
  ·by_cases e2 : j = K
   ·subst e2
    simp only [lkA] at hj
    rw [zbo (fun e => e1 e.symm)] at hj
    simp at hj
    exact .inr (.inl ⟨rfl, hj.symm⟩)
   ·simp only [lkA] at hj
    rw [zbo (fun e => e1 e.symm), zbo (fun e => e2 e.symm)] at hj
    exact .inr (.inr ⟨e1, e2, hj⟩)
 -- a key that is live, with what it was
 have hlive : ∀ j o L, lkA ((k, some q) :: (K, none) :: ob) j = some (some o) → M'.ob j = some L → ∃ j0, lkA ob j0 = some (some o) ∧ M.ob j0 = some L ∧ ((j = k ∧ j0 = K) ∨ (j ≠ k ∧ j ≠ K ∧ j0 = j)) := by
  intro j o L hj hL
  rcases hO j _ hj with ⟨rfl, e⟩ | ⟨_, e⟩ | ⟨e1, e2, hj⟩
  ·cases e
   rw [hobk] at hL
   exact ⟨K, hK, hL, .inl ⟨rfl, rfl⟩⟩
  ·cases e
  ·rw [hob j e1] at hL
   exact ⟨j, hj, hL, .inr ⟨e1, e2, rfl⟩⟩
 refine ⟨M', ⟨h.os, h.tape, h.out, h.size, h.kept, h.stlt, h.stok, ?_, ?_, ?_, ?_, h.boxNe, ?_, ?_, h.pinB, ?_⟩, hr.dfr, ?_, ?_⟩
 ·intro j ls hj
  have hj : lkA (mvB K k bx) j = some ls := hj
  rw [zp1] at hj
  cases hl : lkA bx j with
  | none => rw [hl] at hj; cases hj
  | some ls0 =>
   rw [hl] at hj
   cases hj
   obtain ⟨b, T, cs, g1, g2, g3, g4⟩ := h.box j ls0 hl
   exact ⟨b, T, cs, g1, g2, g3, RVL.mv1 hle hmv _ _ g4⟩
 ·intro j b hj
  obtain ⟨ls, hl⟩ := h.boxKey j b hj
  have hl : lkA bx j = some ls := hl
  exact ⟨_, by show lkA (mvB K k bx) j = _; rw [zp1, hl]; rfl⟩
 ·intro j fz sz rows hj
  rcases hO j _ hj with ⟨rfl, e⟩ | ⟨_, e⟩ | ⟨e1, e2, hj⟩
  ·simp only [Option.some.injEq] at e
   subst e
   obtain ⟨L, g1, g2, g3⟩ := h.obj K fz sz rows hK
   refine ⟨L, hmv L g1, g2, ?_⟩
   rcases g3 with g3 | ⟨g3, hf, ho, c, E, h5, h6, h7, h8, h9⟩
   ·exact .inl g3
   ·exact .inr ⟨g3, hf, ho, c, E, h5, h6, h7, h8, RVR.mono hle.cl _ _ _ h9⟩
  ·cases e
  ·obtain ⟨L, g1, g2, g3⟩ := h.obj j fz sz rows hj
   refine ⟨L, by rw [hob j e1]; exact g1, g2, ?_⟩
   rcases g3 with g3 | ⟨g3, hf, ho, c, E, h5, h6, h7, h8, h9⟩
   ·exact .inl g3
   ·exact .inr ⟨g3, hf, ho, c, E, h5, h6, h7, h8, RVR.mono hle.cl _ _ _ h9⟩
 ·intro j L hj
  show ∃ o, lkA ((k, some q) :: (K, none) :: ob) j = some o
  by_cases e1 : j = k
  ·subst e1; exact ⟨_, by simp [lkA]; rfl⟩
  ·by_cases e2 : j = K
   ·subst e2
    exact ⟨none, by simp only [lkA]; rw [zbo (fun e => e1 e.symm)]; simp⟩
   ·rw [hob j e1] at hj
    obtain ⟨o, ho⟩ := h.objKey j L hj
    exact ⟨o, by simp only [lkA]; rw [zbo (fun e => e1 e.symm), zbo (fun e => e2 e.symm)]; exact ho⟩
 ·intro j j' o o' L L' hj hj' hL hL' hn hn' heq
  obtain ⟨i, a1, a2, a3⟩ := hlive j _ L hj hL
  obtain ⟨i', b1, b2, b3⟩ := hlive j' _ L' hj' hL'
  have := h.objNe i i' o o' L L' a1 b1 a2 b2 hn hn' heq
  rcases a3 with ⟨a3, a4⟩ | ⟨a3, a4, a5⟩ <;> rcases b3 with ⟨b3, b4⟩ | ⟨b3, b4, b5⟩
  ·rw [a3, b3]
  ·exact absurd (by rw [← b5, ← this, a4]) b4
  ·exact absurd (by rw [← a5, this, b4]) a4
  ·rw [← a5, this, b5]
 ·intro j j' b o L hj hj' hL hn
  obtain ⟨i', b1, b2, _⟩ := hlive j' _ L hj' hL
  exact h.boxObj j i' b o L hj b1 b2 hn
 ·intro j L hj
  have := h.pinO j L hj
  have hjk : j ≠ k := fun e => by rw [e, hMk] at this; cases this
  rw [hob j hjk]; exact this
 ·have := hr.len
  show (tm.map (Pv.mv1 K k)).length = _
  rw [List.length_map]; exact this
 ·intro t
  have ht : RV M w (tm.getD t .bad) (a.tmps.getD t undef) := hr.tmp t
  show RV M' w ((tm.map (Pv.mv1 K k)).getD t .bad) _
  have := RV.mv1 hle hmv _ _ ht
  rw [List.getD_eq_getElem?_getD, List.getElem?_map]
  rw [List.getD_eq_getElem?_getD] at this
  cases hg : tm[t]? with
  | none => simp only [Option.map_none, Option.getD_none]; rw [hg] at this; simpa [Pv.mv1] using this
  | some p => simp only [Option.map_some, Option.getD_some]; rw [hg] at this; simpa using this
theorem Wk.trans' {a b c : CSt} (h1 : Wk a b) (h2 : Wk b c) : Wk a c := by
 intro w0 X S0 M ac w hr
 obtain ⟨M1, hr1⟩ := h1 w0 X S0 M ac w hr
 exact h2 w0 X S0 M1 ac w hr1
theorem tri_mv {P : Program} {code : Code} {Q : Exit → CSt → Prop} {tm : List PV} {bx : List (Nat × List PV)} {ob : List (Nat × Option (Bool × Nat × List (List PV)))} (K k : Nat) {q : Bool × Nat × List (List PV)} (hK : lkA ob K = some (some q)) (hk : lkA ob k = none)
    (g : Tri P code Q ⟨tm.map (Pv.mv1 K k), mvB K k bx, (k, some q) :: (K, none) :: ob⟩) : Tri P code Q ⟨tm, bx, ob⟩ := by
 refine ⟨?_⟩
 intro w0 X S0 M a w hr
 obtain ⟨M', hr'⟩ := wk_mv K k hK hk w0 X S0 M a w hr
 exact g.run w0 X S0 M' a w hr'
theorem z0b {c : CSt} {p r : PV} {bx' : List (Nat × List PV)} {ob' : List (Nat × Option (Bool × Nat × List (List PV)))} (K k : Nat) {q : Bool × Nat × List (List PV)} (hK : lkA c.ob K = some (some q)) (hk : lkA c.ob k = none)
    (h : ExitE ⟨c.tm, mvB K k c.bx, (k, some q) :: (K, none) :: c.ob⟩ (Pv.mv1 K k p) r bx' ob') : ExitE c p r bx' ob' :=
 ⟨Wk.trans' (wk_mv K k hK hk) h.ok⟩
theorem zsk {c : CSt} {p r : PV} {bx' : List (Nat × List PV)} {ob' : List (Nat × Option (Bool × Nat × List (List PV)))} (j off key sz : Nat) (ls : List PV) (hb : lkA c.bx j = some ls) (hs : ls[off]? = some .nl) (hk : lkA c.ob key = none)
    (h : ExitE ⟨c.tm, setA c.bx j (ls.set off (.ow key 0 0)), (key, some (false, sz, [])) :: c.ob⟩ p r bx' ob') : ExitE c p r bx' ob' :=
 ⟨Wk.trans' (zzd j off key sz ls hb hs hk) h.ok⟩
theorem wk_frz {tm : List PV} {bx : List (Nat × List PV)} {ob : List (Nat × Option (Bool × Nat × List (List PV)))} (K : Nat) {sz : Nat} {rows : List (List PV)} (hK : lkA ob K = some (some (false, sz, rows))) :
    Wk ⟨tm, bx, ob⟩ ⟨tm, bx, (K, some (true, sz, rows)) :: ob⟩ := by
 intro w0 X S0 M a w hr
 obtain ⟨M1, h1, hle, _⟩ := hr.toHRel.freezeAll [(K, false, sz, rows)] (fun q hq => by rw [List.mem_singleton.1 hq]; exact hK)
 refine ⟨M1, ?_, hr.dfr, hr.len, fun t => RV.mono hle _ _ (hr.tmp t)⟩
 have e : lkA ((K, some (true, sz, rows)) :: ob) = upd (lkA ob) (zbs [(K, false, sz, rows)]) := by
  funext j
  show _ = upd (lkA ob) [(K, some (true, sz, rows))] j
  rw [za5]
  by_cases hk : j = K
  ·subst hk; simp [lkA]
  ·rw [if_neg hk]
   simp only [lkA]
   rw [zbo (fun e => hk e.symm)]; rfl
 show HRel w0 X S0 M1 (lkA bx) (lkA ((K, some (true, sz, rows)) :: ob)) w
 rw [e]
 exact h1
theorem zxg {c : CSt} {p r : PV} {bx' : List (Nat × List PV)} {ob' : List (Nat × Option (Bool × Nat × List (List PV)))} (K : Nat) {sz : Nat} {rows : List (List PV)} (hK : lkA c.ob K = some (some (false, sz, rows)))
    (h : ExitE ⟨c.tm, c.bx, (K, some (true, sz, rows)) :: c.ob⟩ p r bx' ob') : ExitE c p r bx' ob' :=
 ⟨Wk.trans' (wk_frz K hK) h.ok⟩
theorem zys {tm : List PV} {bx : List (Nat × List PV)} {ob : List (Nat × Option (Bool × Nat × List (List PV)))} (k off K n : Nat) {sz : Nat} {rows : List (List PV)} (ls : List PV) (hb : lkA bx k = some ls) (hs : ls[off]? = some (.ow K 0 n)) (hn : n = rows.length) (hK : lkA ob K = some (some (true, sz, rows))) :
    Wk ⟨tm, bx, ob⟩ ⟨tm, setA bx k (ls.set off (.sl sz rows)), ob⟩ := by
 intro w0 X S0 M a w hr
 have h1 := hr.toHRel
 refine ⟨M, ?_, hr.dfr, hr.len, hr.tmp⟩
 show HRel w0 X S0 M (lkA (setA bx k (ls.set off (.sl sz rows)))) (lkA ob) w
 obtain ⟨b, T, cs, b1, b2, b3, b4⟩ := h1.box k ls hb
 refine ⟨h1.os, h1.tape, h1.out, h1.size, h1.kept, h1.stlt, h1.stok, ?_, ?_, h1.obj, h1.objKey, h1.boxNe, h1.objNe, h1.boxObj, h1.pinB, h1.pinO⟩
 ·intro j ms hj
  rw [zf8] at hj
  by_cases ej : j = k
  ·subst ej
   rw [if_pos rfl] at hj
   cases hj
   refine ⟨b, T, cs, b1, b2, b3, ?_⟩
   obtain ⟨c, hc, hv⟩ := b4.get off hs
   have hnew : RV M w (.sl sz rows) c := by
    have hq : ResE [] [] [(K, true, sz, rows)] (.ow K 0 n) (.sl sz ((rows.drop 0).take n)) := by
     simp only [ResE]
     exact .inr ⟨true, sz, rows, List.Mem.head _, by omega, rfl⟩
    have := ResE.sound h1 (fun q hq => by rw [List.mem_singleton.1 hq]; exact hK) _ _ c hq hv
    rw [List.drop_zero, hn, List.take_length] at this
    simp only [RV, zq2] at this ⊢
    exact this
   have key2 : ∀ (off : Nat) (ls : List PV) (cs : List Value), RVL M w ls cs → cs[off]? = some c → RVL M w (ls.set off (.sl sz rows)) cs := by
    intro off
    induction off with
    | zero =>
     intro ls cs h hc
     cases ls with
     | nil => simpa using h
     | cons p ls =>
      simp only [RVL] at h
      obtain ⟨c', r, rfl, _, h2⟩ := h
      simp at hc
      subst hc
      simp only [List.set_cons_zero, RVL]
      exact ⟨_, r, rfl, hnew, h2⟩
    | succ off ih =>
     intro ls cs h hc
     cases ls with
     | nil => simpa using h
     | cons p ls =>
      simp only [RVL] at h
      obtain ⟨c', r, rfl, h1, h2⟩ := h
      simp only [List.getElem?_cons_succ] at hc
      simp only [List.set_cons_succ, RVL]
      exact ⟨c', r, rfl, h1, ih ls r h2 hc⟩
   exact key2 off ls cs.toList b4 hc
  ·rw [if_neg ej] at hj
   exact h1.box j ms hj
 ·intro j b' hj
  rw [zf8]
  by_cases ej : j = k
  ·exact ⟨_, if_pos ej⟩
  ·rw [if_neg ej]; exact h1.boxKey j b' hj
theorem zps {c : CSt} {p r : PV} {bx' : List (Nat × List PV)} {ob' : List (Nat × Option (Bool × Nat × List (List PV)))} (k off K n : Nat) {sz : Nat} {rows : List (List PV)} (ls : List PV) (hb : lkA c.bx k = some ls) (hs : ls[off]? = some (.ow K 0 n)) (hn : n = rows.length) (hK : lkA c.ob K = some (some (true, sz, rows)))
    (h : ExitE ⟨c.tm, setA c.bx k (ls.set off (.sl sz rows)), c.ob⟩ p r bx' ob') : ExitE c p r bx' ob' :=
 ⟨Wk.trans' (zys k off K n ls hb hs hn hK) h.ok⟩
theorem zb2 {c : CSt} {p r : PV} {bx' : List (Nat × List PV)} {ob' : List (Nat × Option (Bool × Nat × List (List PV)))} (k off K n : Nat) {sz : Nat} {rows : List (List PV)} (ls : List PV) (hb : lkA c.bx k = some ls) (hs : ls[off]? = some (.ow K 0 n)) (hn : n = rows.length) (hK : lkA c.ob K = some (some (false, sz, rows)))
    (h : ExitE ⟨c.tm, setA c.bx k (ls.set off (.sl sz rows)), (K, some (true, sz, rows)) :: c.ob⟩ p r bx' ob') : ExitE c p r bx' ob' :=
 zxg K hK (zps k off K n ls hb hs hn (by simp [lkA]) h)
theorem zar {P : Program} {f : Nat} {ps qs : List PV} {r : PV} {b bx bx' : List (Nat × List PV)} {o ob ob' : List (Nat × Option (Bool × Nat × List (List PV)))} {K : PV → List (Nat × List PV) → List (Nat × Option (Bool × Nat × List (List PV))) → Prop} (h : CtrE P f qs bx ob r bx' ob') (e1 : ps = qs) (e2 : b = bx) (e3 : o = ob) (k : K r bx' ob') : ∃ r bx' ob', CtrE P f ps b o r bx' ob' ∧ K r bx' ob' := by
 subst e1 e2 e3
 exact ⟨r, bx', ob', h, k⟩
end Go.Pv
