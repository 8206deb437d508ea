import Derived.Test.YtbhfokahocgndabGreatC1
import Derived.Test.YtbhfokahocgndabGreatH2
import Derived.Test.YtbhfokahocgndabGreatY3
import Derived.Test.YtbhfokahocgndabGreatC24
import Derived.Test.YtbhfokahocgndabGreatPvV4
import Derived.Test.YtbhfokahocgndabGreatC47
import Derived.Test.YtbhfokahocgndabGreatC54
/- Contracts of functions: an entry is put into a leader's log. -/
set_option linter.unusedSimpArgs false
set_option linter.unusedVariables false
namespace Go.Proofs
open Go.Pv
set_option maxRecDepth 100000
abbrev logR (r : Rft) (x : Ent) : Hrd := { r.hard with log := r.hard.log ++ [x] }
noncomputable def addR (r : Rft) (x : Ent) : Rft := { r with hard := logR r x, mtch := r.mtch.put r.id.toNat (lastI (logR r x)), commit := zdt (logR r x) r.commit (r.mtch.put r.id.toNat (lastI (logR r x))) }
theorem zel {i : Int} (h : 0 ≤ i ∧ i < 7) : i.toNat = 0 ∨ i.toNat = 1 ∨ i.toNat = 2 ∨ i.toNat = 3 ∨ i.toNat = 4 ∨ i.toNat = 5 ∨ i.toNat = 6 := by omega
noncomputable def zle (l : List Ent) (r : Rft) : Bool := dec (∃ k, ∃ hk : k < l.length, ∃ y, entAt r.hard ((k : Int) + 1) = some y ∧ (k : Int) + 1 ≤ r.commit ∧ ¬ (l[k]'hk).nrm = y.nrm)
theorem zy4 {l : List Ent} {r : Rft} {k : Nat} (hk : k < l.length) {y : Ent} (he : entAt r.hard ((k : Int) + 1) = some y) (hc : (k : Int) + 1 ≤ r.commit) (hn : ¬ (l[k]'hk).nrm = y.nrm) : zle l r = true := zbm ⟨k, hk, y, he, hc, hn⟩
def mrgJ (l : List Ent) (r : Rft) : Nat := min (r.hard.log.length - ((l.length : Int) - r.hard.base).toNat) (r.commit - l.length).toNat
def mrgO (l : List Ent) (r : Rft) (j : Nat) : List Ent := l ++ (r.hard.log.drop ((l.length : Int) - r.hard.base).toNat).take j
noncomputable def mrgE (l : List Ent) (r : Rft) : Int := if lkB r = true then (if zle l r = true then 6 else if (l.length : Int) < r.hard.base then 7 else 0) else 6
theorem mrgO_0 (l : List Ent) (r : Rft) : mrgO l r 0 = l := by unfold mrgO; simp
theorem zwl {l : List Ent} {r : Rft} {j : Nat} (h : ((l.length : Int) - r.hard.base).toNat + j < r.hard.log.length) : mrgO l r (j + 1) = mrgO l r j ++ [r.hard.log[((l.length : Int) - r.hard.base).toNat + j]'h] := by
 unfold mrgO
 rw [List.take_succ_eq_append_getElem (by rw [List.length_drop]; omega), List.getElem_drop, List.append_assoc]
theorem mrgO_at {l : List Ent} {r : Rft} {j : Nat} (h : j ≤ mrgJ l r) : (mrgO l r j).length = l.length + j := by
 unfold mrgJ at h
 unfold mrgO
 rw [List.length_append, List.length_take, List.length_drop]; omega
theorem mrgE_ok {l : List Ent} {r : Rft} (e : mrgE l r = 0) : lkB r = true ∧ zle l r = false ∧ r.hard.base ≤ l.length := by
 unfold mrgE at e
 by_cases h1 : lkB r = true
 ·rw [if_pos h1] at e
  cases h2 : zle l r with
  | true => rw [if_pos h2] at e; omega
  | false =>
   rw [h2, if_neg (by decide)] at e
   by_cases h3 : (l.length : Int) < r.hard.base
   ·rw [if_pos h3] at e; omega
   ·exact ⟨h1, rfl, by omega⟩
 ·rw [if_neg h1] at e; omega
set_option maxHeartbeats 4000000 in
theorem zvu (l : List Ent) (hl : l.length ≤ 4294967) (r : Rft) (s : r.small) (hl2 : r.hard.log.length ≤ 4294967) (hE : mrgE l r = 0) :
    Ctr Tryz.prog 25 [.sl 16 (l.map Ent.enc), .ag r.enc] (.tu [.ow 0 0 ((mrgO l r (mrgJ l r)).map Ent.enc).length, iv 0]) [(16, (mrgO l r (mrgJ l r)).map Ent.enc)] := by
 have ch := c_has r
 obtain ⟨hB, hbad, hb⟩ := mrgE_ok hE
 rw [hB] at ch
 have hb0 := ze6.1 hB
 refine sBody Tryz.func25 ?_; conv => whnf
 ((try (refine Exists.intro none ?_; conv => whnf)); (with_reducible refine zaa (ch) ?_); conv => whnf)
 refine zbw mixed (by kernel_rfl) (fun k : Nat => k ≤ l.length ∧ ∀ i (hi : i < l.length), i < k → ∀ y, entAt r.hard ((i : Int) + 1) = some y → (i : Int) + 1 ≤ r.commit → (l[i]'hi).nrm = y.nrm) (fun k => [(18, iv k)]) [] (fun k => l.length - k) 0 ⟨Nat.zero_le _, fun i _ h => absurd h (Nat.not_lt_zero i)⟩ ?_ ?_
 ·conv => whnf
  exact wkD
 rintro k ⟨hk, hal⟩
 conv => whnf
 (refine tSp (fun h => ?_) (fun h => ?_) <;> conv => whnf)
 ·simp only [List.length_map] at h
  have hlt : k < l.length := by omega
  clear h
  have e1 : IntKind.i64.wrap ((k : Int) + 1) = (k : Int) + 1 := zai (by omega) (by omega)
  have c1 := zeu r s.len s.base hB ((k : Int) + 1) (by unfold isI; omega)
  have next : (∀ y, entAt r.hard ((k : Int) + 1) = some y → (k : Int) + 1 ≤ r.commit → (l[k]'hlt).nrm = y.nrm) → ∀ i (hi : i < l.length), i < k + 1 → ∀ y, entAt r.hard ((i : Int) + 1) = some y → (i : Int) + 1 ≤ r.commit → (l[i]'hi).nrm = y.nrm := fun hn i hi hik y hy hc => by
   by_cases ei : i = k
   ·subst ei; exact hn y hy hc
   ·exact hal i hi (by omega) y hy hc
  (first | ((with_reducible refine And.intro (by omega) (Exists.intro _ (And.intro (zbp hlt) ?_))); conv => whnf))
  rw [e1]
  cases he : entAt r.hard ((k : Int) + 1) with
  | none =>
   rw [show entE r ((k : Int) + 1) = ez from by unfold entE; rw [he]; rfl, he] at c1
   simp only [Option.isSome_none] at c1
   ((try (refine Exists.intro none ?_; conv => whnf)); (with_reducible refine zaa (c1) ?_); conv => whnf)
   refine ⟨k + 1, ⟨⟨by omega, next (fun y hy _ => by rw [he] at hy; cases hy)⟩, by omega⟩, ?_⟩
   conv => whnf
   exact wkD
  | some y =>
   rw [show entE r ((k : Int) + 1) = y from by unfold entE; rw [he]; rfl, he] at c1
   simp only [Option.isSome_some] at c1
   ((try (refine Exists.intro none ?_; conv => whnf)); (with_reducible refine zaa (c1) ?_); conv => whnf)
   rw [e1]
   (refine tSp (fun h => ?_) (fun h => ?_) <;> conv => whnf)
   ·have hc := h
    clear h
    have c2 := zoo (l[k]'hlt) y
    by_cases hn : (l[k]'hlt).nrm = y.nrm
    ·rw [decide_eq_true hn] at c2
     ((try (refine Exists.intro none ?_; conv => whnf)); (with_reducible refine zaa (c2) ?_); conv => whnf)
     refine ⟨k + 1, ⟨⟨by omega, next (fun z hz _ => by rw [he] at hz; injection hz with hz; rw [← hz]; exact hn)⟩, by omega⟩, ?_⟩
     conv => whnf
     exact wkD
    ·rw [decide_eq_false hn] at c2
     exfalso
     have := zy4 hlt he hc hn
     rw [this] at hbad; cases hbad
   ·refine ⟨k + 1, ⟨⟨by omega, next (fun _ _ hc => absurd hc (by omega))⟩, by omega⟩, ?_⟩
    conv => whnf
    exact wkD
 ·simp only [List.length_map] at h
  have ek : k = l.length := by omega
  subst ek
  clear h
  (refine tSp (fun h => ?_) (fun h => ?_) <;> conv => whnf)
  ·exfalso; simp only [List.length_map] at *; omega
  clear h
  ((try (refine Exists.intro none ?_; conv => whnf)); (with_reducible refine zaa (zkr l (by omega)) ?_); conv => whnf)
  (refine Exists.intro _ (And.intro rfl (And.intro (by intro q hq; first | (cases hq; done) | (simp only [List.mem_cons, List.not_mem_nil, or_false] at hq; rcases hq with rfl | rfl <;> (simp only [List.length_cons, List.length_nil]; omega)) | (simp only [List.mem_cons, List.not_mem_nil, or_false] at hq; subst hq; simp only [List.length_cons, List.length_nil]; omega)) (And.intro (by intro i hi; simp only [List.length_cons, List.length_nil, Nat.lt_one_iff, Nat.zero_add] at hi; subst hi; rfl) ?_))); conv => whnf)
  refine tFor (fun j : Nat => j ≤ mrgJ l r) (fun j => [(10, .ow 1000 0 ((mrgO l r j).map Ent.enc).length), (52, .bad)]) (fun _ => [(3, r.enc)]) (fun j => [(1000, some (false, 16, (mrgO l r j).map Ent.enc))]) [(1000, 832)] (fun j => mrgJ l r - j) 0 (Nat.zero_le _) ?_ ?_
  ·rw [mrgO_0]
   conv => whnf
   (refine wkx ?_; refine ⟨?_, ?_, ?_⟩ <;> (conv => whnf) <;> repeat' first | exact wkc | (with_reducible refine And.intro ?_ ?_) <;> first | exact wks | refine wko ?_ | refine wki ?_ | refine wkb ?_ | (refine zal ?_; conv => whnf) | (refine zad ?_; conv => whnf) | (refine zae ?_; conv => whnf) | conv => whnf)
   all_goals first | rfl | skip
  intro j hj
  have hol := mrgO_at hj
  have hJd : mrgJ l r = min (r.hard.log.length - ((l.length : Int) - r.hard.base).toNat) (r.commit - l.length).toNat := rfl
  conv => whnf
  have e1 : IntKind.i64.wrap ((((mrgO l r j).map Ent.enc).length : Int) + 1) = (l.length : Int) + j + 1 := by rw [List.length_map, hol, zai (by omega) (by omega)]; omega
  have n1 : ((mrgO l r j).map Ent.enc).length ≤ 4294967 * 3 := by rw [List.length_map, hol]; omega
  have c1 := zeu r s.len s.base hB ((l.length : Int) + j + 1) (by unfold isI; omega)
  have he := zfc (h := r.hard) (j := (l.length : Int) + j + 1) (m := ((l.length : Int) - r.hard.base).toNat + j) (by omega)
  rw [e1]
  by_cases hd : ((l.length : Int) - r.hard.base).toNat + j < r.hard.log.length
  ·rw [List.getElem?_eq_getElem hd] at he
   rw [show entE r ((l.length : Int) + j + 1) = r.hard.log[((l.length : Int) - r.hard.base).toNat + j]'hd from by unfold entE; rw [he]; rfl, he] at c1
   simp only [Option.isSome_some] at c1
   have s1 := zwl hd
   ((try (refine Exists.intro none ?_; conv => whnf)); (with_reducible refine zaa (c1) ?_); conv => whnf)
   rw [e1]
   (refine tSp (fun h => ?_) (fun h => ?_) <;> conv => whnf)
   ·have ej : j = mrgJ l r := by omega
    rw [← ej]
    refine zb6 [(0, 1000)] rfl ⟨rfl, True.intro⟩ (zad ⟨zb8 rfl rfl rfl, zaf _ rfl, rfl⟩)
   ·generalize hg : r.hard.log[((l.length : Int) - r.hard.base).toNat + j]'hd = g at *
    (refine And.intro rfl ?_; (conv => whnf); refine And.intro (And.intro (And.intro (by kernel_rfl) (And.intro (by simp) (And.intro (small (by simp only [List.length_cons, List.length_nil]; omega) (by kernel_rfl)) (And.intro (zag (by simp only [List.length_cons, List.length_nil]; omega)) (by intro r hr; rw [List.mem_singleton.1 hr]; rfl))))) (And.intro (by decide) rfl)) ?_; conv => whnf)
    refine ⟨j + 1, [(1000, 1200)], ⟨by omega, by omega⟩, ?_⟩
    rw [s1]
    conv => whnf
    exact wkD
  ·rw [List.getElem?_eq_none (by omega)] at he
   rw [show entE r ((l.length : Int) + j + 1) = ez from by unfold entE; rw [he]; rfl, he] at c1
   simp only [Option.isSome_none] at c1
   have ej : j = mrgJ l r := by omega
   ((try (refine Exists.intro none ?_; conv => whnf)); (with_reducible refine zaa (c1) ?_); conv => whnf)
   rw [← ej]
   refine zb6 [(0, 1000)] rfl ⟨rfl, True.intro⟩ (zad ⟨zb8 rfl rfl rfl, zaf _ rfl, rfl⟩)
theorem zxo {e : Int} (he : e ≠ 0) (b : Conf) : hitS (cz, e) b = false := by
 simp [hitS, he]
theorem zqm {x b : Conf} (hb : Cok b) : hitS (zct x) b = decide (x = b) := by
 unfold zct
 cases hc : confB x
 ·rw [if_neg (by simp), zxo (by decide)]
  symm
  apply decide_eq_false
  intro e; subst e
  rw [(zcf x).2 hb] at hc; cases hc
 ·simp [hitS]
theorem zq9 {a b : Conf} (ha : Cok a) (hb : Cok b) {n : Nat} (hn : n < 7) : nearI a b n = (zcz a n).any fun x => decide (x = b) := by
 have one := ha.one n
 have hw := zxd ha hn
 have b1 := ziq (x := a.learn) hn
 have b2 := ziq (x := a.lwit) hn
 have bf := zxz (c := a) hn
 unfold nearI zed zdk zex zcz
 rw [if_pos hw, if_pos hw, if_pos hw, if_pos hw]
 unfold free at bf
 revert one
 cases hf : tb a.full n <;> cases hwt : tb a.wit n <;> cases hl : tb a.learn n <;> cases hx : tb a.lwit n <;> intro one <;> simp [one4] at one <;> (simp only [hl] at b1; simp only [hx] at b2; simp only [hf, hwt, hl, hx] at bf; simp at b1 b2 bf; simp [b1, b2, bf, zqm hb, zxo]) <;> exact Bool.or_comm _ _
theorem zot (a : Conf) (p : Conf → Bool) : ∀ n, (zbt a n).any p = (List.range n).any fun i => (zcz a i).any p
 | 0 => rfl
 | n + 1 => by rw [List.range_succ]; simp only [zbt, List.any_append, zot a p n]; simp
theorem zr2 (a b : Conf) : nearL a b = nearR a b := by
 unfold nearL nearR
 cases hA : confB a
 ·rfl
 cases hB : confB b
 ·rfl
 have ha := (zcf a).1 hA
 have hb := (zcf b).1 hB
 simp only [Bool.true_and]
 rw [Bool.or_comm, zot]
 congr 1
 rw [Bool.eq_iff_iff, List.any_eq_true, List.any_eq_true]
 constructor
 ·rintro ⟨i, hi, h⟩; exact ⟨i, hi, by rw [zq9 ha hb (List.mem_range.1 hi)]; exact h⟩
 ·rintro ⟨i, hi, h⟩; exact ⟨i, hi, by rw [zq9 ha hb (List.mem_range.1 hi)] at h; exact h⟩
def zns (l : List Ent) (r : Rft) : Prop := lkB r = true ∧ ∀ k (hk : k < l.length), r.hard.base < (k : Int) + 1 → ∃ y, entAt r.hard ((k : Int) + 1) = some y ∧ (l[k]'hk).nrm = y.nrm
set_option maxHeartbeats 2000000 in
theorem c_Lasts (l : List Ent) (hl : l.length ≤ 4294967) (r : Rft) (s : r.small) : Ctr Tryz.prog 26 [.sl 16 (l.map Ent.enc), .ag r.enc] (bv (dec (zns l r))) [] := by
 have ch := c_has r
 by_cases hB : lkB r = true
 ·rw [hB] at ch
  have hb0 := ze6.1 hB
  refine sBody Tryz.func26 ?_; conv => whnf
  ((try (refine Exists.intro none ?_; conv => whnf)); (with_reducible refine zaa (ch) ?_); conv => whnf)
  refine zbw mixed (by kernel_rfl) (fun k : Nat => k ≤ l.length ∧ ∀ i (hi : i < l.length), i < k → r.hard.base < (i : Int) + 1 → ∃ y, entAt r.hard ((i : Int) + 1) = some y ∧ (l[i]'hi).nrm = y.nrm) (fun k => [(14, iv k)]) [] (fun k => l.length - k) 0 ⟨Nat.zero_le _, fun i _ h => absurd h (Nat.not_lt_zero i)⟩ ?_ ?_
  ·conv => whnf
   exact wkD
  rintro k ⟨hk, hal⟩
  conv => whnf
  (refine tSp (fun h => ?_) (fun h => ?_) <;> conv => whnf)
  ·simp only [List.length_map] at h
   have hlt : k < l.length := by omega
   clear h
   have e1 : IntKind.i64.wrap ((k : Int) + 1) = (k : Int) + 1 := zai (by omega) (by omega)
   have c1 := zeu r s.len s.base hB ((k : Int) + 1) (by unfold isI; omega)
   have next : (r.hard.base < (k : Int) + 1 → ∃ y, entAt r.hard ((k : Int) + 1) = some y ∧ (l[k]'hlt).nrm = y.nrm) → ∀ i (hi : i < l.length), i < k + 1 → r.hard.base < (i : Int) + 1 → ∃ y, entAt r.hard ((i : Int) + 1) = some y ∧ (l[i]'hi).nrm = y.nrm := fun hn i hi hik => by
    by_cases ei : i = k
    ·subst ei; exact hn
    ·exact hal i hi (by omega)
   (first | ((with_reducible refine And.intro (by omega) (Exists.intro _ (And.intro (zbp hlt) ?_))); conv => whnf))
   rw [e1]
   (refine tSp (fun h => ?_) (fun h => ?_) <;> conv => whnf)
   ·refine ⟨k + 1, ⟨⟨by omega, next (fun hb => absurd hb (by omega))⟩, by omega⟩, ?_⟩
    conv => whnf
    exact wkD
   ·have hb := h
    clear h
    rw [e1]
    cases he : entAt r.hard ((k : Int) + 1) with
    | none =>
     rw [show entE r ((k : Int) + 1) = ez from by unfold entE; rw [he]; rfl, he] at c1
     simp only [Option.isSome_none] at c1
     ((try (refine Exists.intro none ?_; conv => whnf)); (with_reducible refine zaa (c1) ?_); conv => whnf)
     exact zab rfl (congrArg bv (zc1 (fun hh => by obtain ⟨y, hy, _⟩ := hh.2 k hlt (by omega); rw [he] at hy; cases hy)).symm)
    | some y =>
     rw [show entE r ((k : Int) + 1) = y from by unfold entE; rw [he]; rfl, he] at c1
     simp only [Option.isSome_some] at c1
     have c2 := zoo (l[k]'hlt) y
     by_cases hn : (l[k]'hlt).nrm = y.nrm
     ·rw [decide_eq_true hn] at c2
      ((try (refine Exists.intro none ?_; conv => whnf)); (with_reducible refine zaa (c1) ?_); conv => whnf)
      ((try (refine Exists.intro none ?_; conv => whnf)); (with_reducible refine zaa (c2) ?_); conv => whnf)
      refine ⟨k + 1, ⟨⟨by omega, next (fun _ => ⟨y, he, hn⟩)⟩, by omega⟩, ?_⟩
      conv => whnf
      exact wkD
     ·rw [decide_eq_false hn] at c2
      ((try (refine Exists.intro none ?_; conv => whnf)); (with_reducible refine zaa (c1) ?_); conv => whnf)
      ((try (refine Exists.intro none ?_; conv => whnf)); (with_reducible refine zaa (c2) ?_); conv => whnf)
      exact zab rfl (congrArg bv (zc1 (fun hh => by obtain ⟨z, hz, hzn⟩ := hh.2 k hlt (by omega); rw [he] at hz; injection hz with hz; rw [← hz] at hzn; exact hn hzn)).symm)
  ·simp only [List.length_map] at h
   exact zab rfl (congrArg bv (zbm ⟨hB, fun i hi => hal i hi (by omega)⟩).symm)
 ·have hn : ¬ zns l r := fun hh => hB hh.1
  simp only [Bool.not_eq_true] at hB
  rw [hB] at ch
  rw [zc1 hn]
  refine sBody Tryz.func26 ?_; conv => whnf
  ((try (refine Exists.intro none ?_; conv => whnf)); (with_reducible refine zaa (ch) ?_); conv => whnf)
  exact zab rfl rfl
noncomputable def zd5 : Conf → List Ent → Bool
 | _, [] => true
 | c, x :: l => if x.kind = 2 then nearR c x.conf && zd5 x.conf l else zd5 c l
theorem zvb (c : Conf) {l : List Ent} {j : Nat} (h : j < l.length) : zd5 c (l.drop j) = if (l[j]'h).kind = 2 then nearR c (l[j]'h).conf && zd5 (l[j]'h).conf (l.drop (j + 1)) else zd5 c (l.drop (j + 1)) := by
 rw [List.drop_eq_getElem_cons h, zd5]
set_option maxHeartbeats 2000000 in
theorem c_Confs (l : List Ent) (hl : l.length ≤ 4294967) (c : Conf) : Ctr Tryz.prog 27 [.sl 16 (l.map Ent.enc), .ag c.enc] (bv (confB c && zd5 c l)) [] := by
 have ch := zj0 c
 cases hC : confB c
 ·rw [hC] at ch
  refine sBody Tryz.func27 ?_; conv => whnf
  ((try (refine Exists.intro none ?_; conv => whnf)); (with_reducible refine zaa (ch) ?_); conv => whnf)
  exact zab rfl rfl
 ·rw [hC] at ch
  refine sBody Tryz.func27 ?_; conv => whnf
  ((try (refine Exists.intro none ?_; conv => whnf)); (with_reducible refine zaa (ch) ?_); conv => whnf)
  refine ze1 mixed (by kernel_rfl) (fun b : Nat × Conf => b.1 ≤ l.length ∧ zd5 c l = zd5 b.2 (l.drop b.1)) (fun b => [(12, iv (b.1 : Nat))]) (fun b => [(3, b.2.enc)]) [] (fun b => l.length - b.1) (0, c) ⟨Nat.zero_le _, rfl⟩ ?_ ?_
  ·conv => whnf
   exact wkD
  rintro ⟨k, d⟩ ⟨hk, hal⟩
  simp only at hk hal
  conv => whnf
  (refine tSp (fun h => ?_) (fun h => ?_) <;> conv => whnf)
  ·simp only [List.length_map] at h
   have hlt : k < l.length := by omega
   clear h
   have hat := zvb d hlt
   (first | ((with_reducible refine And.intro (by omega) (Exists.intro _ (And.intro (zbp hlt) ?_))); conv => whnf))
   (refine tSp (fun h => ?_) (fun h => ?_) <;> conv => whnf)
   ·rw [if_neg h] at hat
    refine ⟨(k + 1, d), ⟨⟨by show k + 1 ≤ _; omega, hal.trans hat⟩, by show l.length - (k + 1) < l.length - k; omega⟩, ?_⟩
    conv => whnf
    exact wkD
   ·have h2 : (l[k]'hlt).kind = 2 := by first | exact h | exact Classical.byContradiction h
    rw [if_pos h2] at hat
    have c1 := c_Near d (l[k]'hlt).conf
    cases hn : nearR d (l[k]'hlt).conf with
    | false =>
     rw [hn] at c1 hat
     ((try (refine Exists.intro none ?_; conv => whnf)); (with_reducible refine zaa (c1) ?_); conv => whnf)
     exact zab rfl (by rw [hal, hat]; rfl)
    | true =>
     rw [hn] at c1 hat
     ((try (refine Exists.intro none ?_; conv => whnf)); (with_reducible refine zaa (c1) ?_); conv => whnf)
     refine ⟨(k + 1, (l[k]'hlt).conf), ⟨⟨by show k + 1 ≤ _; omega, hal.trans (by rw [hat]; rfl)⟩, by show l.length - (k + 1) < l.length - k; omega⟩, ?_⟩
     conv => whnf
     exact wkD
  ·simp only [List.length_map] at h
   exact zab rfl (by rw [hal, List.drop_eq_nil_of_le (by omega)]; rfl)
theorem zoe {h : Hrd} {i : Int} {s : List Int} (e : compE h i s = 0) : hardB h = true ∧ (h.base < i ∧ i ≤ lastI h ∧ i ≤ 1099511627776) ∧ ¬ 16384 < s.length := by
 unfold compE at e
 by_cases h1 : hardB h = true
 ·rw [if_pos h1] at e
  by_cases h2 : h.base < i ∧ i ≤ lastI h ∧ i ≤ 1099511627776
  ·rw [if_pos h2] at e
   by_cases h3 : 16384 < s.length
   ·rw [if_pos h3] at e; omega
   ·exact ⟨h1, h2, h3⟩
  ·rw [if_neg h2] at e; omega
 ·rw [if_neg h1] at e; omega
theorem zxi {h : Hrd} {i t : Int} {c : Conf} {s : List Int} (e : instE h i t c s = 0) : hardB h = true ∧ ((h.base < i ∧ i ≤ 1099511627776) ∧ (1 ≤ t ∧ t ≤ h.term ∧ h.baseTerm ≤ t)) ∧ confB c = true ∧ ¬ 16384 < s.length := by
 unfold instE at e
 by_cases h1 : hardB h = true
 ·rw [if_pos h1] at e
  by_cases h2 : (h.base < i ∧ i ≤ 1099511627776) ∧ (1 ≤ t ∧ t ≤ h.term ∧ h.baseTerm ≤ t)
  ·rw [if_pos h2] at e
   by_cases h3 : confB c = true
   ·rw [if_pos h3] at e
    by_cases h4 : 16384 < s.length
    ·rw [if_pos h4] at e; omega
    ·exact ⟨h1, h2, h3, h4⟩
   ·rw [if_neg h3] at e; omega
  ·rw [if_neg h2] at e; omega
 ·rw [if_neg h1] at e; omega
theorem zm4 {h : Hrd} {i t : Int} {c : Conf} {s : List Int} {q : Nat} (hi : i = h.base + q) (hq : q ≤ h.log.length) (hf : fits h i t = true) : instH h i t c s = cutH h q c s := by
 have ht : behind h.log h.baseTerm q = t := by
  unfold fits at hf
  simp only [Bool.and_eq_true, beq_iff_eq] at hf
  rw [← hf.2, zdi hi hq]
 unfold instH cutH
 rw [hf, if_pos rfl, show (i - h.base).toNat = q by omega, ht, hi]
theorem zz1 {h : Hrd} {i t : Int} {c : Conf} {s : List Int} (hh : hardB h = true) (h1 : (h.base < i ∧ i ≤ 1099511627776) ∧ (1 ≤ t ∧ t ≤ h.term ∧ h.baseTerm ≤ t)) (hc : confB c = true) (hs : s.length ≤ 16384) : hardB ⟨h.term, h.vote, i, t, c, s, []⟩ = true := by
 obtain ⟨hA, _, _, _⟩ := za2 hh
 have hb := hA.b
 unfold hardB
 rw [zbm (show HardA ⟨h.term, h.vote, i, t, c, s, []⟩ from ⟨hA.t, hA.v, by show 0 ≤ i ∧ i ≤ _; omega, by show 0 ≤ t ∧ t ≤ h.term; omega, by show t = 0 ↔ i = 0; omega⟩)]
 simp only [hc, Bool.and_true, Bool.true_and, decide_eq_true_eq, rowB]
 exact ⟨hs, .inl (by omega)⟩
theorem zpi (m : Arr) (n : Int) (i : Nat) : ∀ k : Nat, k ≤ 7 → tb (haveB m n k) i = true → n ≤ m.at i
 | 0, _, h => by
  rw [show haveB m n 0 = 0 from rfl, zek] at h
  cases h
 | k + 1, hk, h => by
  by_cases hc : n ≤ m.at k
  ·rw [show haveB m n (k + 1) = bor (haveB m n k) (shl 1 k) from if_pos hc, tb_or, Bool.or_eq_true] at h
   rcases h with h | h
   ·exact zpi m n i k (by omega) h
   ·rw [zec k i (by omega), decide_eq_true_eq] at h
    subst h; exact hc
  ·rw [show haveB m n (k + 1) = haveB m n k from if_neg hc] at h
   exact zpi m n i k (by omega) h
theorem zp6 (a : Arr) (x : Int) {k i : Nat} (hk : k < 7) (hi : i < 7) : (a.put k x).at i = if i = k then x else a.at i := by
 rcases (by omega : k = 0 ∨ k = 1 ∨ k = 2 ∨ k = 3 ∨ k = 4 ∨ k = 5 ∨ k = 6) with rfl | rfl | rfl | rfl | rfl | rfl | rfl <;>
 rcases (by omega : i = 0 ∨ i = 1 ∨ i = 2 ∨ i = 3 ∨ i = 4 ∨ i = 5 ∨ i = 6) with rfl | rfl | rfl | rfl | rfl | rfl | rfl <;> rfl
end Go.Proofs
