import Derived.Test.YtbhfokahocgndabGreatC1
/- Plain facts: steps of configurations. -/
set_option linter.unusedSimpArgs false
set_option linter.unusedVariables false
namespace Go.Proofs
open Go.Pv
set_option maxRecDepth 100000
def one4 (a b c d : Bool) : Bool := !(a && b) && !(a && c) && !(b && c) && !(a && d) && !(b && d) && !(c && d)
def any4 (a b c d : Bool) : Bool := a || b || c || d
theorem Cok.one {c : Conf} (h : Cok c) (i : Nat) : one4 (tb c.full i) (tb c.wit i) (tb c.learn i) (tb c.lwit i) = true := by
 have h1 := h.fw i; have h2 := h.fl i; have h3 := h.wl i; have h4 := h.fx i; have h5 := h.wx i; have h6 := h.lx i
 simp [one4, h1, h2, h3, h4, h5, h6]
theorem Cok.of {c : Conf} (f : Bits7 c.full) (w : Bits7 c.wit) (l : Bits7 c.learn) (x : Bits7 c.lwit) (i0 : Nat) (h0 : tb c.full i0 = true) (h : ∀ i, one4 (tb c.full i) (tb c.wit i) (tb c.learn i) (tb c.lwit i) = true) : Cok c := by
 refine ⟨f, w, l, x, ?_, ?_, ?_, ?_, ?_, ?_, ?_⟩
 ·intro e; rw [e, zek] at h0; cases h0
 all_goals (intro i; have := h i; revert this; unfold one4; cases tb c.full i <;> cases tb c.wit i <;> cases tb c.learn i <;> cases tb c.lwit i <;> simp)
theorem zom {n : Nat} (h : n < 7) : Bits7 (shl 1 n) := zmc (by
 rw [zgo n (by omega)]
 have : (2 : Nat) ^ n < 2 ^ 7 := Nat.pow_lt_pow_right (by decide) h
 generalize (2 : Nat) ^ n = m at this
 unfold isI; omega) fun i h7 _ => by rw [zec n i (by omega)]; simp; omega
theorem tb_all (c : Conf) (i : Nat) : tb (allB c) i = any4 (tb c.full i) (tb c.wit i) (tb c.learn i) (tb c.lwit i) := by
 unfold allB any4; rw [tb_or, tb_or, tb_or]
theorem zxd {c : Conf} (h : Cok c) {n : Nat} (hn : n < 7) : zdu c n = 0 := by
 unfold zdu; rw [if_pos ((zcf c).2 h), if_pos (by simp [zaj]; omega)]
def free (c : Conf) (n : Nat) : Prop := tb c.full n = false ∧ tb c.wit n = false ∧ tb c.learn n = false ∧ tb c.lwit n = false
theorem zxz {c : Conf} {n : Nat} (hn : n < 7) : band (allB c) (shl 1 n) = 0 ↔ free c n := by
 rw [ziq hn, tb_all]; unfold any4 free
 cases tb c.full n <;> cases tb c.wit n <;> cases tb c.learn n <;> cases tb c.lwit n <;> simp
noncomputable abbrev addL (c : Conf) (n : Nat) : Conf := ⟨c.full, c.wit, bor c.learn (shl 1 n), c.lwit⟩
noncomputable abbrev addX (c : Conf) (n : Nat) : Conf := ⟨c.full, c.wit, c.learn, bor c.lwit (shl 1 n)⟩
noncomputable abbrev proL (c : Conf) (n : Nat) : Conf := ⟨bor c.full (shl 1 n), c.wit, bandn c.learn (shl 1 n), c.lwit⟩
noncomputable abbrev proX (c : Conf) (n : Nat) : Conf := ⟨c.full, bor c.wit (shl 1 n), c.learn, bandn c.lwit (shl 1 n)⟩
noncomputable abbrev dele (c : Conf) (n : Nat) : Conf := ⟨bandn c.full (shl 1 n), bandn c.wit (shl 1 n), bandn c.learn (shl 1 n), bandn c.lwit (shl 1 n)⟩
theorem zfu (a b : Int) (i : Nat) : tb (bandn a b) i = (tb a i && !tb b i) := by
 by_cases h : i < 64
 ·exact zwk a b i h
 ·rw [show tb (bandn a b) i = false from BitVec.getLsbD_of_ge _ _ (by omega), show tb a i = false from BitVec.getLsbD_of_ge _ _ (by omega)]; rfl
theorem Conf.ext' {a b : Conf} (h1 : a.full = b.full) (h2 : a.wit = b.wit) (h3 : a.learn = b.learn) (h4 : a.lwit = b.lwit) : a = b := by
 cases a; cases b; simp_all
theorem Cok.ext {a b : Conf} (ha : Cok a) (hb : Cok b) (h : ∀ i, i < 7 → tb a.full i = tb b.full i ∧ tb a.wit i = tb b.wit i ∧ tb a.learn i = tb b.learn i ∧ tb a.lwit i = tb b.lwit i) : a = b :=
 Conf.ext' (ext7 ha.f hb.f fun i hi => (h i hi).1) (ext7 ha.w hb.w fun i hi => (h i hi).2.1) (ext7 ha.l hb.l fun i hi => (h i hi).2.2.1) (ext7 ha.x hb.x fun i hi => (h i hi).2.2.2)
theorem nat_of {i : Int} (h : 0 ≤ i ∧ i < 7) : ∃ n : Nat, i = n ∧ n < 7 := ⟨i.toNat, by omega, by omega⟩
theorem zr6 (c : Conf) {n : Nat} (hn : n < 7) : kindR c n = if tb c.full n then sFull else if tb c.wit n then sWit else if tb c.learn n then zlc else if tb c.lwit n then sLwit else sE := by
 unfold kindR
 rw [if_pos (by simp [zaj]; omega)]
 simp only [ne_eq, ziq hn, Bool.not_eq_false]
theorem zkj (a b : Conf) : Ctr Tryz.prog 137 [.ag a.enc, .ag b.enc] (bv (decide (a = b))) [] := by
 refine sBody Tryz.func137 ?_; conv => whnf
 repeat' (refine tSp (fun h => ?_) (fun h => ?_) <;> conv => whnf)
 all_goals (refine zab rfl ?_)
 all_goals (refine congrArg (fun b : Bool => bv b) ?_; symm)
 ·have e : a = b ↔ a.lwit = b.lwit := ⟨fun e => by rw [e], fun e => Conf.ext' (by assumption) (by assumption) (by assumption) e⟩
  rw [decide_eq_decide.2 e]; rfl
 all_goals (rw [decide_eq_false]; intro e; subst e; contradiction)
theorem c_Near1 (a : Conf) (i : Int) : Ctr Tryz.prog 142 [.ep a.enc, .ep [iv i]] (cev (zed a i false)) [] := by
 refine sBody Tryz.func142 ?_; conv => whnf
 ((try (refine Exists.intro none ?_; conv => whnf)); (with_reducible refine zaa (zwj a i false) ?_); conv => whnf)
 exact zab rfl rfl
theorem c_Near2 (a : Conf) (i : Int) : Ctr Tryz.prog 144 [.ep a.enc, .ep [iv i]] (cev (zed a i true)) [] := by
 refine sBody Tryz.func144 ?_; conv => whnf
 ((try (refine Exists.intro none ?_; conv => whnf)); (with_reducible refine zaa (zwj a i true) ?_); conv => whnf)
 exact zab rfl rfl
theorem c_Near3 (a : Conf) (i : Int) : Ctr Tryz.prog 145 [.ep a.enc, .ep [iv i]] (cev (zdk a i)) [] := by
 refine sBody Tryz.func145 ?_; conv => whnf
 ((try (refine Exists.intro none ?_; conv => whnf)); (with_reducible refine zaa (zxl a i) ?_); conv => whnf)
 exact zab rfl rfl
theorem c_Near4 (a : Conf) (i : Int) : Ctr Tryz.prog 147 [.ep a.enc, .ep [iv i]] (cev (zex a i)) [] := by
 refine sBody Tryz.func147 ?_; conv => whnf
 ((try (refine Exists.intro none ?_; conv => whnf)); (with_reducible refine zaa (z0l a i) ?_); conv => whnf)
 exact zab rfl rfl
theorem zks : EqOk Tryz.prog 23 := ⟨by kernel_rfl, by kernel_rfl, by kernel_rfl, by kernel_rfl⟩
theorem zlq (a b : Conf) : zgd (Tryz.prog.fieldsOf 23).toList a.enc b.enc = some (decide (a = b)) := by
 have h : zgd (Tryz.prog.fieldsOf 23).toList a.enc b.enc = some (a.full == b.full && (a.wit == b.wit && (a.learn == b.learn && (a.lwit == b.lwit && true)))) := by kernel_rfl
 rw [h]
 congr 1
 rw [Bool.eq_iff_iff]
 simp only [Bool.and_eq_true, beq_iff_eq, decide_eq_true_eq, and_true]
 exact ⟨fun ⟨h1, h2, h3, h4⟩ => Conf.ext' h1 h2 h3 h4, fun e => by subst e; exact ⟨rfl, rfl, rfl, rfl⟩⟩
def hitS (s : Conf × Int) (b : Conf) : Bool := s.2 == 0 && decide (s.1 = b)
noncomputable def stp (a : Conf) (i : Int) (k : Nat) : Conf × Int := match k with
 | 0 => zed a i false
 | 1 => zed a i true
 | 2 => zdk a i
 | _ => zex a i
noncomputable def nearI (a b : Conf) (i : Int) : Bool := hitS (zed a i false) b || (hitS (zed a i true) b || (hitS (zdk a i) b || hitS (zex a i) b))
noncomputable def nearR (a b : Conf) : Bool := confB a && (confB b && (decide (a = b) || (List.range 7).any fun i => nearI a b i))
set_option maxHeartbeats 2000000 in
theorem c_Near (a b : Conf) : Ctr Tryz.prog 72 [.ag a.enc, .ag b.enc] (bv (nearR a b)) [] := by
 refine sBody Tryz.func72 ?_; conv => whnf
 ((try (refine Exists.intro none ?_; conv => whnf)); (with_reducible refine zaa (zj0 a) ?_); conv => whnf)
 cases ha : confB a
 ·simp only [Bool.false_eq_true, if_false]
  conv => whnf
  exact zab rfl (by simp [nearR, ha])
 simp only [if_true]
 conv => whnf
 ((try (refine Exists.intro none ?_; conv => whnf)); (with_reducible refine zaa (zj0 b) ?_); conv => whnf)
 cases hb : confB b
 ·simp only [Bool.false_eq_true, if_false]
  conv => whnf
  exact zab rfl (by simp [nearR, hb])
 simp only [if_true]
 conv => whnf
 refine ⟨zks, _, zlq a b, ?_⟩
 conv => whnf
 (refine tSp (fun h => ?_) (fun h => ?_) <;> conv => whnf)
 ·exact zab rfl (by simp [nearR, ha, hb, h])
 have hne := h
 have yes : ∀ i : Nat, i < 7 → nearI a b i = true → nearR a b = true := by
  intro i hi h
  simp only [nearR, ha, hb, Bool.true_and, Bool.or_eq_true, List.any_eq_true]
  exact .inr ⟨i, List.mem_range.2 hi, h⟩
 refine ze1 mixed (by kernel_rfl) (fun i : Nat => i ≤ 7 ∧ ∀ j : Nat, j < i → nearI a b j = false) (fun i => [(21, iv i)]) (fun _ => [(2, a.enc), (3, b.enc)]) [] (fun i => 7 - i) 0 ⟨by decide, fun j h => absurd h (Nat.not_lt_zero _)⟩ ?_ ?_
 ·conv => whnf
  exact wkD
 rintro i ⟨hi, hp⟩
 conv => whnf
 (refine tSp (fun h => ?_) (fun h => ?_) <;> conv => whnf)
 ·refine ze1 mixed (by kernel_rfl) (fun k : Nat => k ≤ 4 ∧ ∀ j : Nat, j < k → hitS (stp a i j) b = false) (fun k => [(30, iv k)]) (fun _ => [(2, a.enc), (3, b.enc), (5, [iv i])]) [] (fun k => 4 - k) 0 ⟨by decide, fun j h => absurd h (Nat.not_lt_zero _)⟩ ?_ ?_
  ·conv => whnf
   exact wkD
  rintro k ⟨hk, hq⟩
  rcases (by omega : k = 0 ∨ k = 1 ∨ k = 2 ∨ k = 3 ∨ k = 4) with rfl | rfl | rfl | rfl | rfl
  ·conv => whnf
   ((with_reducible refine And.intro (by with_unfolding_all decide) ?_); refine Exists.intro _ (And.intro (by with_unfolding_all rfl) ?_); conv => whnf)
   ((try (refine Exists.intro none ?_; conv => whnf)); (with_reducible refine zaa (c_Near1 a i) ?_); conv => whnf)
   (refine tSp (fun h => ?_) (fun h => ?_) <;> conv => whnf)
   ·have h1 := h
    refine ⟨zks, _, zlq _ b, ?_⟩
    conv => whnf
    (refine tSp (fun h => ?_) (fun h => ?_) <;> conv => whnf)
    ·refine zab rfl ?_
     rw [yes i (by omega) (by simp [nearI, hitS, h1, h])]
    ·refine ⟨1, ⟨⟨by omega, ?_⟩, by omega⟩, ?_⟩
     ·intro j hj
      by_cases e : j = 0
      ·subst e; simp [hitS, stp, h]
      ·exact hq j (by omega)
     ·conv => whnf
      exact wkD
   ·refine ⟨1, ⟨⟨by omega, ?_⟩, by omega⟩, ?_⟩
    ·intro j hj
     by_cases e : j = 0
     ·subst e; simp [hitS, stp, h]
     ·exact hq j (by omega)
    ·conv => whnf
     exact wkD
  ·conv => whnf
   ((with_reducible refine And.intro (by with_unfolding_all decide) ?_); refine Exists.intro _ (And.intro (by with_unfolding_all rfl) ?_); conv => whnf)
   ((try (refine Exists.intro none ?_; conv => whnf)); (with_reducible refine zaa (c_Near2 a i) ?_); conv => whnf)
   (refine tSp (fun h => ?_) (fun h => ?_) <;> conv => whnf)
   ·have h1 := h
    refine ⟨zks, _, zlq _ b, ?_⟩
    conv => whnf
    (refine tSp (fun h => ?_) (fun h => ?_) <;> conv => whnf)
    ·refine zab rfl ?_
     rw [yes i (by omega) (by simp [nearI, hitS, h1, h])]
    ·refine ⟨2, ⟨⟨by omega, ?_⟩, by omega⟩, ?_⟩
     ·intro j hj
      by_cases e : j = 1
      ·subst e; simp [hitS, stp, h]
      ·exact hq j (by omega)
     ·conv => whnf
      exact wkD
   ·refine ⟨2, ⟨⟨by omega, ?_⟩, by omega⟩, ?_⟩
    ·intro j hj
     by_cases e : j = 1
     ·subst e; simp [hitS, stp, h]
     ·exact hq j (by omega)
    ·conv => whnf
     exact wkD
  ·conv => whnf
   ((with_reducible refine And.intro (by with_unfolding_all decide) ?_); refine Exists.intro _ (And.intro (by with_unfolding_all rfl) ?_); conv => whnf)
   ((try (refine Exists.intro none ?_; conv => whnf)); (with_reducible refine zaa (c_Near3 a i) ?_); conv => whnf)
   (refine tSp (fun h => ?_) (fun h => ?_) <;> conv => whnf)
   ·have h1 := h
    refine ⟨zks, _, zlq _ b, ?_⟩
    conv => whnf
    (refine tSp (fun h => ?_) (fun h => ?_) <;> conv => whnf)
    ·refine zab rfl ?_
     rw [yes i (by omega) (by simp [nearI, hitS, h1, h])]
    ·refine ⟨3, ⟨⟨by omega, ?_⟩, by omega⟩, ?_⟩
     ·intro j hj
      by_cases e : j = 2
      ·subst e; simp [hitS, stp, h]
      ·exact hq j (by omega)
     ·conv => whnf
      exact wkD
   ·refine ⟨3, ⟨⟨by omega, ?_⟩, by omega⟩, ?_⟩
    ·intro j hj
     by_cases e : j = 2
     ·subst e; simp [hitS, stp, h]
     ·exact hq j (by omega)
    ·conv => whnf
     exact wkD
  ·conv => whnf
   ((with_reducible refine And.intro (by with_unfolding_all decide) ?_); refine Exists.intro _ (And.intro (by with_unfolding_all rfl) ?_); conv => whnf)
   ((try (refine Exists.intro none ?_; conv => whnf)); (with_reducible refine zaa (c_Near4 a i) ?_); conv => whnf)
   (refine tSp (fun h => ?_) (fun h => ?_) <;> conv => whnf)
   ·have h1 := h
    refine ⟨zks, _, zlq _ b, ?_⟩
    conv => whnf
    (refine tSp (fun h => ?_) (fun h => ?_) <;> conv => whnf)
    ·refine zab rfl ?_
     rw [yes i (by omega) (by simp [nearI, hitS, h1, h])]
    ·refine ⟨4, ⟨⟨by omega, ?_⟩, by omega⟩, ?_⟩
     ·intro j hj
      by_cases e : j = 3
      ·subst e; simp [hitS, stp, h]
      ·exact hq j (by omega)
     ·conv => whnf
      exact wkD
   ·refine ⟨4, ⟨⟨by omega, ?_⟩, by omega⟩, ?_⟩
    ·intro j hj
     by_cases e : j = 3
     ·subst e; simp [hitS, stp, h]
     ·exact hq j (by omega)
    ·conv => whnf
     exact wkD
  ·conv => whnf
   refine ⟨i + 1, ⟨⟨by omega, ?_⟩, by omega⟩, ?_⟩
   ·intro j hj
    by_cases e : j = i
    ·subst e
     have q0 := hq 0 (by decide)
     have q1 := hq 1 (by decide)
     have q2 := hq 2 (by decide)
     have q3 := hq 3 (by decide)
     simp only [stp] at q0 q1 q2 q3
     simp [nearI, q0, q1, q2, q3]
    ·exact hp j (by omega)
   ·conv => whnf
    (refine wkx ?_; refine ⟨?_, ?_, ?_⟩ <;> (conv => whnf) <;> repeat' first | exact wkc | (with_reducible refine And.intro ?_ ?_) <;> first | exact wks | refine wko ?_ | refine wki ?_ | refine wkb ?_ | (refine zal ?_; conv => whnf) | (refine zad ?_; conv => whnf) | (refine zae ?_; conv => whnf) | conv => whnf)
    rw [zai (by omega) (by omega)]; rfl
 ·refine zab rfl ?_
  have : i = 7 := by omega
  subst this
  have e : ((List.range 7).any fun i => nearI a b i) = false := by
   rw [List.any_eq_false]
   intro j hj
   simp [hp j (List.mem_range.1 hj)]
  simp [nearR, hne, e]
def but (a b : Conf) (n : Nat) : Prop := ∀ j, j ≠ n → tb b.full j = tb a.full j ∧ tb b.wit j = tb a.wit j ∧ tb b.learn j = tb a.learn j ∧ tb b.lwit j = tb a.lwit j
theorem zo7 {x c : Conf} (h : hitS (zct x) c = true) : Cok x ∧ x = c := by
 unfold hitS zct at h
 split at h
 ·rename_i hc
  simp at h
  exact ⟨(zcf x).1 hc, h⟩
 ·simp at h
theorem tb_sh {n j : Nat} (hn : n < 7) (h : j ≠ n) : tb (shl 1 n) j = false := by
 rw [zec n j (by omega)]; simp; omega
theorem zir {a b : Conf} {i : Int} {k : Nat} (h : hitS (stp a i k) b = true) : ∃ n : Nat, i = n ∧ n < 7 ∧ Cok a ∧ Cok b ∧ but a b n := by
 have hw : ∀ e : Int, e ≠ 0 → hitS (cz, e) b = true → False := by
  intro e he hh; simp [hitS] at hh; exact he hh.1
 have fin : ∀ (x : Conf) (n : Nat), n < 7 → zdu a n = 0 → hitS (zct x) b = true → but a x n → ∃ m : Nat, (n : Int) = m ∧ m < 7 ∧ Cok a ∧ Cok b ∧ but a b m := by
  intro x n hn hw0 hh hb
  obtain ⟨h1, rfl⟩ := zo7 hh
  exact ⟨n, rfl, hn, (zcf a).1 (zi2 hw0).1, h1, hb⟩
 have start : zdu a i = 0 → ∃ n : Nat, i = n ∧ n < 7 := fun h0 => nat_of (zi2 h0).2
 unfold stp at h
 split at h
 ·unfold zed at h
  split at h
  ·rename_i h0
   obtain ⟨n, rfl, hn⟩ := start h0
   split at h
   ·simp only [Bool.false_eq_true, if_false] at h
    exact fin _ n hn h0 h fun j hj => by simp [tb_or, tb_sh hn hj]
   ·exact (hw 14 (by decide) h).elim
  ·rename_i h0; exact (hw _ h0 h).elim
 ·unfold zed at h
  split at h
  ·rename_i h0
   obtain ⟨n, rfl, hn⟩ := start h0
   split at h
   ·simp only [if_true] at h
    exact fin _ n hn h0 h fun j hj => by simp [tb_or, tb_sh hn hj]
   ·exact (hw 14 (by decide) h).elim
  ·rename_i h0; exact (hw _ h0 h).elim
 ·unfold zdk at h
  split at h
  ·rename_i h0
   obtain ⟨n, rfl, hn⟩ := start h0
   split at h
   ·split at h
    ·exact (hw 14 (by decide) h).elim
    ·exact fin _ n hn h0 h fun j hj => by simp [tb_or, zfu, tb_sh hn hj]
   ·exact fin _ n hn h0 h fun j hj => by simp [tb_or, zfu, tb_sh hn hj]
  ·rename_i h0; exact (hw _ h0 h).elim
 ·unfold zex at h
  split at h
  ·rename_i h0
   obtain ⟨n, rfl, hn⟩ := start h0
   split at h
   ·exact (hw 14 (by decide) h).elim
   ·exact fin _ n hn h0 h fun j hj => by simp [zfu, tb_sh hn hj]
  ·rename_i h0; exact (hw _ h0 h).elim
theorem zz2 {a b : Conf} (h : nearR a b = true) : Cok a ∧ Cok b ∧ ∃ n : Nat, n < 7 ∧ but a b n := by
 simp only [nearR, Bool.and_eq_true, Bool.or_eq_true, decide_eq_true_eq, List.any_eq_true] at h
 obtain ⟨ha, hb, h | ⟨i, _, h⟩⟩ := h
 ·subst h
  exact ⟨(zcf a).1 ha, (zcf a).1 hb, 0, by decide, fun j _ => ⟨rfl, rfl, rfl, rfl⟩⟩
 ·refine ⟨(zcf a).1 ha, (zcf b).1 hb, ?_⟩
  simp only [nearI, Bool.or_eq_true] at h
  rcases h with h | h | h | h
  ·obtain ⟨n, _, h1, _, _, h2⟩ := zir (k := 0) h; exact ⟨n, h1, h2⟩
  ·obtain ⟨n, _, h1, _, _, h2⟩ := zir (k := 1) h; exact ⟨n, h1, h2⟩
  ·obtain ⟨n, _, h1, _, _, h2⟩ := zir (k := 2) h; exact ⟨n, h1, h2⟩
  ·obtain ⟨n, _, h1, _, _, h2⟩ := zir (k := 3) h; exact ⟨n, h1, h2⟩
theorem znp {u v : Int} {n : Nat} (h : ∀ j, j ≠ n → tb u j = tb v j) : ∀ m, 2 * cnt (bor u v) m ≤ cnt u m + cnt v m + nb (decide (n < m))
 | 0 => by simp [cnt]
 | m + 1 => by
  have ih := znp h m
  simp only [cnt]
  rw [tb_or]
  by_cases e : m = n
  ·subst e
   rw [show decide (m < m) = false by simp] at ih
   rw [show decide (m < m + 1) = true by simp]
   simp only [nb_false, nb_true] at *
   rcases zg2 (tb u m) with e1 | e1 <;> rcases zg2 (tb v m) with e2 | e2 <;> cases hu : tb u m <;> cases hv : tb v m <;> simp [hu, hv] at * <;> omega
  ·rw [h m e]
   have : nb (decide (n < m)) = nb (decide (n < m + 1)) := by
    congr 1; exact decide_eq_decide.2 (by omega)
   rw [← this]
   cases tb v m <;> simp <;> omega
theorem zod {a b : Conf} {x y : Int} (h : nearR a b = true) (hx : za0 a x = true) (hy : za0 b y = true) : ∃ i, i < 7 ∧ tb x i = true ∧ tb y i = true := by
 apply Classical.byContradiction
 intro hn
 obtain ⟨_, _, n, hn7, hb⟩ := zz2 h
 rw [zk1] at hx hy
 have hv : ∀ j, j ≠ n → tb (zdb a) j = tb (zdb b) j := fun j hj => by
  obtain ⟨h1, h2, _, _⟩ := hb j hj
  rw [tb_or, tb_or, h1, h2]
 have h1 := ziy (x := band (zdb a) x) (y := band (zdb b) y) (z := bor (zdb a) (zdb b)) 7 (by
  intro i hi
  rw [zdd, zdd, tb_or (zdb a) (zdb b)]
  have : ¬ (tb x i = true ∧ tb y i = true) := fun h => hn ⟨i, hi, h⟩
  revert this
  cases tb (zdb a) i <;> cases tb (zdb b) i <;> cases tb x i <;> cases tb y i <;> simp)
 have h2 := znp hv 7
 rcases zg2 (decide (n < 7)) with e | e <;> rw [e] at h2 <;> unfold count at * <;> omega
def kind4 (f w l x : Bool) : ByteArray := if f then sFull else if w then sWit else if l then zlc else if x then sLwit else sE
theorem zt2 : ∀ x : Fin 128, ∀ n : Fin 7, x.val.testBit n.val = false → x.val ||| 2 ^ n.val = x.val + 2 ^ n.val := by decide +kernel
theorem zi4 {x : Int} {n : Nat} (hx : Bits7 x) (hn : n < 7) (h : tb x n = false) : x + shl 1 n = bor x (shl 1 n) := by
 obtain ⟨m, rfl⟩ := Int.eq_ofNat_of_zero_le hx.1
 have hm : m < 128 := by have := hx.2; omega
 rw [zib _ _ (by omega)] at h
 have e := zt2 ⟨m, hm⟩ ⟨n, hn⟩ h
 simp only at e
 have h2 : (2 : Nat) ^ n < 2 ^ 7 := Nat.pow_lt_pow_right (by decide) hn
 have hs := zgo n (by omega)
 have hb : Bits7 (bor (m : Int) (shl 1 n)) := zmx hx (zom hn)
 rw [hs] at *
 have hlt : m ||| 2 ^ n < 128 := Nat.or_lt_two_pow (n := 7) hm h2
 have e2 : ((m : Int) + ((2 ^ n : Nat) : Int)) = ((m ||| 2 ^ n : Nat) : Int) := by rw [e]; simp
 rw [e2]
 refine ext7 ⟨by omega, by omega⟩ hb fun i _ => ?_
 rw [tb_or, zib _ _ (by omega), zib _ _ (by omega), zib _ _ (by omega), Nat.testBit_or]
theorem zl9 {x : Int} {n : Nat} (hx : Bits7 x) (hn : n < 7) (h : tb x n = true) : x - shl 1 n = bandn x (shl 1 n) := by
 have hb : Bits7 (bandn x (shl 1 n)) := zln hx
 have h0 : tb (bandn x (shl 1 n)) n = false := by rw [zfu, zec n n (by omega)]; simp
 have e := zi4 hb hn h0
 have e2 : bor (bandn x (shl 1 n)) (shl 1 n) = x := ext7 (zmx hb (zom hn)) hx fun i _ => by
  rw [tb_or, zfu, zec n i (by omega)]
  by_cases ei : n = i
  ·subst ei; simp [h]
  ·simp [ei]
 rw [e2] at e
 omega
theorem zw3 {b : Int} {n : Nat} (hn : n < 7) : hasB b n = tb b n := zcv b n (by omega)
theorem kind_4 (c : Conf) {n : Nat} (hn : n < 7) : kind c n = kind4 (tb c.full n) (tb c.wit n) (tb c.learn n) (tb c.lwit n) := by
 unfold kind kind4
 rw [if_pos (by simp [zaj]; omega)]
 simp only [zw3 hn]
theorem shl_u {n : Nat} (hn : n < 7) : shl 1 (IntKind.u64.wrap n) = shl 1 n := by rw [zb1 (by omega) (by omega)]
theorem zu2 {n : Nat} (hn : n < 7) : 0 < shl 1 n ∧ shl 1 n ≤ 64 := by
 rw [zgo n (by omega)]
 have : (2 : Nat) ^ n ≤ 2 ^ 6 := Nat.pow_le_pow_right (by decide) (by omega)
 have h2 : 0 < (2 : Nat) ^ n := Nat.pow_pos (by decide)
 omega
def cfL (c : Conf) : List Ent → Conf
 | [] => c
 | x :: l => cfL (if x.kind = 2 then x.conf else c) l
theorem zgq : ∀ (c : Conf) (a b : List Ent), cfL c (a ++ b) = cfL (cfL c a) b
 | _, [], _ => rfl
 | c, x :: a, b => zgq (if x.kind = 2 then x.conf else c) a b
theorem zqx : ∀ (c : Conf) (l : List Ent), (∀ x ∈ l, ¬ x.kind = 2) → cfL c l = c
 | _, [], _ => rfl
 | c, x :: l, h => by
  have := zqx c l fun y hy => h y (List.mem_cons_of_mem _ hy)
  unfold cfL
  rw [if_neg (h x (List.mem_cons_self ..))]; exact this
theorem za4 {α : Type} {A B : List α} {n : Nat} (h : A.take n = B.take n) {m : Nat} (hm : m ≤ n) : A.take m = B.take m := by
 have := congrArg (List.take m) h
 rwa [List.take_take, List.take_take, Nat.min_eq_left hm] at this
theorem zb7 {α : Type} {A B : List α} {n : Nat} (h : A.take n = B.take n) {i : Nat} (hi : i < n) : A[i]? = B[i]? := by
 have : (A.take n)[i]? = (B.take n)[i]? := congrArg (fun l => l[i]?) h
 rwa [List.getElem?_take_of_lt hi, List.getElem?_take_of_lt hi] at this
theorem zdn {α : Type} {A B : List α} {n : Nat} (h : A.take n = B.take n) (hn : n ≤ B.length) : n ≤ A.length := by
 have := congrArg List.length h
 rw [List.length_take, List.length_take] at this
 omega
theorem zbv {α : Type} {A : List α} {i : Nat} {x : α} (h : A[i]? = some x) : i < A.length := by
 obtain ⟨h, _⟩ := List.getElem?_eq_some_iff.1 h
 exact h
theorem zd7 {α : Type} {A : List α} {i : Nat} {x : α} (h : A[i]? = some x) : x ∈ A := List.mem_of_getElem? h
theorem zci {α : Type} {A : List α} {i : Nat} (h : i < A.length) : ∃ x, A[i]? = some x := ⟨_, List.getElem?_eq_getElem h⟩
theorem zmb {α : Type} {A : List α} {p : Nat} {x : α} (h : x ∈ A.drop p) : ∃ i, p ≤ i ∧ A[i]? = some x := by
 obtain ⟨i, hi⟩ := List.mem_iff_getElem?.1 h
 rw [List.getElem?_drop] at hi
 exact ⟨p + i, by omega, hi⟩
theorem mem_mid {α : Type} {A : List α} {p a : Nat} {x : α} (h : x ∈ (A.take a).drop p) : ∃ i, p ≤ i ∧ i < a ∧ A[i]? = some x := by
 obtain ⟨i, hp, hi⟩ := zmb h
 have := zbv hi
 rw [List.length_take] at this
 rw [List.getElem?_take_of_lt (by omega)] at hi
 exact ⟨i, hp, by omega, hi⟩
theorem lcp : ∀ (A B : List Ent), ∃ p, p ≤ A.length ∧ p ≤ B.length ∧ A.take p = B.take p ∧ ∀ q, q ≤ A.length → A.take q = B.take q → q ≤ p
 | [], B => ⟨0, Nat.le_refl _, Nat.zero_le _, rfl, fun q h _ => h⟩
 | a :: A, [] => ⟨0, Nat.zero_le _, Nat.le_refl _, rfl, fun q h e => by
  cases q with
  | zero => exact Nat.le_refl _
  | succ q => simp at e⟩
 | a :: A, b :: B => by
  by_cases h : a = b
  ·obtain ⟨p, h1, h2, h3, h4⟩ := lcp A B
   refine ⟨p + 1, Nat.succ_le_succ h1, Nat.succ_le_succ h2, by rw [List.take_succ_cons, List.take_succ_cons, h, h3], fun q hq e => ?_⟩
   cases q with
   | zero => exact Nat.zero_le _
   | succ q =>
    rw [List.take_succ_cons, List.take_succ_cons] at e
    exact Nat.succ_le_succ (h4 q (Nat.le_of_succ_le_succ hq) (List.cons.inj e).2)
  ·refine ⟨0, Nat.zero_le _, Nat.zero_le _, rfl, fun q hq e => ?_⟩
   cases q with
   | zero => exact Nat.le_refl _
   | succ q =>
    rw [List.take_succ_cons, List.take_succ_cons] at e
    exact absurd (List.cons.inj e).1 h
def OneC (L : List Ent) (p : Nat) : Prop := ∀ a b x y, p ≤ a → a < b → L[a]? = some x → x.kind = 2 → L[b]? = some y → y.kind = 2 → False
theorem zvg (c : Conf) (L : List Ent) (p : Nat) (h : OneC L p) :
    cfL c L = cfL c (L.take p) ∨ ∃ a x, p ≤ a ∧ L[a]? = some x ∧ x.kind = 2 ∧ cfL c L = x.conf ∧ cfL c (L.take a) = cfL c (L.take p) := by
 by_cases hx : ∃ a x, p ≤ a ∧ L[a]? = some x ∧ x.kind = 2
 ·obtain ⟨a, x, hp, ha, hk⟩ := hx
  refine .inr ⟨a, x, hp, ha, hk, ?_, ?_⟩
  ·have hl := zbv ha
   have e : L = L.take a ++ (x :: L.drop (a + 1)) := by
    have e2 : L[a]'hl = x := by rw [List.getElem?_eq_getElem hl] at ha; exact Option.some.inj ha
    rw [← e2, ← List.drop_eq_getElem_cons hl, List.take_append_drop]
   have hn : ∀ y ∈ L.drop (a + 1), ¬ y.kind = 2 := fun y hy hk2 => by
    obtain ⟨b, hb, hy2⟩ := zmb hy
    exact h a b x y hp (by omega) ha hk hy2 hk2
   rw [e, zgq]
   show cfL (if x.kind = 2 then x.conf else _) _ = _
   rw [if_pos hk, zqx _ _ hn]
  ·have e : L.take a = L.take p ++ (L.take a).drop p := by
     have e2 := (List.take_append_drop p (L.take a)).symm
     rwa [List.take_take, Nat.min_eq_left hp] at e2
   rw [e, zgq]
   refine zqx _ _ fun y hy hk2 => ?_
   obtain ⟨b, hb, hba, hy2⟩ := mem_mid hy
   exact h b a y x hb hba hy2 hk2 ha hk
 ·refine .inl ?_
  have e : L = L.take p ++ L.drop p := (List.take_append_drop p L).symm
  have e2 : cfL c L = cfL (cfL c (L.take p)) (L.drop p) := by rw [← zgq, ← e]
  rw [e2]
  refine zqx _ _ fun y hy hk2 => ?_
  obtain ⟨b, hb, hy2⟩ := zmb hy
  exact hx ⟨b, y, hb, hy2, hk2⟩
structure Hist where
 c0 : Conf
 LL : Int → List Ent
 Cm : Int → Nat → Nat → Int → Prop
 VD : Nat → Int → Nat → List Ent → Prop
 AK : Nat → Int → Nat → Prop
def LM (H : Hist) (L : List Ent) : Prop := ∀ n x, L[n]? = some x → L.take (n + 1) = (H.LL x.term).take (n + 1)
def za6 (L : List Ent) : Int := match L.getLast? with
 | some x => x.term
 | none => 0
theorem zjn {L : List Ent} {x : Ent} (h : L[L.length - 1]? = some x) : za6 L = x.term := by
 unfold za6
 rw [List.getLast?_eq_getElem?, h]
structure Cand (H : Hist) (T : Int) (c : Nat) (D : List Ent) (Q : Int) : Prop where
 self : H.VD c T c D
 lm : LM H D
 lt : ∀ x ∈ D, x.term < T
 pos : 1 ≤ T
 q : za0 (cfL H.c0 D) Q = true
 vd : ∀ v, v < 7 → tb Q v = true → H.VD v T c D
def Cov (_ : Hist) (D : List Ent) (t : Int) (n : Nat) : Prop := t < za6 D ∨ (za6 D = t ∧ n ≤ D.length)
def zie (H : Hist) (T : Int) (D : List Ent) (Q : Int) : Prop := ∀ v t n x, v < 7 → tb Q v = true → H.AK v t n → t < T → 1 ≤ n → (H.LL t)[n - 1]? = some x → x.term = t → Cov H D t n ∨ ∃ T', t < T' ∧ T' < T ∧ H.LL T' ≠ [] ∧ ¬ (H.LL T').take n = (H.LL t).take n
def StrC (H : Hist) (T : Int) (D : List Ent) (Q : Int) : Prop := ∀ v t n k W x, v < 7 → tb Q v = true → H.Cm t n k W → H.AK v t n → t < T → 1 ≤ n → (H.LL t)[n - 1]? = some x → x.term = t → Cov H D t n ∨ ∃ T', t < T' ∧ T' < T ∧ H.LL T' ≠ [] ∧ ¬ (H.LL T').take n = (H.LL t).take n
theorem zie.c {H : Hist} {T : Int} {D : List Ent} {Q : Int} (h : zie H T D Q) : StrC H T D Q := fun v t n _ _ x h1 h2 _ h3 h4 h5 h6 h7 => h v t n x h1 h2 h3 h4 h5 h6 h7
structure Static (H : Hist) : Prop where
 llm : ∀ t, LM H (H.LL t)
 lle : ∀ t x, x ∈ H.LL t → x.term ≤ t
 led : ∀ t, H.LL t ≠ [] → ∃ c D Q, Cand H t c D Q ∧ zie H t D Q ∧ (H.LL t).take D.length = D ∧ ∀ n x, D.length ≤ n → (H.LL t)[n]? = some x → x.term = t
 akl : ∀ v t n, H.AK v t n → n ≤ (H.LL t).length
 vi : ∀ v T c D t n x, H.VD v T c D → H.AK v t n → t < T → 1 ≤ n → (H.LL t)[n - 1]? = some x → x.term = t → Cov H D t n ∨ ∃ T', t < T' ∧ T' ≤ T ∧ H.LL T' ≠ [] ∧ ¬ (H.LL T').take n = (H.LL t).take n
 vu : ∀ v T c D c' D', H.VD v T c D → H.VD v T c' D' → c = c' ∧ D = D'
 cm : ∀ t n k W, H.Cm t n k W → 1 ≤ n ∧ n ≤ k ∧ k ≤ (H.LL t).length ∧ (∃ x, (H.LL t)[n - 1]? = some x ∧ x.term = t) ∧ za0 (cfL H.c0 ((H.LL t).take k)) W = true ∧ ∀ v, v < 7 → tb W v = true → H.AK v t n
 own : ∀ T a x, (H.LL T)[a]? = some x → x.kind = 2 → x.term = T → ∃ n k W, H.Cm T n k W ∧ k ≤ a
 old : ∀ T a x b y, (H.LL T)[a]? = some x → x.kind = 2 → x.term = T → b < a → (H.LL T)[b]? = some y → y.kind = 2 → ∃ t n k W, H.Cm t n k W ∧ t ≤ T ∧ b + 1 ≤ n ∧ (H.LL t).take (b + 1) = (H.LL T).take (b + 1) ∧ (t = T → k ≤ a)
 nr : ∀ T a x, (H.LL T)[a]? = some x → x.kind = 2 → x.term = T → nearR (cfL H.c0 ((H.LL T).take a)) x.conf = true
theorem LM.get {H : Hist} {L : List Ent} (h : LM H L) {n : Nat} {x : Ent} (hx : L[n]? = some x) {m : Nat} (hm : m ≤ n) : (H.LL x.term)[m]? = L[m]? := (zb7 (h n x hx) (by omega)).symm
theorem LM.led {H : Hist} {L : List Ent} (h : LM H L) {n : Nat} {x : Ent} (hx : L[n]? = some x) : H.LL x.term ≠ [] := by
 intro e
 have := h.get hx (Nat.le_refl n)
 rw [e, hx] at this
 simp at this
theorem LM.mono {H : Hist} (S : Static H) {L : List Ent} (h : LM H L) {n m : Nat} {x y : Ent} (hx : L[n]? = some x) (hy : L[m]? = some y) (hm : m ≤ n) : y.term ≤ x.term := by
 have := h.get hx hm
 rw [hy] at this
 exact S.lle _ _ (zd7 this)
theorem Static.pos {H : Hist} (S : Static H) {t : Int} (h : H.LL t ≠ []) : 1 ≤ t := by
 obtain ⟨c, D, Q, hc, _⟩ := S.led t h
 exact hc.pos
theorem LM.near {H : Hist} (S : Static H) {L : List Ent} (h : LM H L) {a : Nat} {x : Ent} (hx : L[a]? = some x) (hk : x.kind = 2) : nearR (cfL H.c0 (L.take a)) x.conf = true := by
 have e := h a x hx
 have e2 := h.get hx (Nat.le_refl a)
 have := S.nr _ a x (e2.trans hx) hk rfl
 rwa [← za4 e (Nat.le_succ a)] at this
theorem LM.last {H : Hist} {L : List Ent} (h : LM H L) (hn : 1 ≤ L.length) : ∃ x, L[L.length - 1]? = some x ∧ za6 L = x.term ∧ (H.LL x.term).take L.length = L := by
 obtain ⟨x, hx⟩ := zci (A := L) (i := L.length - 1) (by omega)
 refine ⟨x, hx, zjn hx, ?_⟩
 have := h _ x hx
 rw [show L.length - 1 + 1 = L.length by omega, List.take_length] at this
 exact this.symm
theorem LM.mem {H : Hist} (S : Static H) {L : List Ent} (h : LM H L) {n : Nat} {x : Ent} (hx : L[n]? = some x) : x.term ≤ za6 L := by
 have hl := zbv hx
 obtain ⟨y, hy, e, _⟩ := h.last (by omega)
 rw [e]
 exact h.mono S hy hx (by omega)
theorem zui {H : Hist} (S : Static H) {A B : List Ent} {p : Nat} (hA : LM H A) (hB : LM H B) (e : A.take p = B.take p) (oA : OneC A p) (oB : OneC B p)
    (no : ∀ a b x y, p ≤ a → p ≤ b → A[a]? = some x → x.kind = 2 → B[b]? = some y → y.kind = 2 → False) {Q W : Int} (hQ : za0 (cfL H.c0 A) Q = true) (hW : za0 (cfL H.c0 B) W = true) :
    ∃ i, i < 7 ∧ tb Q i = true ∧ tb W i = true := by
 rcases zvg H.c0 A p oA with eA | ⟨a, x, hp, ha, hk, eA, eA2⟩
 ·rcases zvg H.c0 B p oB with eB | ⟨b, y, hp2, hb, hk2, eB, eB2⟩
  ·rw [eA, e] at hQ
   rw [eB] at hW
   obtain ⟨i, hi, h4, h5, h6⟩ := zo2 hQ hW
   exact ⟨i, hi, by first | exact h4 | exact h5 | exact h6, by first | exact h5 | exact h6 | exact h4⟩
  ·have hn := hB.near S hb hk2
   rw [eB2, ← e, ← eA] at hn
   rw [eB] at hW
   exact zod hn hQ hW
 ·rcases zvg H.c0 B p oB with eB | ⟨b, y, hp2, hb, hk2, eB, eB2⟩
  ·have hn := hA.near S ha hk
   rw [eA2, e, ← eB] at hn
   rw [eA] at hQ
   obtain ⟨i, hi, h1, h2⟩ := zod hn hW hQ
   exact ⟨i, hi, h2, h1⟩
  ·exact (no a b x y hp hp2 ha hk hb hk2).elim
def Keeps (H : Hist) (T : Int) (D : List Ent) : Prop := ∀ t n k W, H.Cm t n k W → t < T → D.take n = (H.LL t).take n
theorem zor {H : Hist} (S : Static H) {T : Int} (h : H.LL T ≠ []) (ih : ∀ c D Q, Cand H T c D Q → StrC H T D Q → Keeps H T D) : Keeps H T (H.LL T) := by
 obtain ⟨c, D, Q, hc, hst, hD, _⟩ := S.led T h
 intro t n k W hcm ht
 have hk := ih c D Q hc hst.c t n k W hcm ht
 have hn := (S.cm t n k W hcm)
 have : n ≤ D.length := zdn hk (by omega)
 rw [← hk, ← hD, List.take_take, Nat.min_eq_left this]
theorem zlm {H : Hist} (S : Static H) {T : Int} {c : Nat} {D : List Ent} {Q : Int} (hc : Cand H T c D Q) (hst : StrC H T D Q) (ih : ∀ T', T' < T → H.LL T' ≠ [] → Keeps H T' (H.LL T'))
    {t : Int} {n k : Nat} {W : Int} (hcm : H.Cm t n k W) (ht : t < T) (in1 : ∀ t' n' k' W', H.Cm t' n' k' W' → t' < t ∨ (t' = t ∧ k' < k) → D.take n' = (H.LL t').take n') : D.take n = (H.LL t).take n := by
 apply Classical.byContradiction
 intro hbad
 obtain ⟨hn1, hnk, hkl, ⟨xn, hxn, hxt⟩, hq, hak⟩ := S.cm t n k W hcm
 have hledt : H.LL t ≠ [] := by intro e; rw [e] at hkl; simp at hkl; omega
 have hDm := hc.lm
 -- the last term of D is at most t
 have hs : ∀ (i : Nat) (x : Ent), D[i]? = some x → x.term ≤ t := by
  intro i x hx
  have hl := zbv hx
  obtain ⟨y, hy, e, hy2⟩ := hDm.last (by omega)
  have hxy := hDm.mono S hy hx (by omega)
  apply Classical.byContradiction
  intro hgt
  have hyt : t < y.term := by omega
  have hyT := hc.lt y (zd7 hy)
  have hk := ih y.term hyT (hDm.led hy) t n k W hcm hyt
  by_cases hnD : n ≤ D.length
  ·apply hbad
   rw [← hk, ← hy2, List.take_take, Nat.min_eq_left hnD]
  ·have h1 := zb7 hk (i := D.length - 1) (by omega)
   rw [hDm.get hy (Nat.le_refl _), hy] at h1
   have := S.lle t y (zd7 h1.symm)
   omega
 obtain ⟨p, hpD, hpL, hpe, hpm⟩ := lcp D (H.LL t)
 have hpn : p < n := by
  apply Classical.byContradiction
  intro h
  exact hbad (za4 hpe (by omega))
 have hmax : ∀ q, p < q → q ≤ (H.LL t).length → ¬ D.take q = (H.LL t).take q := fun q hq hql e => by
  have := hpm q (zdn e hql) e
  omega
 have hdiff : ∀ q, p < q → q ≤ D.length → ¬ D.take q = (H.LL t).take q := fun q hq hql e => by
  have := hpm q hql e
  omega
 -- one configuration at most on D's side
 have o1 : OneC D p := by
  intro a b x y hpa hab ha hka hb hkb
  have ey := hDm b y hb
  have hby := hDm.get hb (Nat.le_refl b)
  have hax := hDm.get hb (Nat.le_of_lt hab)
  obtain ⟨t2, n2, k2, W2, hc2, ht2, hb2, e2, _⟩ := S.old y.term b y a x (hby.trans hb) hkb rfl hab (hax.trans ha) hka
  have hyt := hs b y hb
  have h2 := S.cm t2 n2 k2 W2 hc2
  have hkey : D.take (a + 1) = (H.LL t2).take (a + 1) := (za4 ey (by omega)).trans e2.symm
  rcases (by omega : t2 < t ∨ t2 = t) with h | h
  ·have h3 := ih t ht hledt t2 n2 k2 W2 hc2 h
   exact hdiff (a + 1) (by omega) (by have := zbv ha; omega) (hkey.trans (za4 h3 hb2).symm)
  ·rw [h] at hkey
   exact hdiff (a + 1) (by omega) (by have := zbv ha; omega) hkey
 have hLm := S.llm t
 -- one at most on the leader's side, up to k
 have get_k : ∀ {i : Nat} {x : Ent}, ((H.LL t).take k)[i]? = some x → i < k ∧ (H.LL t)[i]? = some x := fun {i x} h => by
  have hl := zbv h
  rw [List.length_take] at hl
  rw [List.getElem?_take_of_lt (by omega)] at h
  exact ⟨by omega, h⟩
 have o2 : OneC ((H.LL t).take k) p := by
  intro a b x y hpa hab ha hka hb hkb
  obtain ⟨_, ha⟩ := get_k ha
  obtain ⟨hbk, hb⟩ := get_k hb
  have ey := hLm b y hb
  have hby := hLm.get hb (Nat.le_refl b)
  have hax := hLm.get hb (Nat.le_of_lt hab)
  have hyt : y.term ≤ t := S.lle t y (zd7 hb)
  obtain ⟨t2, n2, k2, W2, hc2, ht2, hb2, e2, hk2⟩ := S.old y.term b y a x (hby.trans hb) hkb rfl hab (hax.trans ha) hka
  have hkey : (H.LL t).take (a + 1) = (H.LL t2).take (a + 1) := (za4 ey (by omega)).trans e2.symm
  have h3 := in1 t2 n2 k2 W2 hc2 (by
   rcases (by omega : t2 < t ∨ t2 = t) with h | h
   ·exact .inl h
   ·refine .inr ⟨h, ?_⟩
    have := hk2 (by omega)
    omega)
  exact hmax (a + 1) (by omega) (by have := zbv ha; omega) ((za4 h3 hb2).trans hkey.symm)
 -- not on both
 have o3 : ∀ a b x y, p ≤ a → p ≤ b → D[a]? = some x → x.kind = 2 → ((H.LL t).take k)[b]? = some y → y.kind = 2 → False := by
  intro a b x y hpa hpb ha hka hb hkb
  obtain ⟨hbk, hb⟩ := get_k hb
  have ex := hDm a x ha
  have hax := hDm.get ha (Nat.le_refl a)
  have ey := hLm b y hb
  have hby := hLm.get hb (Nat.le_refl b)
  have hxt2 := hs a x ha
  have hyt : y.term ≤ t := S.lle t y (zd7 hb)
  have hla := zbv ha
  have hlb := zbv hb
  rcases (by omega : x.term = y.term ∨ x.term < y.term ∨ y.term < x.term) with h | h | h
  ·rw [h] at ex
   exact hmax (p + 1) (by omega) (by omega) ((za4 ex (by omega)).trans (za4 ey (by omega)).symm)
  ·obtain ⟨n2, k2, W2, hc2, hk2⟩ := S.own y.term b y (hby.trans hb) hkb rfl
   obtain ⟨q1, q2, q3, ⟨z, hz, hzt⟩, _⟩ := S.cm _ _ _ _ hc2
   have hz2 : (H.LL t)[n2 - 1]? = some z := by rw [← hz]; exact (hLm.get hb (by omega)).symm
   by_cases hnp : n2 ≤ p
   ·have hzD : D[n2 - 1]? = some z := by rw [← hz2]; exact zb7 hpe (by omega)
    have := hDm.mono S ha hzD (by omega)
    omega
   ·have h3 := in1 y.term n2 k2 W2 hc2 (by
      rcases (by omega : y.term < t ∨ y.term = t) with h | h
      ·exact .inl h
      ·exact .inr ⟨h, by omega⟩)
    exact hmax (p + 1) (by omega) (by omega) ((za4 h3 (by omega)).trans (za4 ey (by omega)).symm)
  ·obtain ⟨n2, k2, W2, hc2, hk2⟩ := S.own x.term a x (hax.trans ha) hka rfl
   obtain ⟨q1, q2, q3, ⟨z, hz, hzt⟩, _⟩ := S.cm _ _ _ _ hc2
   have hz2 : D[n2 - 1]? = some z := by rw [← hz]; exact (hDm.get ha (by omega)).symm
   have hin : (H.LL t).take n2 = (H.LL x.term).take n2 := by
    rcases (by omega : x.term < t ∨ x.term = t) with h | h
    ·exact ih t ht hledt x.term n2 k2 W2 hc2 h
    ·rw [h]
   by_cases hnp : n2 ≤ p
   ·have hzL : (H.LL t)[n2 - 1]? = some z := by rw [← hz2]; exact (zb7 hpe (by omega)).symm
    have := hLm.mono S hb hzL (by omega)
    omega
   ·exact hmax (p + 1) (by omega) (by omega) ((za4 ex (by omega)).trans (za4 hin (by omega)).symm)
 have hLk : LM H ((H.LL t).take k) := by
  intro i x hx
  obtain ⟨hik, hx⟩ := get_k hx
  rw [List.take_take, Nat.min_eq_left (by omega)]
  exact hLm i x hx
 obtain ⟨v, hv, hvQ, hvW⟩ := zui S hDm hLk (by rw [List.take_take, Nat.min_eq_left (by omega)]; exact hpe) o1 o2 o3 hc.q hq
 rcases hst v t n k W xn hv hvQ hcm (hak v hv hvW) ht hn1 hxn hxt with (h | h) | ⟨T', h1, h2, h3, h4⟩
 ·have hDl : 1 ≤ D.length := by
    cases hD : D with
    | nil => rw [hD] at h; have := S.pos hledt; unfold za6 at h; simp at h; omega
    | cons a l => simp
  obtain ⟨y, hy, e, _⟩ := hDm.last hDl
  have := hs _ y hy
  omega
 ·obtain ⟨y, hy, e, hy2⟩ := hDm.last (by omega)
  have e2 : y.term = t := by omega
  rw [e2] at hy2
  apply hbad
  rw [← hy2, List.take_take, Nat.min_eq_left h.2]
 ·exact h4 (ih T' h2 h3 t n k W hcm h1)
theorem zpy {H : Hist} (S : Static H) {T : Int} {c : Nat} {D : List Ent} {Q : Int} (hc : Cand H T c D Q) (hst : StrC H T D Q) (ih : ∀ T', T' < T → H.LL T' ≠ [] → Keeps H T' (H.LL T')) : Keeps H T D := by
 have key : ∀ N K : Nat, ∀ t n k W, H.Cm t n k W → t < T → t.toNat < N ∨ (t.toNat = N ∧ k < K) → D.take n = (H.LL t).take n := by
  intro N
  induction N with
  | zero =>
   intro K
   induction K with
   | zero => intro t n k W _ _ h; omega
   | succ K ihK =>
    intro t n k W hcm ht h
    refine zlm S hc hst ih hcm ht fun t' n' k' W' hc' h' => ?_
    have hp := S.cm _ _ _ _ hcm
    have h1 : 1 ≤ t := S.pos (by intro e; rw [e] at hp; simp at hp; try omega)
    omega
  | succ N ihN =>
   intro K
   induction K with
   | zero =>
    intro t n k W hcm ht h
    exact ihN (k + 1) t n k W hcm ht (by omega)
   | succ K ihK =>
    intro t n k W hcm ht h
    refine zlm S hc hst ih hcm ht fun t' n' k' W' hc' h' => ?_
    have hp := S.cm _ _ _ _ hcm
    have hp' := S.cm _ _ _ _ hc'
    have h1 : 1 ≤ t := S.pos (by intro e; rw [e] at hp; simp at hp; try omega)
    have h1' : 1 ≤ t' := S.pos (by intro e; rw [e] at hp'; simp at hp'; try omega)
    rcases h' with h' | ⟨rfl, h'⟩
    ·exact ihN (k' + 1) t' n' k' W' hc' (by omega) (by omega)
    ·exact ihK t' n' k' W' hc' (by omega) (by omega)
 intro t n k W hcm ht
 exact key t.toNat (k + 1) t n k W hcm ht (.inr ⟨rfl, by omega⟩)
theorem zjd {H : Hist} (S : Static H) : ∀ N : Nat, ∀ T : Int, T.toNat < N → ∀ c D Q, Cand H T c D Q → StrC H T D Q → Keeps H T D
 | 0, _, h => by omega
 | N + 1, T, h => fun c D Q hc hst => zpy S hc hst fun T' hT' hl => zor S hl (zjd S N T' (by have := S.pos hl; have := hc.pos; omega))
theorem zq5 {H : Hist} (S : Static H) {T : Int} (h : H.LL T ≠ []) : Keeps H T (H.LL T) := zor S h (zjd S (T.toNat + 1) T (by omega))
theorem keeps {H : Hist} (S : Static H) {T : Int} {c : Nat} {D : List Ent} {Q : Int} (hc : Cand H T c D Q) : Keeps H T D := by
 refine zjd S (T.toNat + 1) T (by omega) c D Q hc fun v t n k W x hv hQ hcm hak ht hn hx hxt => ?_
 rcases S.vi v T c D t n x (hc.vd v hv hQ) hak ht hn hx hxt with h | ⟨T', h1, h2, h3, h4⟩
 ·exact .inl h
 ·rcases (by omega : T' < T ∨ T' = T) with h | h
  ·exact .inr ⟨T', h1, h, h3, h4⟩
  ·subst h
   exact absurd (zq5 S h3 t n k W hcm ht) h4
theorem zmv {H : Hist} (S : Static H) {T : Int} {c c' : Nat} {D D' : List Ent} {Q Q' : Int} (h : Cand H T c D Q) (h' : Cand H T c' D' Q') : c = c' ∧ D = D' := by
 have K := keeps S h
 have K' := keeps S h'
 obtain ⟨p, hpD, hpL, hpe, hpm⟩ := lcp D D'
 have hno : ∀ q, p < q → q ≤ D.length → ¬ D.take q = D'.take q := fun q hq hql e => by
  have := hpm q hql e
  omega
 have o1 : OneC D p := by
  intro a b x y hpa hab ha hka hb hkb
  obtain ⟨t2, n2, k2, W2, hc2, ht2, hb2, e2, _⟩ := S.old y.term b y a x ((h.lm.get hb (Nat.le_refl b)).trans hb) hkb rfl hab ((h.lm.get hb (Nat.le_of_lt hab)).trans ha) hka
  have hyT := h.lt y (zd7 hb)
  have k1 := za4 (K _ _ _ _ hc2 (by omega)) hb2
  have k2 := za4 (K' _ _ _ _ hc2 (by omega)) hb2
  exact hno (a + 1) (by omega) (by have := zbv ha; omega) (k1.trans k2.symm)
 have o2 : OneC D' p := by
  intro a b x y hpa hab ha hka hb hkb
  obtain ⟨t2, n2, k2, W2, hc2, ht2, hb2, e2, _⟩ := S.old y.term b y a x ((h'.lm.get hb (Nat.le_refl b)).trans hb) hkb rfl hab ((h'.lm.get hb (Nat.le_of_lt hab)).trans ha) hka
  have hyT := h'.lt y (zd7 hb)
  have k1 := za4 (K _ _ _ _ hc2 (by omega)) hb2
  have k2 := za4 (K' _ _ _ _ hc2 (by omega)) hb2
  have hl := (S.cm _ _ _ _ hc2)
  exact hno (a + 1) (by omega) (zdn k1 (by omega)) (k1.trans k2.symm)
 have o3 : ∀ a b x y, p ≤ a → p ≤ b → D[a]? = some x → x.kind = 2 → D'[b]? = some y → y.kind = 2 → False := by
  intro a b x y hpa hpb ha hka hb hkb
  have hxT := h.lt x (zd7 ha)
  have hyT := h'.lt y (zd7 hb)
  have ex := h.lm a x ha
  have ey := h'.lm b y hb
  have hla := zbv ha
  have hlb := zbv hb
  rcases (by omega : x.term = y.term ∨ x.term < y.term ∨ y.term < x.term) with e | e | e
  ·rw [e] at ex
   exact hno (p + 1) (by omega) (by omega) ((za4 ex (by omega)).trans (za4 ey (by omega)).symm)
  ·obtain ⟨n2, k2, W2, hc2, hk2⟩ := S.own y.term b y ((h'.lm.get hb (Nat.le_refl b)).trans hb) hkb rfl
   obtain ⟨q1, q2, q3, ⟨z, hz, hzt⟩, _⟩ := S.cm _ _ _ _ hc2
   have k1 := K _ _ _ _ hc2 hyT
   have k2 := K' _ _ _ _ hc2 hyT
   by_cases hnp : n2 ≤ p
   ·have hzD : D[n2 - 1]? = some z := (zb7 k1 (by omega)).trans hz
    have := h.lm.mono S ha hzD (by omega)
    omega
   ·exact hno (p + 1) (by omega) (by omega) (za4 (k1.trans k2.symm) (by omega))
  ·obtain ⟨n2, k2, W2, hc2, hk2⟩ := S.own x.term a x ((h.lm.get ha (Nat.le_refl a)).trans ha) hka rfl
   obtain ⟨q1, q2, q3, ⟨z, hz, hzt⟩, _⟩ := S.cm _ _ _ _ hc2
   have k1 := K _ _ _ _ hc2 hxT
   have k2 := K' _ _ _ _ hc2 hxT
   by_cases hnp : n2 ≤ p
   ·have hzD : D'[n2 - 1]? = some z := (zb7 k2 (by omega)).trans hz
    have := h'.lm.mono S hb hzD (by omega)
    omega
   ·exact hno (p + 1) (by omega) (by omega) (za4 (k1.trans k2.symm) (by omega))
 obtain ⟨v, hv, hvQ, hvW⟩ := zui S h.lm h'.lm hpe o1 o2 o3 h.q h'.q
 exact S.vu v T c D c' D' (h.vd v hv hvQ) (h'.vd v hv hvW)
structure Grows (H H' : Hist) : Prop where
 c0 : H'.c0 = H.c0
 ll : ∀ t, (H'.LL t).take (H.LL t).length = H.LL t
 new : ∀ t n x, H.LL t ≠ [] → (H.LL t).length ≤ n → (H'.LL t)[n]? = some x → x.term = t
 cm : ∀ t n k W, H.Cm t n k W → H'.Cm t n k W
 vd : ∀ v T c D, H.VD v T c D → H'.VD v T c D
 ak : ∀ v t n, H.AK v t n → H'.AK v t n
 akv : ∀ v T c D t n, H.VD v T c D → t < T → H'.AK v t n → H.AK v t n
theorem Grows.refl (H : Hist) : Grows H H := ⟨rfl, fun t => List.take_length, fun t n x _ h1 h2 => by have := zbv h2; omega, fun _ _ _ _ h => h, fun _ _ _ _ h => h, fun _ _ _ h => h, fun _ _ _ _ _ _ _ _ h => h⟩
theorem Grows.take {H H' : Hist} (g : Grows H H') {t : Int} {n : Nat} (hn : n ≤ (H.LL t).length) : (H'.LL t).take n = (H.LL t).take n := by
 have := congrArg (List.take n) (g.ll t)
 rwa [List.take_take, Nat.min_eq_left hn] at this
theorem Grows.len {H H' : Hist} (g : Grows H H') (t : Int) : (H.LL t).length ≤ (H'.LL t).length := by
 have := congrArg List.length (g.ll t)
 rw [List.length_take] at this
 omega
theorem Grows.led {H H' : Hist} (g : Grows H H') {t : Int} (h : H.LL t ≠ []) : H'.LL t ≠ [] := by
 intro e
 have := g.len t
 rw [e] at this
 exact h (List.eq_nil_of_length_eq_zero (by simpa using this))
theorem Grows.trans {A B C : Hist} (g : Grows A B) (h : Grows B C) : Grows A C := by
 refine ⟨h.c0.trans g.c0, fun t => ?_, fun t n x he hn hx => ?_, fun _ _ _ _ a => h.cm _ _ _ _ (g.cm _ _ _ _ a), fun _ _ _ _ a => h.vd _ _ _ _ (g.vd _ _ _ _ a), fun _ _ _ a => h.ak _ _ _ (g.ak _ _ _ a), fun v T c D t n hd ht ha => g.akv v T c D t n hd ht (h.akv v T c D t n (g.vd _ _ _ _ hd) ht ha)⟩
 ·rw [h.take (g.len t), g.ll t]
 ·by_cases hb : (B.LL t).length ≤ n
  ·exact h.new t n x (g.led he) hb hx
  ·refine g.new t n x he hn ?_
   rw [← hx]
   exact (zb7 (h.ll t |>.trans List.take_length.symm) (by omega)).symm
theorem Grows.get {H H' : Hist} (g : Grows H H') {t : Int} {n : Nat} {x : Ent} (h : (H.LL t)[n]? = some x) : (H'.LL t)[n]? = some x := by
 rw [← h]
 exact zb7 (g.ll t |>.trans List.take_length.symm) (zbv h)
theorem Grows.lm {H H' : Hist} (g : Grows H H') {L : List Ent} (h : LM H L) : LM H' L := by
 intro n x hx
 have e := h n x hx
 have hl := zbv hx
 have : n + 1 ≤ (H.LL x.term).length := zdn e.symm (by omega)
 rw [e, g.take this]
theorem Grows.cand {H H' : Hist} (g : Grows H H') {T : Int} {c : Nat} {D : List Ent} {Q : Int} (h : Cand H T c D Q) : Cand H' T c D Q :=
 ⟨g.vd _ _ _ _ h.self, g.lm h.lm, h.lt, h.pos, by rw [g.c0]; exact h.q, fun v hv ht => g.vd _ _ _ _ (h.vd v hv ht)⟩
theorem Grows.lost {H H' : Hist} (S : Static H) (g : Grows H H') {t T : Int} (ht : t < T) {n : Nat} (hn : n ≤ (H.LL t).length) (hl : H.LL T ≠ []) (h : ¬ (H.LL T).take n = (H.LL t).take n) : ¬ (H'.LL T).take n = (H'.LL t).take n := by
 rw [g.take hn]
 intro e
 by_cases hT : n ≤ (H.LL T).length
 ·rw [g.take hT] at e
  exact h e
 ·have h1 := zb7 e (i := (H.LL T).length) (by omega)
  obtain ⟨x, hx⟩ := zci (A := H.LL t) (i := (H.LL T).length) (by omega)
  rw [hx] at h1
  have := g.new T _ x hl (Nat.le_refl _) h1
  have := S.lle t x (zd7 hx)
  omega
def JG (H : Hist) (T : Int) (L : List Ent) (c : Nat) : Prop := c = 0 ∨ ∃ t n k W, H.Cm t n k W ∧ t ≤ T ∧ c ≤ n ∧ L.take c = (H.LL t).take c
theorem JG.len {H : Hist} (S : Static H) {T : Int} {L : List Ent} {c : Nat} (h : JG H T L c) : c ≤ L.length := by
 rcases h with h | ⟨t, n, k, W, hc, _, hn, e⟩
 ·omega
 ·have := S.cm _ _ _ _ hc
  exact zdn e (by omega)
theorem JG.mono {H H' : Hist} (S : Static H) (g : Grows H H') {T T' : Int} (hT : T ≤ T') {L L' : List Ent} {c : Nat} (e : L'.take c = L.take c) (h : JG H T L c) : JG H' T' L' c := by
 rcases h with h | ⟨t, n, k, W, hc, ht, hn, e2⟩
 ·exact .inl h
 ·have := S.cm _ _ _ _ hc
  exact .inr ⟨t, n, k, W, g.cm _ _ _ _ hc, by omega, hn, by rw [e, e2, g.take (by omega)]⟩
theorem JG.le {H : Hist} {T : Int} {L : List Ent} {c d : Nat} (h : JG H T L c) (hd : d ≤ c) : JG H T L d := by
 rcases h with h | ⟨t, n, k, W, hc, ht, hn, e2⟩
 ·exact .inl (by omega)
 ·exact .inr ⟨t, n, k, W, hc, ht, by omega, za4 e2 hd⟩
theorem JG.lead {H : Hist} (S : Static H) {T : Int} (hT : H.LL T ≠ []) {L : List Ent} {c : Nat} (h : JG H T L c) : L.take c = (H.LL T).take c := by
 rcases h with h | ⟨t, n, k, W, hc, ht, hn, e⟩
 ·subst h; simp
 ·rcases (by omega : t < T ∨ t = T) with h | h
  ·exact e.trans (za4 (zq5 S hT t n k W hc h) hn).symm
  ·rw [e, h]
theorem JG.agree {H : Hist} (S : Static H) {T T' : Int} {L L' : List Ent} {c c' : Nat} (h : JG H T L c) (h' : JG H T' L' c') {m : Nat} (hm : m ≤ c) (hm' : m ≤ c') : L.take m = L'.take m := by
 rcases h with h | ⟨t, n, k, W, hc, _, hn, e⟩
 ·have : m = 0 := by omega
  subst this; simp
 rcases h' with h | ⟨t', n', k', W', hc', _, hn', e'⟩
 ·have : m = 0 := by omega
  subst this; simp
 have a := S.cm _ _ _ _ hc
 have a' := S.cm _ _ _ _ hc'
 have ht : H.LL t ≠ [] := by intro e; rw [e] at a; simp at a; try omega
 have ht' : H.LL t' ≠ [] := by intro e; rw [e] at a'; simp at a'; try omega
 have key : (H.LL t).take m = (H.LL t').take m := by
  rcases (by omega : t < t' ∨ t = t' ∨ t' < t) with h | h | h
  ·exact (za4 (zq5 S ht' t n k W hc h) (by omega)).symm
  ·rw [h]
  ·exact za4 (zq5 S ht t' n' k' W' hc' h) (by omega)
 exact (za4 e hm).trans (key.trans (za4 e' hm').symm)
structure Nd where
 term : Int
 vote : Int
 role : Int
 votes : Int
 log : List Ent
 com : Nat
 mt : Nat → Nat
structure NI (H : Hist) (v : Nat) (d : Nd) : Prop where
 lm : LM H d.log
 le : ∀ x ∈ d.log, x.term ≤ d.term
 com : JG H d.term d.log d.com
 vd : ∀ T c D, H.VD v T c D → T ≤ d.term ∧ (T = d.term → d.vote = c)
 ak : ∀ t n, H.AK v t n → t ≤ d.term ∧ (d.log.take n = (H.LL t).take n ∨ ∃ T', t < T' ∧ T' ≤ d.term ∧ H.LL T' ≠ [] ∧ ¬ (H.LL T').take n = (H.LL t).take n)
 st : d.role = 2 → 1 ≤ d.term ∧ H.VD v d.term v d.log ∧ (∀ x ∈ d.log, x.term < d.term) ∧ (∀ i, i < 7 → tb d.votes i = true → H.VD i d.term v d.log) ∧ (H.LL d.term ≠ [] → ∃ c D Q, c ≠ v ∧ Cand H d.term c D Q)
 ld : d.role = 3 → H.LL d.term = d.log ∧ d.log ≠ [] ∧ (∃ D Q, Cand H d.term v D Q) ∧ ∀ i, i < 7 → ∀ n, 1 ≤ n → n ≤ d.mt i → H.AK i d.term n
structure GI (H : Hist) (N : Nat → Nd) : Prop where
 st : Static H
 vc : ∀ v T c D, H.VD v T c D → H.VD c T c D
 nd : ∀ v, v < 7 → NI H v (N v)
def upd (N : Nat → Nd) (v : Nat) (d : Nd) : Nat → Nd := fun w => if w = v then d else N w
theorem za9 (N : Nat → Nd) (v : Nat) (d : Nd) : upd N v d v = d := if_pos rfl
theorem zc0 (N : Nat → Nd) {v w : Nat} (h : w ≠ v) (d : Nd) : upd N v d w = N w := if_neg h
theorem NI.mono {H H' : Hist} (S : Static H) (g : Grows H H') {v : Nat} {d : Nd} (h : NI H v d) (hv : ∀ T c D, H'.VD v T c D → H.VD v T c D) (ha : ∀ t n, H'.AK v t n → H.AK v t n) (hl : d.role = 3 → H'.LL d.term = H.LL d.term)
    (hs : d.role = 2 → H.LL d.term = [] → H'.LL d.term ≠ [] → ∃ c D Q, c ≠ v ∧ Cand H' d.term c D Q) : NI H' v d := by
 refine ⟨g.lm h.lm, h.le, h.com.mono S g (Int.le_refl _) rfl, fun T c D hd => h.vd T c D (hv T c D hd), fun t n hn => ?_, fun hr => ?_, fun hr => ?_⟩
 ·obtain ⟨h1, h3⟩ := h.ak t n (ha t n hn)
  have h2 := S.akl v t n (ha t n hn)
  refine ⟨h1, ?_⟩
  rcases h3 with h3 | ⟨T', a, b, c, e⟩
  ·exact .inl (h3.trans (g.take h2).symm)
  ·exact .inr ⟨T', a, b, g.led c, g.lost S a h2 c e⟩
 ·obtain ⟨h0, h1, h2, h3, h4⟩ := h.st hr
  refine ⟨h0, g.vd _ _ _ _ h1, h2, fun i hi ht => g.vd _ _ _ _ (h3 i hi ht), fun he => ?_⟩
  by_cases e : H.LL d.term = []
  ·exact hs hr e he
  ·obtain ⟨c, D, Q, hc, hd⟩ := h4 e
   exact ⟨c, D, Q, hc, g.cand hd⟩
 ·obtain ⟨h1, h2, ⟨D, Q, h3⟩, h4⟩ := h.ld hr
  exact ⟨(hl hr).trans h1, h2, ⟨D, Q, g.cand h3⟩, fun i hi n h5 h6 => g.ak _ _ _ (h4 i hi n h5 h6)⟩
theorem gi_weak {H : Hist} {N : Nat → Nd} (I : GI H N) {v : Nat} (hv : v < 7) {d : Nd} (hl : d.log = (N v).log) (ht : (N v).term ≤ d.term) (hc : d.com ≤ (N v).com) (hvo : d.term = (N v).term → d.vote = (N v).vote) (hr : d.role ≠ 2 ∧ d.role ≠ 3) : GI H (upd N v d) := by
 refine ⟨I.st, I.vc, fun w hw => ?_⟩
 by_cases e : w = v
 ·subst e
  rw [za9]
  have h := I.nd w hw
  refine ⟨by rw [hl]; exact h.lm, fun x hx => by rw [hl] at hx; have := h.le x hx; omega, ?_, fun T c D hd => ?_, fun t n hn => ?_, fun e => absurd e hr.1, fun e => absurd e hr.2⟩
  ·rw [hl]
   exact (h.com.le hc).mono I.st (Grows.refl H) ht rfl
  ·obtain ⟨h1, h2⟩ := h.vd T c D hd
   exact ⟨by omega, fun e => by rw [hvo (by omega)]; exact h2 (by omega)⟩
  ·obtain ⟨h1, h3⟩ := h.ak t n hn
   refine ⟨by omega, ?_⟩
   rw [hl]
   rcases h3 with h3 | ⟨T', a, b, c, e⟩
   ·exact .inl h3
   ·exact .inr ⟨T', a, by omega, c, e⟩
 ·rw [zc0 N e]
  exact I.nd w hw
end Go.Proofs
