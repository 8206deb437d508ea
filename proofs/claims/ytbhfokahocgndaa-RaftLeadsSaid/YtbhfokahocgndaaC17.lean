import Derived.Test.YtbhfokahocgndaaC1
import Derived.Test.YtbhfokahocgndaaPvN
/- Contracts of functions: near configurations. -/
set_option linter.unusedSimpArgs false
set_option linter.unusedVariables false
namespace Go.Proofs
open Go.Pv
set_option maxRecDepth 100000

theorem eqOk23 : EqOk Try.prog 23 := ⟨by kernel_rfl, by kernel_rfl, by kernel_rfl, by kernel_rfl⟩
theorem eqConf (a b : Conf) : eqInts (Try.prog.fieldsOf 23).toList a.enc b.enc = some (decide (a = b)) := by
  have h : eqInts (Try.prog.fieldsOf 23).toList a.enc b.enc = some (a.full == b.full && (a.wit == b.wit && (a.learn == b.learn && (a.lwit == b.lwit && true)))) := by kernel_rfl
  rw [h]
  congr 1
  rw [Bool.eq_iff_iff]
  simp only [Bool.and_eq_true, beq_iff_eq, decide_eq_true_eq, and_true]
  exact ⟨fun ⟨h1, h2, h3, h4⟩ => Conf.ext' h1 h2 h3 h4, fun e => by subst e; exact ⟨rfl, rfl, rfl, rfl⟩⟩

def hitS (s : Conf × Int) (b : Conf) : Bool := s.2 == 0 && decide (s.1 = b)
noncomputable def stp (a : Conf) (i : Int) (k : Nat) : Conf × Int := match k with
  | 0 => learnR a i false
  | 1 => learnR a i true
  | 2 => promoteR a i
  | _ => removeR a i
noncomputable def nearI (a b : Conf) (i : Int) : Bool := hitS (learnR a i false) b || (hitS (learnR a i true) b || (hitS (promoteR a i) b || hitS (removeR a i) b))
noncomputable def nearR (a b : Conf) : Bool := confB a && (confB b && (decide (a = b) || (List.range 7).any fun i => nearI a b i))

end Go.Proofs

/- Plain facts: near configurations. -/
namespace Go.Proofs
open Go.Pv
set_option maxRecDepth 100000

/-- The same, but for one node. -/
def but (a b : Conf) (n : Nat) : Prop := ∀ j, j ≠ n → tb b.full j = tb a.full j ∧ tb b.wit j = tb a.wit j ∧ tb b.learn j = tb a.learn j ∧ tb b.lwit j = tb a.lwit j

theorem stepped_inv {x c : Conf} (h : hitS (steppedR x) c = true) : Cok x ∧ x = c := by
  unfold hitS steppedR at h
  split at h
  · rename_i hc
    simp at h
    exact ⟨(confB_iff x).1 hc, h⟩
  · simp at h

theorem tb_sh {n j : Nat} (hn : n < 7) (h : j ≠ n) : tb (shl 1 n) j = false := by
  rw [tb_shl n j (by omega)]; simp; omega

theorem step_inv {a b : Conf} {i : Int} {k : Nat} (h : hitS (stp a i k) b = true) : ∃ n : Nat, i = n ∧ n < 7 ∧ Cok a ∧ Cok b ∧ but a b n := by
  have hw : ∀ e : Int, e ≠ 0 → hitS (cz, e) b = true → False := by
    intro e he hh; simp [hitS] at hh; exact he hh.1
  have fin : ∀ (x : Conf) (n : Nat), n < 7 → wrongR a n = 0 → hitS (steppedR x) b = true → but a x n → ∃ m : Nat, (n : Int) = m ∧ m < 7 ∧ Cok a ∧ Cok b ∧ but a b m := by
    intro x n hn hw0 hh hb
    obtain ⟨h1, rfl⟩ := stepped_inv hh
    exact ⟨n, rfl, hn, (confB_iff a).1 (wrongR0 hw0).1, h1, hb⟩
  have start : wrongR a i = 0 → ∃ n : Nat, i = n ∧ n < 7 := fun h0 => nat_of (wrongR0 h0).2
  unfold stp at h
  split at h
  · unfold learnR at h
    split at h
    · rename_i h0
      obtain ⟨n, rfl, hn⟩ := start h0
      split at h
      · simp only [Bool.false_eq_true, if_false] at h
        exact fin _ n hn h0 h fun j hj => by simp [tb_or, tb_sh hn hj]
      · exact (hw 14 (by decide) h).elim
    · rename_i h0; exact (hw _ h0 h).elim
  · unfold learnR at h
    split at h
    · rename_i h0
      obtain ⟨n, rfl, hn⟩ := start h0
      split at h
      · simp only [if_true] at h
        exact fin _ n hn h0 h fun j hj => by simp [tb_or, tb_sh hn hj]
      · exact (hw 14 (by decide) h).elim
    · rename_i h0; exact (hw _ h0 h).elim
  · unfold promoteR at h
    split at h
    · rename_i h0
      obtain ⟨n, rfl, hn⟩ := start h0
      split at h
      · split at h
        · exact (hw 14 (by decide) h).elim
        · exact fin _ n hn h0 h fun j hj => by simp [tb_or, tb_andn', tb_sh hn hj]
      · exact fin _ n hn h0 h fun j hj => by simp [tb_or, tb_andn', tb_sh hn hj]
    · rename_i h0; exact (hw _ h0 h).elim
  · unfold removeR at h
    split at h
    · rename_i h0
      obtain ⟨n, rfl, hn⟩ := start h0
      split at h
      · exact (hw 14 (by decide) h).elim
      · exact fin _ n hn h0 h fun j hj => by simp [tb_andn', tb_sh hn hj]
    · rename_i h0; exact (hw _ h0 h).elim

theorem near_inv {a b : Conf} (h : nearR a b = true) : Cok a ∧ Cok b ∧ ∃ n : Nat, n < 7 ∧ but a b n := by
  simp only [nearR, Bool.and_eq_true, Bool.or_eq_true, decide_eq_true_eq, List.any_eq_true] at h
  obtain ⟨ha, hb, h | ⟨i, _, h⟩⟩ := h
  · subst h
    exact ⟨(confB_iff a).1 ha, (confB_iff a).1 hb, 0, by decide, fun j _ => ⟨rfl, rfl, rfl, rfl⟩⟩
  · refine ⟨(confB_iff a).1 ha, (confB_iff b).1 hb, ?_⟩
    simp only [nearI, Bool.or_eq_true] at h
    rcases h with h | h | h | h
    · obtain ⟨n, _, h1, _, _, h2⟩ := step_inv (k := 0) h; exact ⟨n, h1, h2⟩
    · obtain ⟨n, _, h1, _, _, h2⟩ := step_inv (k := 1) h; exact ⟨n, h1, h2⟩
    · obtain ⟨n, _, h1, _, _, h2⟩ := step_inv (k := 2) h; exact ⟨n, h1, h2⟩
    · obtain ⟨n, _, h1, _, _, h2⟩ := step_inv (k := 3) h; exact ⟨n, h1, h2⟩
theorem cnt_union {u v : Int} {n : Nat} (h : ∀ j, j ≠ n → tb u j = tb v j) : ∀ m, 2 * cnt (bor u v) m ≤ cnt u m + cnt v m + nb (decide (n < m))
  | 0 => by simp [cnt]
  | m + 1 => by
    have ih := cnt_union h m
    simp only [cnt]
    rw [tb_or]
    by_cases e : m = n
    · subst e
      rw [show decide (m < m) = false by simp] at ih
      rw [show decide (m < m + 1) = true by simp]
      simp only [nb_false, nb_true] at *
      rcases nb_cases (tb u m) with e1 | e1 <;> rcases nb_cases (tb v m) with e2 | e2 <;> cases hu : tb u m <;> cases hv : tb v m <;> simp [hu, hv] at * <;> omega
    · rw [h m e]
      have : nb (decide (n < m)) = nb (decide (n < m + 1)) := by
        congr 1; exact decide_eq_decide.2 (by omega)
      rw [← this]
      cases tb v m <;> simp <;> omega

/-- Quorums of near configurations have a node in common. -/
theorem near_meet {a b : Conf} {x y : Int} (h : nearR a b = true) (hx : quorum a x = true) (hy : quorum b y = true) : ∃ i, i < 7 ∧ tb x i = true ∧ tb y i = true := by
  apply Classical.byContradiction
  intro hn
  obtain ⟨_, _, n, hn7, hb⟩ := near_inv h
  rw [quorum_iff] at hx hy
  have hv : ∀ j, j ≠ n → tb (voters a) j = tb (voters b) j := fun j hj => by
    obtain ⟨h1, h2, _, _⟩ := hb j hj
    rw [tb_or, tb_or, h1, h2]
  have h1 := cnt_split (x := band (voters a) x) (y := band (voters b) y) (z := bor (voters a) (voters b)) 7 (by
    intro i hi
    rw [tb_and, tb_and, tb_or (voters a) (voters b)]
    have : ¬ (tb x i = true ∧ tb y i = true) := fun h => hn ⟨i, hi, h⟩
    revert this
    cases tb (voters a) i <;> cases tb (voters b) i <;> cases tb x i <;> cases tb y i <;> simp)
  have h2 := cnt_union hv 7
  rcases nb_cases (decide (n < 7)) with e | e <;> rw [e] at h2 <;> unfold count at * <;> omega
end Go.Proofs

/- Plain facts: what a step changes. -/
namespace Go.Proofs
open Go.Pv
set_option maxRecDepth 100000

theorem stepped_err' {c : Conf} (h : (steppedR c).2 ≠ 0) : (steppedR c).1 = cz := by
  unfold steppedR at *; split <;> simp_all
theorem learn_err {a : Conf} {i : Int} {w : Bool} (h : (learnR a i w).2 ≠ 0) : (learnR a i w).1 = cz := by
  unfold learnR at *
  repeat' split
  all_goals first | rfl | skip
  all_goals (simp_all; exact stepped_err' h)
theorem promote_err {a : Conf} {i : Int} (h : (promoteR a i).2 ≠ 0) : (promoteR a i).1 = cz := by
  unfold promoteR at *
  repeat' split
  all_goals first | rfl | skip
  all_goals (simp_all; exact stepped_err' h)
theorem remove_err {a : Conf} {i : Int} (h : (removeR a i).2 ≠ 0) : (removeR a i).1 = cz := by
  unfold removeR at *
  repeat' split
  all_goals first | rfl | skip
  all_goals (simp_all; exact stepped_err' h)

theorem hit_self {s : Conf × Int} (h : s.2 = 0) : hitS s s.1 = true := by simp [hitS, h]

theorem cnt_diff {u v : Int} {n : Nat} (h : ∀ j, j ≠ n → tb u j = tb v j) : ∀ m, cnt (bandn u v) m + cnt (bandn v u) m ≤ nb (decide (n < m))
  | 0 => by simp [cnt]
  | m + 1 => by
    have ih := cnt_diff h m
    simp only [cnt]
    rw [tb_andn', tb_andn']
    by_cases e : m = n
    · subst e
      rw [show decide (m < m) = false by simp] at ih
      rw [show decide (m < m + 1) = true by simp]
      simp only [nb_false, nb_true] at *
      cases tb u m <;> cases tb v m <;> simp <;> omega
    · rw [h m e]
      have : nb (decide (n < m)) = nb (decide (n < m + 1)) := by
        congr 1; exact decide_eq_decide.2 (by omega)
      rw [← this]
      cases tb v m <;> simp <;> omega

def kind4 (f w l x : Bool) : ByteArray := if f then sFull else if w then sWit else if l then sLearn else if x then sLwit else sE
theorem kindR_4 (c : Conf) {n : Nat} (hn : n < 7) : kindR c n = kind4 (tb c.full n) (tb c.wit n) (tb c.learn n) (tb c.lwit n) := kindR_eq c hn

/-- What a node is behind a step is not what it was. -/
theorem step_kind {a b : Conf} {n k : Nat} (hn : n < 7) (hs : hitS (stp a n k) b = true) : ¬ (kindR a n).toList = (kindR b n).toList := by
  rw [kindR_4 a hn, kindR_4 b hn]
  have hw : ∀ e : Int, e ≠ 0 → hitS (cz, e) b = true → False := by
    intro e he hh; simp [hitS] at hh; exact he hh.1
  have hnn : tb (shl 1 n) n = true := by rw [tb_shl n n (by omega)]; simp
  have h := hs
  have ha : Cok a := by obtain ⟨_, _, _, h, _⟩ := step_inv hs; exact h
  have one := ha.one n
  unfold stp at h
  split at h
  · unfold learnR at h
    split at h
    · split at h
      · rename_i hf
        simp only [Bool.false_eq_true, if_false] at h
        obtain ⟨_, rfl⟩ := stepped_inv h
        obtain ⟨f1, f2, f3, f4⟩ := (free_iff hn).1 hf
        simp only [tb_or, hnn, f1, f2, f3, f4]; decide +kernel
      · exact (hw 14 (by decide) h).elim
    · rename_i h0; exact (hw _ h0 h).elim
  · unfold learnR at h
    split at h
    · split at h
      · rename_i hf
        simp only [if_true] at h
        obtain ⟨_, rfl⟩ := stepped_inv h
        obtain ⟨f1, f2, f3, f4⟩ := (free_iff hn).1 hf
        simp only [tb_or, hnn, f1, f2, f3, f4]; decide +kernel
      · exact (hw 14 (by decide) h).elim
    · rename_i h0; exact (hw _ h0 h).elim
  · unfold promoteR at h
    split at h
    · split at h
      · split at h
        · exact (hw 14 (by decide) h).elim
        · rename_i _ hl hx
          rw [bit0_iff hn] at hl hx
          obtain ⟨_, rfl⟩ := stepped_inv h
          simp only [tb_or, tb_andn', hnn]
          revert one hl hx
          cases tb a.full n <;> cases tb a.wit n <;> cases tb a.learn n <;> cases tb a.lwit n <;> simp [one4] <;> decide +kernel
      · rename_i _ hl
        rw [bit0_iff hn] at hl
        obtain ⟨_, rfl⟩ := stepped_inv h
        simp only [tb_or, tb_andn', hnn]
        revert one hl
        cases tb a.full n <;> cases tb a.wit n <;> cases tb a.learn n <;> cases tb a.lwit n <;> simp [one4] <;> decide +kernel
    · rename_i h0; exact (hw _ h0 h).elim
  · unfold removeR at h
    split at h
    · split at h
      · exact (hw 14 (by decide) h).elim
      · rename_i _ hf
        rw [free_iff hn] at hf
        obtain ⟨_, rfl⟩ := stepped_inv h
        unfold free at hf
        simp only [tb_andn', hnn]
        revert one hf
        cases tb a.full n <;> cases tb a.wit n <;> cases tb a.learn n <;> cases tb a.lwit n <;> simp [one4] <;> decide +kernel
    · rename_i h0; exact (hw _ h0 h).elim
end Go.Proofs

/- Contracts of functions: the reference's steps. -/
namespace Go.Proofs
open Go.Pv
set_option maxRecDepth 100000

theorem nat_or_add : ∀ x : Fin 128, ∀ n : Fin 7, x.val.testBit n.val = false → x.val ||| 2 ^ n.val = x.val + 2 ^ n.val := by decide +kernel
theorem nat_sub_and : ∀ x : Fin 128, ∀ n : Fin 7, x.val.testBit n.val = true → x.val - 2 ^ n.val = x.val &&& (127 - 2 ^ n.val) ∧ 2 ^ n.val ≤ x.val := by decide +kernel

theorem add_bit {x : Int} {n : Nat} (hx : Bits7 x) (hn : n < 7) (h : tb x n = false) : x + shl 1 n = bor x (shl 1 n) := by
  obtain ⟨m, rfl⟩ := Int.eq_ofNat_of_zero_le hx.1
  have hm : m < 128 := by have := hx.2; omega
  rw [tb_nat _ _ (by omega)] at h
  have e := nat_or_add ⟨m, hm⟩ ⟨n, hn⟩ h
  simp only at e
  have h2 : (2 : Nat) ^ n < 2 ^ 7 := Nat.pow_lt_pow_right (by decide) hn
  have hs := shl_one n (by omega)
  have hb : Bits7 (bor (m : Int) (shl 1 n)) := bits7_or hx (bits7_shl hn)
  rw [hs] at *
  have hlt : m ||| 2 ^ n < 128 := Nat.or_lt_two_pow (n := 7) hm h2
  have e2 : ((m : Int) + ((2 ^ n : Nat) : Int)) = ((m ||| 2 ^ n : Nat) : Int) := by rw [e]; simp
  rw [e2]
  refine ext7 ⟨by omega, by omega⟩ hb fun i _ => ?_
  rw [tb_or, tb_nat _ _ (by omega), tb_nat _ _ (by omega), tb_nat _ _ (by omega), Nat.testBit_or]

theorem sub_bit {x : Int} {n : Nat} (hx : Bits7 x) (hn : n < 7) (h : tb x n = true) : x - shl 1 n = bandn x (shl 1 n) := by
  have hb : Bits7 (bandn x (shl 1 n)) := bits7_andn hx
  have h0 : tb (bandn x (shl 1 n)) n = false := by rw [tb_andn', tb_shl n n (by omega)]; simp
  have e := add_bit hb hn h0
  have e2 : bor (bandn x (shl 1 n)) (shl 1 n) = x := ext7 (bits7_or hb (bits7_shl hn)) hx fun i _ => by
    rw [tb_or, tb_andn', tb_shl n i (by omega)]
    by_cases ei : n = i
    · subst ei; simp [h]
    · simp [ei]
  rw [e2] at e
  omega

theorem hasB_node {b : Int} {n : Nat} (hn : n < 7) : hasB b n = tb b n := hasB_nat b n (by omega)
theorem kind_4 (c : Conf) {n : Nat} (hn : n < 7) : kind c n = kind4 (tb c.full n) (tb c.wit n) (tb c.learn n) (tb c.lwit n) := by
  unfold kind kind4
  rw [if_pos (by simp [withinB]; omega)]
  simp only [hasB_node hn]
theorem kind4_E (f w l x : Bool) : ((kind4 f w l x).toList = (ByteArray.mk #[]).toList) ↔ (f = false ∧ w = false ∧ l = false ∧ x = false) := by
  cases f <;> cases w <;> cases l <;> cases x <;> decide +kernel
theorem shl_u {n : Nat} (hn : n < 7) : shl 1 (IntKind.u64.wrap n) = shl 1 n := by rw [wrapu_id (by omega) (by omega)]
theorem shl_small {n : Nat} (hn : n < 7) : 0 < shl 1 n ∧ shl 1 n ≤ 64 := by
  rw [shl_one n (by omega)]
  have : (2 : Nat) ^ n ≤ 2 ^ 6 := Nat.pow_le_pow_right (by decide) (by omega)
  have h2 : 0 < (2 : Nat) ^ n := Nat.pow_pos (by decide)
  omega

theorem kind4_L (f w l x : Bool) (h : one4 f w l x = true) : ((kind4 f w l x).toList = (ByteArray.mk #[108, 101, 97, 114, 110]).toList) ↔ l = true := by
  revert h; cases f <;> cases w <;> cases l <;> cases x <;> decide +kernel
theorem kind4_X (f w l x : Bool) (h : one4 f w l x = true) : ((kind4 f w l x).toList = (ByteArray.mk #[108, 101, 97, 114, 110, 119, 105, 116]).toList) ↔ x = true := by
  revert h; cases f <;> cases w <;> cases l <;> cases x <;> decide +kernel

end Go.Proofs
