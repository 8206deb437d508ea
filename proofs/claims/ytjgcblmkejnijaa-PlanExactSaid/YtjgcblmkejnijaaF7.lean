/- Plain law: a silent voter is replaced by the best spare. -/
import Derived.Test.YtjgcblmkejnijaaF6
set_option linter.unusedSimpArgs false
set_option linter.unusedVariables false
namespace Go.Proofs
open Go.Pv
set_option maxRecDepth 100000

theorem cnt_put {u v : Int} {n : Nat} (h : ∀ j, j ≠ n → tb v j = tb u j) (h0 : tb u n = false) (h1 : tb v n = true) : ∀ m, cnt v m = cnt u m + nb (decide (n < m))
  | 0 => by simp [cnt]
  | m + 1 => by
    have ih := cnt_put h h0 h1 m
    simp only [cnt]
    by_cases e : m = n
    · subst e
      rw [h0, h1, ih, decide_eq_false (Nat.lt_irrefl _), decide_eq_true (Nat.lt_succ_self _)]
      try simp
    · rw [h m e, ih, show decide (n < m + 1) = decide (n < m) from decide_eq_decide.2 (by omega)]; omega
theorem best_congr {p : List Pl} (hp : plsB p = true) {a b : Int} (h : ∀ n : Nat, n < 7 → tb a n = tb b n) : bestP p a = bestP p b := by
  unfold bestP
  have : (sortA p).find? (fun p => tb a p.node.toNat) = (sortA p).find? (fun p => tb b p.node.toNat) := by
    have hin : ∀ q ∈ sortA p, PlIn q := fun q hq => chkP_in p 0 hp q (sortA_mem.1 hq)
    generalize sortA p = o at *
    induction o with
    | nil => rfl
    | cons q o ih =>
      have hq := hin q (List.mem_cons_self ..)
      have hn := hq.1
      simp only [List.find?_cons]
      rw [h q.node.toNat (by omega), ih fun z hz => hin z (List.mem_cons_of_mem _ hz)]
  rw [this]
theorem full_1 {learn voters should sil : Int} (h1 : learn = 0) (h2 : count voters = should) (h3 : ∃ n : Nat, tb voters n = true ∧ tb sil n = true) : ¬ fullB learn voters should sil := by
  unfold fullB
  rintro (h | h | ⟨_, h⟩)
  · exact h h1
  · omega
  · obtain ⟨n, a, b⟩ := h3
    have := and0.1 h n
    rw [a, b] at this; cases this
theorem okS_ok (d : Conf) : okS (d, 0) = some d := by unfold okS; rw [if_pos rfl]
theorem low_only {b : Int} {n : Nat} (hn : n < 7) (h : tb b n = true) (ho : ∀ j, j ≠ n → tb b j = false) : lowB b = n := by
  rcases low_cases b with e | ⟨m, e, _, ht⟩
  · exfalso
    unfold lowB at e
    cases hf : (List.range 7).find? (fun i => tb b i) with
    | some i => rw [hf] at e; simp only at e; omega
    | none =>
      rw [List.find?_eq_none] at hf
      have := hf n (List.mem_range.2 hn)
      rw [h] at this; simp at this
  · by_cases hm : m = n
    · rw [e, hm]
    · rw [ho m hm] at ht; cases ht

abbrev rB (b : Nat) : Int := shl 1 (b : Int)
theorem rbit {F : Int} {b k : Nat} (hF : Bits7 F) (hb7 : b < 7) (hk7 : k < 7) (hb : tb F b = false) (hk : tb F k = true) (i : Nat) : tb (rB b) i = decide (b = i) := tb_shl b i (by omega)
theorem rep_ne {F : Int} {b k : Nat} (hF : Bits7 F) (hb7 : b < 7) (hk7 : k < 7) (hb : tb F b = false) (hk : tb F k = true) : k ≠ b := fun e => by subst e; rw [hb] at hk; cases hk
theorem rep_cnt1 {F : Int} {b k : Nat} (hF : Bits7 F) (hb7 : b < 7) (hk7 : k < 7) (hb : tb F b = false) (hk : tb F k = true) : count (bor F (rB b)) = count F + 1 := by
  have h := cnt_put (u := F) (v := bor F (rB b)) (n := b) (fun j hj => by rw [tb_or, rbit hF hb7 hk7 hb hk, show decide (b = j) = false by simp; omega, Bool.or_false]) hb (by rw [tb_or, rbit hF hb7 hk7 hb hk]; simp) 7
  rw [show decide (b < 7) = true by simpa using hb7] at h
  exact h
theorem rep_cnt2 {F : Int} {b k : Nat} (hF : Bits7 F) (hb7 : b < 7) (hk7 : k < 7) (hb : tb F b = false) (hk : tb F k = true) : count (bandn (bor F (rB b)) (rB k)) = count F := by
  have hne := rep_ne hF hb7 hk7 hb hk
  have tk : ∀ i, tb (rB k) i = decide (k = i) := fun i => tb_shl k i (by omega)
  have h := cnt_put (u := bandn (bor F (rB b)) (rB k)) (v := bor F (rB b)) (n := k) (fun j hj => by rw [tb_andn', tk, show decide (k = j) = false by simp; omega]; simp) (by rw [tb_andn', tk]; simp) (by rw [tb_or, hk]; rfl) 7
  have h1 := rep_cnt1 hF hb7 hk7 hb hk
  rw [show decide (k < 7) = true by simpa using hk7] at h
  unfold count at *
  simp only [nb_true] at h
  omega
theorem rep_c0 {F : Int} {b k : Nat} (hF : Bits7 F) (hb7 : b < 7) (hk7 : k < 7) (hb : tb F b = false) (hk : tb F k = true) : Cok ⟨F, 0, 0, 0⟩ := by
  have z : ∀ i, tb 0 i = false := tb_zero
  refine ⟨hF, ⟨Int.le_refl 0, by show (0 : Int) ≤ 127; decide⟩, ⟨Int.le_refl 0, by show (0 : Int) ≤ 127; decide⟩, ⟨Int.le_refl 0, by show (0 : Int) ≤ 127; decide⟩, fun e => ?_, fun i => by simp [z], fun i => by simp [z], fun i => by simp [z], fun i => by simp [z], fun i => by simp [z], fun i => by simp [z]⟩
  have e : F = 0 := e
  rw [e, z] at hk; cases hk
theorem rep_free {F : Int} {b k : Nat} (hF : Bits7 F) (hb7 : b < 7) (hk7 : k < 7) (hb : tb F b = false) (hk : tb F k = true) : free (⟨F, 0, 0, 0⟩ : Conf) b := ⟨hb, tb_zero _, tb_zero _, tb_zero _⟩
theorem rep_bor0 {F : Int} {b k : Nat} (hF : Bits7 F) (hb7 : b < 7) (hk7 : k < 7) (hb : tb F b = false) (hk : tb F k = true) : bor 0 (rB b) = rB b := ext64 (isI_bor _ _) (bits7_shl hb7).isI fun i _ => by rw [tb_or, tb_zero, Bool.false_or]
theorem rep_self {F : Int} {b k : Nat} (hF : Bits7 F) (hb7 : b < 7) (hk7 : k < 7) (hb : tb F b = false) (hk : tb F k = true) : bandn (rB b) (rB b) = 0 := ext0 (isI_bandn _ _) fun i _ => by rw [tb_andn']; simp
theorem rep_z {F : Int} {b k : Nat} (hF : Bits7 F) (hb7 : b < 7) (hk7 : k < 7) (hb : tb F b = false) (hk : tb F k = true) : bandn 0 (rB k) = 0 := ext0 (isI_bandn _ _) fun i _ => by rw [tb_andn', tb_zero]; rfl
theorem rep_c1 {F : Int} {b k : Nat} (hF : Bits7 F) (hb7 : b < 7) (hk7 : k < 7) (hb : tb F b = false) (hk : tb F k = true) : Cok ⟨F, 0, rB b, 0⟩ := by
  have := addL_ok (rep_c0 hF hb7 hk7 hb hk) hb7 (rep_free hF hb7 hk7 hb hk)
  unfold addL at this
  rw [show bor 0 (shl 1 (b : Int)) = rB b from rep_bor0 hF hb7 hk7 hb hk] at this
  exact this
theorem rep_c2 {F : Int} {b k : Nat} (hF : Bits7 F) (hb7 : b < 7) (hk7 : k < 7) (hb : tb F b = false) (hk : tb F k = true) : Cok ⟨bor F (rB b), 0, 0, 0⟩ := by
  have := proL_ok (rep_c1 hF hb7 hk7 hb hk) hb7 (by rw [rbit hF hb7 hk7 hb hk]; simp)
  unfold proL at this
  rw [show bandn (rB b) (shl 1 (b : Int)) = 0 from rep_self hF hb7 hk7 hb hk] at this
  exact this
theorem rep_c3 {F : Int} {b k : Nat} (hF : Bits7 F) (hb7 : b < 7) (hk7 : k < 7) (hb : tb F b = false) (hk : tb F k = true) : Cok ⟨bandn (bor F (rB b)) (rB k), 0, 0, 0⟩ := by
  have := dele_ok (rep_c2 hF hb7 hk7 hb hk) hk7 ⟨b, fun e => rep_ne hF hb7 hk7 hb hk e.symm, by show tb (bor F (rB b)) b = true; rw [tb_or, rbit hF hb7 hk7 hb hk]; simp⟩
  unfold dele at this
  rw [show bandn 0 (shl 1 (k : Int)) = 0 from rep_z hF hb7 hk7 hb hk] at this
  exact this
theorem rep_sil {F : Int} {b k : Nat} (hF : Bits7 F) (hb7 : b < 7) (hk7 : k < 7) (hb : tb F b = false) (hk : tb F k = true) (i : Nat) : tb (band (rB k) 127) i = decide (k = i) := by
  rw [tb_and, tb_127, show tb (rB k) i = decide (k = i) from tb_shl k i (by omega)]
  by_cases e : k = i
  · subst e; simp [hk7]
  · simp [e]
theorem low_0 {F : Int} {b k : Nat} (hF : Bits7 F) (hb7 : b < 7) (hk7 : k < 7) (hb : tb F b = false) (hk : tb F k = true) (x : Int) : lowB (band 0 x) = -1 := low_none fun n _ => by rw [tb_and, tb_zero]; rfl
theorem rep_rdy0 {F : Int} {b k : Nat} (hF : Bits7 F) (hb7 : b < 7) (hk7 : k < 7) (hb : tb F b = false) (hk : tb F k = true) (full wit x : Int) (f : Int) : lowB (readyB ⟨f, 0, 0, 0⟩ full wit x) = -1 := low_none fun n _ => by
  unfold readyB
  repeat' split
  all_goals simp only [tb_or, tb_and, tb_zero, Bool.false_and, Bool.or_false, Bool.false_or]
theorem rep_rdy {F : Int} {b k : Nat} (hF : Bits7 F) (hb7 : b < 7) (hk7 : k < 7) (hb : tb F b = false) (hk : tb F k = true) (x : Int) (n : Int) : lowB (readyB ⟨F, 0, rB b, 0⟩ n 0 0) = -1 := low_none fun n _ => by
  unfold readyB
  repeat' split
  all_goals simp only [tb_or, tb_and, tb_zero, Bool.and_false, Bool.or_false, Bool.false_or]
theorem lwit_none {F : Int} {b k : Nat} (hF : Bits7 F) (hb7 : b < 7) (hk7 : k < 7) (hb : tb F b = false) (hk : tb F k = true) (f l : Int) (p : List Pl) (s x : Int) : lrnS ⟨f, 0, l, 0⟩ p 0 0 0 s x true = none := by
  unfold lrnS
  rw [if_pos (.inr (.inr ⟨cnt_0, and0.2 fun i => by rw [tb_zero]; rfl⟩))]
theorem too_none {F : Int} {b k : Nat} (hF : Bits7 F) (hb7 : b < 7) (hk7 : k < 7) (hb : tb F b = false) (hk : tb F k = true) (c : Conf) (sil : Int) : tooS c 0 0 sil = none := by
  unfold tooS; rw [if_pos (by rw [cnt_0]; omega)]
theorem too_le {F : Int} {b k : Nat} (hF : Bits7 F) (hb7 : b < 7) (hk7 : k < 7) (hb : tb F b = false) (hk : tb F k = true) (c : Conf) {v n : Int} (sil : Int) (h : count v ≤ n) : tooS c v n sil = none := by
  unfold tooS; rw [if_pos h]
theorem rep_1 {F : Int} {b k : Nat} (hF : Bits7 F) (hb7 : b < 7) (hk7 : k < 7) (hb : tb F b = false) (hk : tb F k = true) {p : List Pl} (hp : plsB p = true) {sp : Int} (hsp : ∀ n : Nat, tb sp n = true → n < 7 ∧ tb F n = false) (hbest : bestP p sp = b) :
    nextS ⟨F, 0, 0, 0⟩ (count F) 0 p sp 0 (band (rB k) 127) (band 0 127) = some ⟨F, 0, rB b, 0⟩ := by
  have hbb : bestP p (lrnBits ⟨F, 0, 0, 0⟩ sp (band (rB k) 127)) = b := by
    rw [best_congr hp (b := sp), hbest]
    intro n hn
    unfold lrnBits
    rw [tb_andn', tb_andn', tb_and, tb_all, rep_sil hF hb7 hk7 hb hk, tb_127]
    simp only [tb_zero]
    cases hs : tb sp n with
    | false => rfl
    | true =>
      have h1 := (hsp n hs).2
      rw [h1, decide_eq_true hn]
      have : ¬ k = n := fun e => by subst e; rw [hk] at h1; cases h1
      simp [any4, this]
  unfold nextS
  rw [show lowB (band (bor 0 0) (band (rB k) 127)) = -1 from low_none fun n _ => by rw [tb_and, tb_or, tb_zero]; rfl, remove_no, Option.none_or, rep_rdy0 hF hb7 hk7 hb hk, promote_no, Option.none_or, too_le hF hb7 hk7 hb hk _ _ (Int.le_refl _), Option.none_or, too_none hF hb7 hk7 hb hk, Option.none_or]
  unfold lrnS
  rw [if_neg (full_1 rfl rfl ⟨k, hk, by rw [rep_sil hF hb7 hk7 hb hk]; simp⟩), hbb, learnR_ok (rep_c0 hF hb7 hk7 hb hk) hb7 (rep_free hF hb7 hk7 hb hk), okS_ok, Option.some_or]
  show some (⟨F, 0, bor 0 (rB b), 0⟩ : Conf) = _
  rw [rep_bor0 hF hb7 hk7 hb hk]
theorem rep_gone1 {F : Int} {b k : Nat} (hF : Bits7 F) (hb7 : b < 7) (hk7 : k < 7) (hb : tb F b = false) (hk : tb F k = true) : lowB (band (bor (rB b) 0) (band (rB k) 127)) = -1 := low_none fun n _ => by
  have hne := rep_ne hF hb7 hk7 hb hk
  rw [tb_and, tb_or, tb_zero, rep_sil hF hb7 hk7 hb hk, rbit hF hb7 hk7 hb hk]
  by_cases e : b = n
  · subst e; simp [hne]
  · simp [e]
theorem rB_ne {F : Int} {b k : Nat} (hF : Bits7 F) (hb7 : b < 7) (hk7 : k < 7) (hb : tb F b = false) (hk : tb F k = true) : rB b ≠ 0 := fun e => by
  have := rbit hF hb7 hk7 hb hk b
  rw [e, tb_zero] at this
  simp at this
theorem rep_2 {F : Int} {b k : Nat} (hF : Bits7 F) (hb7 : b < 7) (hk7 : k < 7) (hb : tb F b = false) (hk : tb F k = true) (p : List Pl) (sp : Int) : nextS ⟨F, 0, rB b, 0⟩ (count F) 0 p sp 0 (band (rB k) 127) (band 0 127) = none := by
  unfold nextS
  rw [rep_gone1 hF hb7 hk7 hb hk, remove_no, Option.none_or, show lowB (readyB ⟨F, 0, rB b, 0⟩ (count F) 0 (band 0 127)) = -1 from low_none fun n _ => by
    unfold readyB
    repeat' split
    all_goals simp only [tb_or, tb_and, tb_zero, Bool.and_false, Bool.or_false, Bool.false_or, Bool.false_and], promote_no, Option.none_or, too_le hF hb7 hk7 hb hk _ _ (Int.le_refl _), Option.none_or, too_none hF hb7 hk7 hb hk, Option.none_or, lwit_none hF hb7 hk7 hb hk, Option.or_none]
  unfold lrnS
  rw [if_pos (.inl (rB_ne hF hb7 hk7 hb hk))]
theorem rep_3 {F : Int} {b k : Nat} (hF : Bits7 F) (hb7 : b < 7) (hk7 : k < 7) (hb : tb F b = false) (hk : tb F k = true) (p : List Pl) (sp : Int) : nextS ⟨F, 0, rB b, 0⟩ (count F) 0 p sp 0 (band (rB k) 127) (band (rB b) 127) = some ⟨bor F (rB b), 0, 0, 0⟩ := by
  have hl : lowB (readyB ⟨F, 0, rB b, 0⟩ (count F) 0 (band (rB b) 127)) = b := by
    have hbit : ∀ j, tb (readyB ⟨F, 0, rB b, 0⟩ (count F) 0 (band (rB b) 127)) j = decide (b = j) := fun j => by
      unfold readyB
      rw [if_pos (by rw [cnt_0]; omega), if_pos (Int.le_refl _)]
      simp only [tb_or, tb_and, tb_zero, rbit hF hb7 hk7 hb hk, tb_127, Bool.false_or, Bool.false_and, Bool.or_false]
      by_cases e : b = j
      · subst e; simp [hb7]
      · simp [e]
    refine low_only hb7 (by rw [hbit]; simp) fun j hj => by rw [hbit]; simp; omega
  unfold nextS
  rw [rep_gone1 hF hb7 hk7 hb hk, remove_no, Option.none_or, hl, promoteR_okL (rep_c1 hF hb7 hk7 hb hk) hb7 (by rw [rbit hF hb7 hk7 hb hk]; simp), okS_ok, Option.some_or]
  show some (⟨bor F (rB b), 0, bandn (rB b) (rB b), 0⟩ : Conf) = _
  rw [rep_self hF hb7 hk7 hb hk]
theorem rep_4 {F : Int} {b k : Nat} (hF : Bits7 F) (hb7 : b < 7) (hk7 : k < 7) (hb : tb F b = false) (hk : tb F k = true) (p : List Pl) (sp x : Int) : nextS ⟨bor F (rB b), 0, 0, 0⟩ (count F) 0 p sp 0 (band (rB k) 127) x = some ⟨bandn (bor F (rB b)) (rB k), 0, 0, 0⟩ := by
  have hl : lowB (band (bor F (rB b)) (band (rB k) 127)) = k := by
    refine low_only hk7 ?_ fun j hj => ?_
    · rw [tb_and, rep_sil hF hb7 hk7 hb hk, tb_or, hk]; simp
    · rw [tb_and, rep_sil hF hb7 hk7 hb hk, show decide (k = j) = false by simp; omega, Bool.and_false]
  unfold nextS
  rw [show lowB (band (bor 0 0) (band (rB k) 127)) = -1 from low_none fun n _ => by rw [tb_and, tb_or, tb_zero]; rfl, remove_no, Option.none_or, rep_rdy0 hF hb7 hk7 hb hk, promote_no, Option.none_or]
  unfold tooS
  rw [if_neg (by rw [rep_cnt1 hF hb7 hk7 hb hk]; omega), hl, removeR_ok (rep_c2 hF hb7 hk7 hb hk) hk7 (fun hf => by
    have h := hf.1
    have h : tb (bor F (rB b)) k = false := h
    rw [tb_or, hk] at h; cases h) ⟨b, fun e => rep_ne hF hb7 hk7 hb hk e.symm, by show tb (bor F (rB b)) b = true; rw [tb_or, rbit hF hb7 hk7 hb hk]; simp⟩, okS_ok, Option.some_or]
  show some (⟨bandn (bor F (rB b)) (rB k), bandn 0 (rB k), bandn 0 (rB k), bandn 0 (rB k)⟩ : Conf) = _
  rw [rep_z hF hb7 hk7 hb hk]
theorem rep_sil0 {F : Int} {b k : Nat} (hF : Bits7 F) (hb7 : b < 7) (hk7 : k < 7) (hb : tb F b = false) (hk : tb F k = true) : band (bandn (bor F (rB b)) (rB k)) (band (rB k) 127) = 0 := and0.2 fun i => by
  rw [tb_andn', rep_sil hF hb7 hk7 hb hk, show tb (rB k) i = decide (k = i) from tb_shl k i (by omega)]
  by_cases e : k = i <;> simp [e]
theorem rep_5 {F : Int} {b k : Nat} (hF : Bits7 F) (hb7 : b < 7) (hk7 : k < 7) (hb : tb F b = false) (hk : tb F k = true) (p : List Pl) (sp x : Int) : nextS ⟨bandn (bor F (rB b)) (rB k), 0, 0, 0⟩ (count F) 0 p sp 0 (band (rB k) 127) x = none := by
  unfold nextS
  rw [show lowB (band (bor 0 0) (band (rB k) 127)) = -1 from low_none fun n _ => by rw [tb_and, tb_or, tb_zero]; rfl, remove_no, Option.none_or, rep_rdy0 hF hb7 hk7 hb hk, promote_no, Option.none_or, too_le hF hb7 hk7 hb hk _ _ (by rw [rep_cnt2 hF hb7 hk7 hb hk]; omega), Option.none_or, too_none hF hb7 hk7 hb hk, Option.none_or, lwit_none hF hb7 hk7 hb hk, Option.or_none]
  unfold lrnS
  rw [if_pos (.inr (.inr ⟨rep_cnt2 hF hb7 hk7 hb hk, rep_sil0 hF hb7 hk7 hb hk⟩))]
theorem rep_done {F : Int} {b k : Nat} (hF : Bits7 F) (hb7 : b < 7) (hk7 : k < 7) (hb : tb F b = false) (hk : tb F k = true) : doneB ⟨bandn (bor F (rB b)) (rB k), 0, 0, 0⟩ (count F) 0 (rB k) = true := by
  unfold doneB
  rw [if_pos (rep_cnt2 hF hb7 hk7 hb hk), if_pos cnt_0, if_pos (and0.2 fun i => by rw [tb_or, tb_zero]; rfl)]
  refine decide_eq_true (and0.2 fun i => ?_)
  rw [tb_and, tb_or, tb_zero, tb_andn']
  cases tb (rB k) i <;> simp
end Go.Proofs
