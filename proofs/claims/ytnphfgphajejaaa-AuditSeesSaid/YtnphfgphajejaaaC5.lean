/- Plain facts: steps of configurations. -/
import Derived.Test.YtnphfgphajejaaaC4
namespace Go.Proofs
open Go.Pv
set_option maxRecDepth 100000

def one4 (a b c d : Bool) : Bool := !(a && b) && !(a && c) && !(b && c) && !(a && d) && !(b && d) && !(c && d)
def any4 (a b c d : Bool) : Bool := a || b || c || d

theorem Cok.one {c : Conf} (h : Cok c) (i : Nat) : one4 (tb c.full i) (tb c.wit i) (tb c.learn i) (tb c.lwit i) = true := by
  have h1 := h.fw i; have h2 := h.fl i; have h3 := h.wl i; have h4 := h.fx i; have h5 := h.wx i; have h6 := h.lx i
  simp [one4, h1, h2, h3, h4, h5, h6]

theorem Cok.of {c : Conf} (f : Bits7 c.full) (w : Bits7 c.wit) (l : Bits7 c.learn) (x : Bits7 c.lwit) (i0 : Nat) (h0 : tb c.full i0 = true) (h : ∀ i, one4 (tb c.full i) (tb c.wit i) (tb c.learn i) (tb c.lwit i) = true) : Cok c := by
  refine ⟨f, w, l, x, ?_, ?_, ?_, ?_, ?_, ?_, ?_⟩
  · intro e; rw [e, tb_zero] at h0; cases h0
  all_goals (intro i; have := h i; revert this; unfold one4; cases tb c.full i <;> cases tb c.wit i <;> cases tb c.learn i <;> cases tb c.lwit i <;> simp)

theorem bits7_shl {n : Nat} (h : n < 7) : Bits7 (shl 1 n) := bits7_of (by
  rw [shl_one n (by omega)]
  have : (2 : Nat) ^ n < 2 ^ 7 := Nat.pow_lt_pow_right (by decide) h
  generalize (2 : Nat) ^ n = m at this
  unfold isI; omega) fun i h7 _ => by rw [tb_shl n i (by omega)]; simp; omega

theorem tb_all (c : Conf) (i : Nat) : tb (allB c) i = any4 (tb c.full i) (tb c.wit i) (tb c.learn i) (tb c.lwit i) := by
  unfold allB any4; rw [tb_or, tb_or, tb_or]

theorem steppedR_ok {c : Conf} (h : Cok c) : steppedR c = (c, 0) := by
  unfold steppedR; rw [if_pos ((confB_iff c).2 h)]

theorem wrongR_ok {c : Conf} (h : Cok c) {n : Nat} (hn : n < 7) : wrongR c n = 0 := by
  unfold wrongR; rw [if_pos ((confB_iff c).2 h), if_pos (by simp [withinB]; omega)]

/-- None at n. -/
def free (c : Conf) (n : Nat) : Prop := tb c.full n = false ∧ tb c.wit n = false ∧ tb c.learn n = false ∧ tb c.lwit n = false
theorem free_iff {c : Conf} {n : Nat} (hn : n < 7) : band (allB c) (shl 1 n) = 0 ↔ free c n := by
  rw [bit0_iff hn, tb_all]; unfold any4 free
  cases tb c.full n <;> cases tb c.wit n <;> cases tb c.learn n <;> cases tb c.lwit n <;> simp

noncomputable abbrev addL (c : Conf) (n : Nat) : Conf := ⟨c.full, c.wit, bor c.learn (shl 1 n), c.lwit⟩
noncomputable abbrev addX (c : Conf) (n : Nat) : Conf := ⟨c.full, c.wit, c.learn, bor c.lwit (shl 1 n)⟩
noncomputable abbrev proL (c : Conf) (n : Nat) : Conf := ⟨bor c.full (shl 1 n), c.wit, bandn c.learn (shl 1 n), c.lwit⟩
noncomputable abbrev proX (c : Conf) (n : Nat) : Conf := ⟨c.full, bor c.wit (shl 1 n), c.learn, bandn c.lwit (shl 1 n)⟩
noncomputable abbrev dele (c : Conf) (n : Nat) : Conf := ⟨bandn c.full (shl 1 n), bandn c.wit (shl 1 n), bandn c.learn (shl 1 n), bandn c.lwit (shl 1 n)⟩

theorem tb_andn' (a b : Int) (i : Nat) : tb (bandn a b) i = (tb a i && !tb b i) := by
  by_cases h : i < 64
  · exact tb_andn a b i h
  · rw [show tb (bandn a b) i = false from BitVec.getLsbD_of_ge _ _ (by omega), show tb a i = false from BitVec.getLsbD_of_ge _ _ (by omega)]; rfl

theorem addL_ok {c : Conf} (h : Cok c) {n : Nat} (hn : n < 7) (hf : free c n) : Cok (addL c n) := by
  obtain ⟨i0, _, h0⟩ := h.some
  refine Cok.of h.f h.w (bits7_or h.l (bits7_shl hn)) h.x i0 h0 fun i => ?_
  obtain ⟨f1, f2, f3, f4⟩ := hf
  have := h.one i
  rw [tb_or, tb_shl n i (by omega)]
  by_cases e : n = i
  · subst e; rw [f1, f2, f3, f4]; simp [one4]
  · simp only [e, decide_false, Bool.or_false]; exact this
theorem addX_ok {c : Conf} (h : Cok c) {n : Nat} (hn : n < 7) (hf : free c n) : Cok (addX c n) := by
  obtain ⟨i0, _, h0⟩ := h.some
  refine Cok.of h.f h.w h.l (bits7_or h.x (bits7_shl hn)) i0 h0 fun i => ?_
  obtain ⟨f1, f2, f3, f4⟩ := hf
  have := h.one i
  rw [tb_or, tb_shl n i (by omega)]
  by_cases e : n = i
  · subst e; rw [f1, f2, f3, f4]; simp [one4]
  · simp only [e, decide_false, Bool.or_false]; exact this
theorem proL_ok {c : Conf} (h : Cok c) {n : Nat} (hn : n < 7) (hl : tb c.learn n = true) : Cok (proL c n) := by
  obtain ⟨i0, _, h0⟩ := h.some
  refine Cok.of (bits7_or h.f (bits7_shl hn)) h.w (bits7_andn h.l) h.x i0 (by rw [tb_or, h0]; rfl) fun i => ?_
  have := h.one i
  simp only [tb_or, tb_andn', tb_shl n i (by omega : n < 63)]
  by_cases e : n = i
  · subst e; rw [hl] at this; revert this; cases tb c.full n <;> cases tb c.wit n <;> cases tb c.lwit n <;> simp [one4]
  · simp only [e, decide_false, Bool.or_false, Bool.not_false, Bool.and_true]; exact this
theorem proX_ok {c : Conf} (h : Cok c) {n : Nat} (hn : n < 7) (hl : tb c.lwit n = true) : Cok (proX c n) := by
  obtain ⟨i0, _, h0⟩ := h.some
  refine Cok.of h.f (bits7_or h.w (bits7_shl hn)) h.l (bits7_andn h.x) i0 h0 fun i => ?_
  have := h.one i
  simp only [tb_or, tb_andn', tb_shl n i (by omega : n < 63)]
  by_cases e : n = i
  · subst e; rw [hl] at this; revert this; cases tb c.full n <;> cases tb c.wit n <;> cases tb c.learn n <;> simp [one4]
  · simp only [e, decide_false, Bool.or_false, Bool.not_false, Bool.and_true]; exact this
theorem dele_ok {c : Conf} (h : Cok c) {n : Nat} (hn : n < 7) (hx : ∃ i, i ≠ n ∧ tb c.full i = true) : Cok (dele c n) := by
  obtain ⟨i0, hi0, h0⟩ := hx
  refine Cok.of (bits7_andn h.f) (bits7_andn h.w) (bits7_andn h.l) (bits7_andn h.x) i0 (by rw [tb_andn', h0, tb_shl n i0 (by omega)]; simp; omega) fun i => ?_
  have := h.one i
  simp only [tb_andn', tb_shl n i (by omega : n < 63)]
  by_cases e : n = i
  · subst e; simp [one4]
  · simp only [e, decide_false, Bool.not_false, Bool.and_true]; exact this

theorem Conf.ext' {a b : Conf} (h1 : a.full = b.full) (h2 : a.wit = b.wit) (h3 : a.learn = b.learn) (h4 : a.lwit = b.lwit) : a = b := by
  cases a; cases b; simp_all

/-- Right configurations are the same if their bits are. -/
theorem Cok.ext {a b : Conf} (ha : Cok a) (hb : Cok b) (h : ∀ i, i < 7 → tb a.full i = tb b.full i ∧ tb a.wit i = tb b.wit i ∧ tb a.learn i = tb b.learn i ∧ tb a.lwit i = tb b.lwit i) : a = b :=
  Conf.ext' (ext7 ha.f hb.f fun i hi => (h i hi).1) (ext7 ha.w hb.w fun i hi => (h i hi).2.1) (ext7 ha.l hb.l fun i hi => (h i hi).2.2.1) (ext7 ha.x hb.x fun i hi => (h i hi).2.2.2)

/-- What a step leads to, where it does. -/
theorem learnR_ok {c : Conf} (h : Cok c) {n : Nat} (hn : n < 7) (hf : free c n) (wit : Bool) : learnR c n wit = (if wit then addX c n else addL c n, 0) := by
  unfold learnR
  rw [if_pos (wrongR_ok h hn), if_pos ((free_iff hn).2 hf)]
  cases wit
  · exact steppedR_ok (addL_ok h hn hf)
  · exact steppedR_ok (addX_ok h hn hf)

theorem nat_of {i : Int} (h : 0 ≤ i ∧ i < 7) : ∃ n : Nat, i = n ∧ n < 7 := ⟨i.toNat, by omega, by omega⟩

theorem learnR_inv {c : Conf} {i : Int} {wit : Bool} (h : (learnR c i wit).2 = 0) : ∃ n : Nat, i = n ∧ n < 7 ∧ Cok c ∧ free c n := by
  unfold learnR at h
  by_cases hw : wrongR c i = 0
  · obtain ⟨h1, h2⟩ := wrongR0 hw
    obtain ⟨n, rfl, hn⟩ := nat_of h2
    refine ⟨n, rfl, hn, (confB_iff c).1 h1, ?_⟩
    rw [if_pos hw] at h
    by_cases hb : band (allB c) (shl 1 n) = 0
    · exact (free_iff hn).1 hb
    · rw [if_neg hb] at h; simp at h
  · rw [if_neg hw] at h; exact absurd h hw

theorem promoteR_okL {c : Conf} (h : Cok c) {n : Nat} (hn : n < 7) (hl : tb c.learn n = true) : promoteR c n = (proL c n, 0) := by
  unfold promoteR
  rw [if_pos (wrongR_ok h hn), if_neg (by rw [bit0_iff hn, hl]; simp)]
  exact steppedR_ok (proL_ok h hn hl)
theorem promoteR_okX {c : Conf} (h : Cok c) {n : Nat} (hn : n < 7) (hl : tb c.lwit n = true) : promoteR c n = (proX c n, 0) := by
  unfold promoteR
  have h2 := h.lx n
  rw [hl, Bool.and_true] at h2
  rw [if_pos (wrongR_ok h hn), if_pos (by rw [bit0_iff hn]; exact h2), if_neg (by rw [bit0_iff hn, hl]; simp)]
  exact steppedR_ok (proX_ok h hn hl)
theorem removeR_ok {c : Conf} (h : Cok c) {n : Nat} (hn : n < 7) (hf : ¬ free c n) (hx : ∃ i, i ≠ n ∧ tb c.full i = true) : removeR c n = (dele c n, 0) := by
  unfold removeR
  rw [if_pos (wrongR_ok h hn), if_neg (by rw [free_iff hn]; exact hf)]
  exact steppedR_ok (dele_ok h hn hx)

theorem kindR_eq (c : Conf) {n : Nat} (hn : n < 7) : kindR c n = if tb c.full n then sFull else if tb c.wit n then sWit else if tb c.learn n then sLearn else if tb c.lwit n then sLwit else sE := by
  unfold kindR
  rw [if_pos (by simp [withinB]; omega)]
  simp only [ne_eq, bit0_iff hn, Bool.not_eq_false]

theorem c_kConf (a b : Conf) : Ctr Try.prog 56 [.ag a.enc, .ag b.enc] (bv (decide (a = b))) [] := by
  refine spec_of_body mixed Try.func56 rfl (by kernel_rfl) (by kernel_rfl) ?_; conv => whnf
  repeat' ((first | (with_reducible refine split_dec (fun h => ?_) (fun h => ?_)) | (with_reducible refine split_beq (fun h => ?_) (fun h => ?_)) | (with_reducible refine split_bne (fun h => ?_) (fun h => ?_)) | (with_reducible refine split_not (fun h => ?_) (fun h => ?_)) | (with_reducible refine split_beqS (fun h => ?_) (fun h => ?_)) | (with_reducible refine split_intro (fun h => ?_) (fun h => ?_))) <;> conv => whnf)
  all_goals (refine exit_plain rfl ?_)
  all_goals (refine congrArg (fun b : Bool => bv b) ?_; symm)
  · have e : a = b ↔ a.lwit = b.lwit := ⟨fun e => by rw [e], fun e => Conf.ext' (by assumption) (by assumption) (by assumption) e⟩
    rw [decide_eq_decide.2 e]; rfl
  all_goals (rw [decide_eq_false]; intro e; subst e; contradiction)
end Go.Proofs
