import Derived.Test.YtnphfgphajejaaaC5
namespace Go.Proofs
open Go.Pv
set_option maxRecDepth 100000

theorem stepped_err {c : Conf} (h : (steppedR c).2 ≠ 0) : (steppedR c).1 = cz := by
  unfold steppedR at *; split <;> simp_all
theorem learnR_err {c : Conf} {i : Int} {wit : Bool} (h : (learnR c i wit).2 ≠ 0) : (learnR c i wit).1 = cz := by
  unfold learnR at *
  repeat' split
  all_goals first | rfl | skip
  all_goals (simp_all; exact stepped_err h)

theorem dele_same {c d : Conf} (h : Cok c) (hd : Cok d) {n : Nat} (hn : n < 7) (hf : free c n) (he : ∀ i, i ≠ n → tb d.full i = tb c.full i ∧ tb d.wit i = tb c.wit i ∧ tb d.learn i = tb c.learn i ∧ tb d.lwit i = tb c.lwit i) (hx : ¬ free d n) : removeR d n = (c, 0) := by
  obtain ⟨f1, f2, f3, f4⟩ := hf
  have hx2 : ∃ i, i ≠ n ∧ tb d.full i = true := by
    obtain ⟨i, hi, h0⟩ := h.some
    have : i ≠ n := fun e => by subst e; rw [f1] at h0; cases h0
    exact ⟨i, this, by rw [(he i this).1]; exact h0⟩
  rw [removeR_ok hd hn hx hx2]
  congr 1
  refine Cok.ext (dele_ok hd hn hx2) h fun i hi => ?_
  simp only [tb_andn', tb_shl n i (by omega : n < 63)]
  by_cases e : n = i
  · subst e; simp [f1, f2, f3, f4]
  · simp only [e, decide_false, Bool.not_false, Bool.and_true]; exact he i (fun x => e x.symm)

theorem roundL {c : Conf} (h : Cok c) {n : Nat} (hn : n < 7) (hf : free c n) : removeR (addL c n) n = (c, 0) ∧ promoteR (addL c n) n = (proL (addL c n) n, 0) ∧ removeR (proL (addL c n) n) n = (c, 0) ∧ kindR (addL c n) n = sLearn ∧ kindR (proL (addL c n) n) n = sFull := by
  have ha := addL_ok h hn hf
  have hl : tb (addL c n).learn n = true := by rw [tb_or, tb_shl n n (by omega)]; simp
  have hp := proL_ok ha hn hl
  refine ⟨dele_same h ha hn hf ?_ ?_, promoteR_okL ha hn hl, dele_same h hp hn hf ?_ ?_, ?_, ?_⟩
  · intro i hi; simp only [tb_or, tb_shl n i (by omega : n < 63)]; simp [Ne.symm hi]
  · rintro ⟨_, _, h3, _⟩; rw [hl] at h3; cases h3
  · intro i hi; simp only [tb_or, tb_andn', tb_shl n i (by omega : n < 63)]; simp [Ne.symm hi]
  · rintro ⟨h1, _, _, _⟩; simp only [tb_or, tb_shl n n (by omega : n < 63)] at h1; simp at h1
  · rw [kindR_eq _ hn]; simp [hf.1, hf.2.1, hl]
  · rw [kindR_eq _ hn]; simp [tb_or, tb_shl n n (by omega : n < 63)]
theorem roundX {c : Conf} (h : Cok c) {n : Nat} (hn : n < 7) (hf : free c n) : removeR (addX c n) n = (c, 0) ∧ promoteR (addX c n) n = (proX (addX c n) n, 0) ∧ removeR (proX (addX c n) n) n = (c, 0) ∧ kindR (addX c n) n = sLwit ∧ kindR (proX (addX c n) n) n = sWit := by
  have ha := addX_ok h hn hf
  have hl : tb (addX c n).lwit n = true := by rw [tb_or, tb_shl n n (by omega)]; simp
  have hp := proX_ok ha hn hl
  refine ⟨dele_same h ha hn hf ?_ ?_, promoteR_okX ha hn hl, dele_same h hp hn hf ?_ ?_, ?_, ?_⟩
  · intro i hi; simp only [tb_or, tb_shl n i (by omega : n < 63)]; simp [Ne.symm hi]
  · rintro ⟨_, _, _, h3⟩; rw [hl] at h3; cases h3
  · intro i hi; simp only [tb_or, tb_andn', tb_shl n i (by omega : n < 63)]; simp [Ne.symm hi]
  · rintro ⟨_, h1, _, _⟩; simp only [tb_or, tb_shl n n (by omega : n < 63)] at h1; simp at h1
  · rw [kindR_eq _ hn]; simp [hf.1, hf.2.1, hf.2.2.1, hl]
  · rw [kindR_eq _ hn]; simp [tb_or, tb_shl n n (by omega : n < 63), hf.1]

theorem c_kConf_same (a : Conf) : Ctr Try.prog 56 [.ag a.enc, .ag a.enc] (bv true) [] := by
  have := c_kConf a a
  rwa [decide_eq_true rfl] at this

set_option maxHeartbeats 1000000 in
theorem l_ConfRounds (c : Conf) (i : Int) (wit : Bool) : Ctr Try.prog 15 [.ag c.enc, iv i, bv wit] (bv true) [] := by
  by_cases he : (learnR c i wit).2 = 0
  · obtain ⟨n, rfl, hn, hk, hf⟩ := learnR_inv he
    have hl := c_Learn c n wit
    rw [learnR_ok hk hn hf] at hl
    cases wit
    · simp only [Bool.false_eq_true, if_false] at hl
      obtain ⟨e1, e2, e3, e4, e5⟩ := roundL hk hn hf
      have h1 := c_Remove (addL c n) n; rw [e1] at h1
      have h2 := c_Promote (addL c n) n; rw [e2] at h2
      have h3 := c_Remove (proL (addL c n) n) n; rw [e3] at h3
      have h4 := c_Kind0 (addL c n) n; rw [e4] at h4
      have h5 := c_Kind0 (proL (addL c n) n) n; rw [e5] at h5
      refine spec_of_body mixed Try.func15 rfl (by kernel_rfl) (by kernel_rfl) ?_; conv => whnf
      repeat' (first | (first | ((with_reducible refine call_by (hl) ?_); conv => whnf) | ((with_reducible refine call_by (h1) ?_); conv => whnf) | ((with_reducible refine call_by (h2) ?_); conv => whnf) | ((with_reducible refine call_by (h3) ?_); conv => whnf) | ((with_reducible refine call_by (h4) ?_); conv => whnf) | ((with_reducible refine call_by (h5) ?_); conv => whnf) | ((with_reducible refine call_by (c_kConf_same c) ?_); conv => whnf) | ((with_reducible refine call_by (c_Voters (addL c n)) ?_); conv => whnf) | ((with_reducible refine call_by (c_Voters c) ?_); conv => whnf) | ((with_reducible refine call_by (c_wakes08) ?_); conv => whnf)) | ((first | (with_reducible refine split_dec (fun h => ?_) (fun h => ?_)) | (with_reducible refine split_beq (fun h => ?_) (fun h => ?_)) | (with_reducible refine split_bne (fun h => ?_) (fun h => ?_)) | (with_reducible refine split_not (fun h => ?_) (fun h => ?_)) | (with_reducible refine split_beqS (fun h => ?_) (fun h => ?_)) | (with_reducible refine split_intro (fun h => ?_) (fun h => ?_))) <;> conv => whnf))
      all_goals (refine exit_plain rfl ?_)
      all_goals first | rfl | (exfalso; exact h rfl)
    · simp only [if_true] at hl
      obtain ⟨e1, e2, e3, e4, e5⟩ := roundX hk hn hf
      have h1 := c_Remove (addX c n) n; rw [e1] at h1
      have h2 := c_Promote (addX c n) n; rw [e2] at h2
      have h3 := c_Remove (proX (addX c n) n) n; rw [e3] at h3
      have h4 := c_Kind0 (addX c n) n; rw [e4] at h4
      have h5 := c_Kind0 (proX (addX c n) n) n; rw [e5] at h5
      refine spec_of_body mixed Try.func15 rfl (by kernel_rfl) (by kernel_rfl) ?_; conv => whnf
      repeat' (first | (first | ((with_reducible refine call_by (hl) ?_); conv => whnf) | ((with_reducible refine call_by (h1) ?_); conv => whnf) | ((with_reducible refine call_by (h2) ?_); conv => whnf) | ((with_reducible refine call_by (h3) ?_); conv => whnf) | ((with_reducible refine call_by (h4) ?_); conv => whnf) | ((with_reducible refine call_by (h5) ?_); conv => whnf) | ((with_reducible refine call_by (c_kConf_same c) ?_); conv => whnf) | ((with_reducible refine call_by (c_Voters (addX c n)) ?_); conv => whnf) | ((with_reducible refine call_by (c_Voters c) ?_); conv => whnf) | ((with_reducible refine call_by (c_wakes08) ?_); conv => whnf)) | ((first | (with_reducible refine split_dec (fun h => ?_) (fun h => ?_)) | (with_reducible refine split_beq (fun h => ?_) (fun h => ?_)) | (with_reducible refine split_bne (fun h => ?_) (fun h => ?_)) | (with_reducible refine split_not (fun h => ?_) (fun h => ?_)) | (with_reducible refine split_beqS (fun h => ?_) (fun h => ?_)) | (with_reducible refine split_intro (fun h => ?_) (fun h => ?_))) <;> conv => whnf))
      all_goals (refine exit_plain rfl ?_)
      all_goals first | rfl | (exfalso; exact h rfl)
  · have hl := c_Learn c i wit
    have hz := learnR_err he
    have hk := c_kConf_same cz
    generalize hp : learnR c i wit = p at *
    obtain ⟨a, e⟩ := p
    have hz : a = cz := hz
    subst hz
    refine spec_of_body mixed Try.func15 rfl (by kernel_rfl) (by kernel_rfl) ?_; conv => whnf
    (first | ((with_reducible refine call_by (hl) ?_); conv => whnf))
    ((first | (first | (with_reducible refine split_dt (by assumption) ?_) | (with_reducible refine split_df (by assumption) ?_) | (with_reducible refine split_et (by assumption) ?_) | (with_reducible refine split_ef (by assumption) ?_) | (with_reducible refine split_bt (by assumption) ?_) | (with_reducible refine split_bf (by assumption) ?_) | (with_reducible refine split_nt (by assumption) ?_) | (with_reducible refine split_nf (by assumption) ?_) | (with_reducible refine split_t (by assumption) ?_) | (with_reducible refine split_f (by assumption) ?_)) | (first | (with_reducible refine split_dec (fun h => ?_) (fun h => ?_)) | (with_reducible refine split_beq (fun h => ?_) (fun h => ?_)) | (with_reducible refine split_bne (fun h => ?_) (fun h => ?_)) | (with_reducible refine split_not (fun h => ?_) (fun h => ?_)) | (with_reducible refine split_beqS (fun h => ?_) (fun h => ?_)) | (with_reducible refine split_intro (fun h => ?_) (fun h => ?_)))) <;> conv => whnf)
    repeat' (first | (first | ((with_reducible refine call_by (hk) ?_); conv => whnf) | ((with_reducible refine call_by (c_wakes08) ?_); conv => whnf)))
    exact exit_plain rfl rfl

theorem told_ConfRounds (qs : List PV) (h : ArgsOf Try.prog [23, 3, 4] qs) : Ctr Try.prog 15 qs (bv true) [] := by
  obtain ⟨p1, qs, rfl, h1, h⟩ := argsOf_cons h
  obtain ⟨p2, qs, rfl, h2, h⟩ := argsOf_cons h
  obtain ⟨p3, qs, rfl, h3, h⟩ := argsOf_cons h
  obtain rfl := argsOf_nil h
  obtain ⟨c, rfl, _⟩ := arg_Conf h1
  obtain ⟨i, rfl, _⟩ := arg_i h2
  obtain ⟨k, rfl⟩ := arg_b h3
  exact l_ConfRounds c i k
end Go.Proofs
