import Derived.Test.YtbhfokahocgndaaC41
/- Contracts of functions: logs.Compact, logs.Install. -/
set_option linter.unusedSimpArgs false
set_option linter.unusedVariables false
namespace Go.Proofs
open Go.Pv
set_option maxRecDepth 100000

noncomputable def compE (h : Hrd) (i : Int) (s : List Int) : Int := if hardB h = true then (if h.base < i ∧ i ≤ lastI h ∧ i ≤ 1099511627776 then (if 16384 < s.length then 2 else 0) else 1) else 6
def compH (h : Hrd) (i : Int) (s : List Int) : Hrd := ⟨h.term, h.vote, i, termAt h i, (force h i).1, s, h.log.drop (i - h.base).toNat⟩

/-! Install. -/
noncomputable def instE (h : Hrd) (i t : Int) (c : Conf) (s : List Int) : Int := if hardB h = true then (if (h.base < i ∧ i ≤ 1099511627776) ∧ (1 ≤ t ∧ t ≤ h.term ∧ h.baseTerm ≤ t) then (if confB c = true then (if 16384 < s.length then 2 else 0) else 14) else 1) else 6
def instH (h : Hrd) (i t : Int) (c : Conf) (s : List Int) : Hrd := ⟨h.term, h.vote, i, t, c, s, if fits h i t = true then h.log.drop (i - h.base).toNat else []⟩
/-- A hard state in memory of its own, without a log. -/
abbrev Hrd.own0 (x : Hrd) (k : Nat) : List PV := [iv x.term, iv x.vote, iv x.base, iv x.baseTerm, iv x.baseConf.full, iv x.baseConf.wit, iv x.baseConf.learn, iv x.baseConf.lwit, .ow k 0 (x.snap.map encB).length, .nl]

theorem fits_in {a : Hrd} {i t : Int} (ht : t ≠ -1) (hf : fits a i t = true) (hi : a.base < i) : i - a.base ≤ a.log.length := by
  unfold fits at hf
  simp only [Bool.and_eq_true, beq_iff_eq] at hf
  have h2 := hf.2
  unfold termAt at h2
  rw [if_neg (by omega)] at h2
  cases he : entAt a i with
  | none => rw [he] at h2; simp only at h2; omega
  | some x => exact (entAt_inH he).2

set_option maxHeartbeats 4000000 in
theorem c_Install (a : Hrd) (h2 : a.log.length ≤ 4294967) (hb : isI a.base) (i : Int) (hi : isI i) (t : Int) (c : Conf) (s : List Int) (h3 : s.length ≤ 4294967296) :
    if instE a i t c s = 0 then
      (if fits a i t = true then Ctr Try.prog 93 [.ag a.enc, iv i, iv t, .ag c.enc, .sl 1 (s.map encB)] (.tu [.ag ((instH a i t c s).own 0), iv 0]) (instH a i t c s).obs
       else Ctr Try.prog 93 [.ag a.enc, iv i, iv t, .ag c.enc, .sl 1 (s.map encB)] (.tu [.ag ((instH a i t c s).own0 0), iv 0]) [(1, s.map encB)])
    else Ctr Try.prog 93 [.ag a.enc, iv i, iv t, .ag c.enc, .sl 1 (s.map encB)] (.tu [.ag hzv, iv (instE a i t c s)]) [] := by
  have hm : a.log.length ≤ maxLen := smallM (by omega)
  have hck := c_lCheck a hm
  by_cases hB : hardB a = true
  · rw [hB] at hck
    simp only [if_true] at hck
    have hb0 := (hardB_A hB).1.b
    have kF := c_Fits a hm hb i hi t
    have hcc := c_Check c
    unfold isI at hi
    by_cases hk : (a.base < i ∧ i ≤ 1099511627776) ∧ (1 ≤ t ∧ t ≤ a.term ∧ a.baseTerm ≤ t)
    · by_cases hC : confB c = true
      · rw [hC] at hcc
        simp only [if_true] at hcc
        by_cases hs : 16384 < s.length
        · have e : instE a i t c s = 2 := by unfold instE; rw [if_pos hB, if_pos hk, if_pos hC, if_pos hs]
          rw [e, if_neg (by decide)]
          refine spec_of_body mixed Try.func93 rfl (by kernel_rfl) (by kernel_rfl) ?_; conv => whnf
          ((try ((refine Exists.intro none ?_); (conv => whnf))); first | ((with_reducible refine call_by (hck) ?_); conv => whnf))
          repeat' ((first | (with_reducible refine split_dt (by first | assumption | omega) ?_) | (with_reducible refine split_df (by first | assumption | omega) ?_) | (with_reducible refine split_et (by first | assumption | omega) ?_) | (with_reducible refine split_ef (by first | assumption | omega) ?_) | (with_reducible refine split_bt (by first | assumption | omega) ?_) | (with_reducible refine split_bf (by first | assumption | omega) ?_) | (with_reducible refine split_nt (by assumption) ?_) | (with_reducible refine split_nf (by assumption) ?_) | (with_reducible refine split_t (by assumption) ?_) | (with_reducible refine split_f (by assumption) ?_)); (conv => whnf))
          ((try ((refine Exists.intro none ?_); (conv => whnf))); first | ((with_reducible refine call_by (hcc) ?_); conv => whnf))
          ((first | (with_reducible refine split_dec (fun h => ?_) (fun h => ?_)) | (with_reducible refine split_beq (fun h => ?_) (fun h => ?_)) | (with_reducible refine split_bne (fun h => ?_) (fun h => ?_)) | (with_reducible refine split_not (fun h => ?_) (fun h => ?_)) | (with_reducible refine split_beqS (fun h => ?_) (fun h => ?_)) | (with_reducible refine split_intro (fun h => ?_) (fun h => ?_))) <;> conv => whnf)
          · exact exit_plain rfl rfl
          · exfalso
            simp only [List.length_map] at h
            omega
        · have e : instE a i t c s = 0 := by unfold instE; rw [if_pos hB, if_pos hk, if_pos hC, if_neg hs]
          rw [if_pos e]
          cases hf : fits a i t with
          | true =>
            rw [if_pos rfl]
            rw [hf] at kF
            have hin := fits_in (by omega) hf hk.1.1
            obtain ⟨q, hq, hql⟩ : ∃ q : Nat, i - a.base = q ∧ q ≤ a.log.length := ⟨(i - a.base).toNat, by omega, by omega⟩
            have e1 : IntKind.i64.wrap (i - a.base) = (q : Int) := by rw [wrap_id (by omega) (by omega), hq]
            have e2 : List.drop (q : Int).toNat (List.take (((a.log.map Ent.enc).length : Nat) : Int).toNat (a.log.map Ent.enc)) = (a.log.drop q).map Ent.enc := by rw [Int.toNat_natCast, Int.toNat_natCast, List.take_length, List.map_drop]
            have c1 := c_CloneEntries (a.log.drop q) (by rw [List.length_drop]; omega)
            rw [show instH a i t c s = ⟨a.term, a.vote, i, t, c, s, a.log.drop q⟩ from by unfold instH; rw [hf, if_pos rfl, hq, Int.toNat_natCast]]
            refine spec_of_body mixed Try.func93 rfl (by kernel_rfl) (by kernel_rfl) ?_; conv => whnf
            ((try ((refine Exists.intro none ?_); (conv => whnf))); first | ((with_reducible refine call_by (hck) ?_); conv => whnf))
            repeat' ((first | (with_reducible refine split_dt (by first | assumption | omega) ?_) | (with_reducible refine split_df (by first | assumption | omega) ?_) | (with_reducible refine split_et (by first | assumption | omega) ?_) | (with_reducible refine split_ef (by first | assumption | omega) ?_) | (with_reducible refine split_bt (by first | assumption | omega) ?_) | (with_reducible refine split_bf (by first | assumption | omega) ?_) | (with_reducible refine split_nt (by assumption) ?_) | (with_reducible refine split_nf (by assumption) ?_) | (with_reducible refine split_t (by assumption) ?_) | (with_reducible refine split_f (by assumption) ?_)); (conv => whnf))
            ((try ((refine Exists.intro none ?_); (conv => whnf))); first | ((with_reducible refine call_by (hcc) ?_); conv => whnf))
            ((first | (with_reducible refine split_dec (fun h => ?_) (fun h => ?_)) | (with_reducible refine split_beq (fun h => ?_) (fun h => ?_)) | (with_reducible refine split_bne (fun h => ?_) (fun h => ?_)) | (with_reducible refine split_not (fun h => ?_) (fun h => ?_)) | (with_reducible refine split_beqS (fun h => ?_) (fun h => ?_)) | (with_reducible refine split_intro (fun h => ?_) (fun h => ?_))) <;> conv => whnf)
            · exfalso
              simp only [List.length_map] at h
              omega
            ((try ((refine Exists.intro none ?_); (conv => whnf))); first | ((with_reducible refine call_by (c_CloneBytes s h3) ?_); conv => whnf))
            (refine Exists.intro _ (And.intro rfl (And.intro (by intro q hq; first | (cases hq; done) | (simp only [List.mem_cons, List.not_mem_nil, or_false] at hq; rcases hq with rfl | rfl <;> (simp only [List.length_cons, List.length_nil]; omega)) | (simp only [List.mem_cons, List.not_mem_nil, or_false] at hq; subst hq; simp only [List.length_cons, List.length_nil]; omega)) (And.intro (by intro i hi; simp only [List.length_cons, List.length_nil, Nat.lt_one_iff, Nat.zero_add] at hi; subst hi; rfl) ?_))); conv => whnf)
            ((try ((refine Exists.intro none ?_); (conv => whnf))); first | ((with_reducible refine call_by (kF) ?_); conv => whnf))
            rw [e1]
            refine ⟨⟨by omega, by rw [List.length_map]; omega, Int.le_refl _⟩, ?_⟩
            conv => whnf
            refine Exists.intro none ?_
            conv => whnf
            rw [e2]
            ((try ((refine Exists.intro none ?_); (conv => whnf))); first | ((with_reducible refine call_by (c1) ?_); conv => whnf))
            (refine Exists.intro _ (And.intro rfl (And.intro (by intro q hq; first | (cases hq; done) | (simp only [List.mem_cons, List.not_mem_nil, or_false] at hq; rcases hq with rfl | rfl <;> (simp only [List.length_cons, List.length_nil]; omega)) | (simp only [List.mem_cons, List.not_mem_nil, or_false] at hq; subst hq; simp only [List.length_cons, List.length_nil]; omega)) (And.intro (by intro i hi; simp only [List.length_cons, List.length_nil, Nat.lt_one_iff, Nat.zero_add] at hi; subst hi; rfl) ?_))); conv => whnf)
            refine exit_own [(0, 992), (1, 1264)] rfl ⟨rfl, rfl, True.intro⟩ (wkV_tu ⟨wkV_ag ?_, wkV_same _ rfl, rfl⟩)
            conv => whnf
            repeat' (first | exact rfl | ((with_reducible refine And.intro ?_ ?_) <;> (first | (with_reducible exact wkV_same _ rfl) | exact wkV_ow rfl rfl rfl | (conv => whnf))))
          | false =>
            rw [if_neg (by decide)]
            rw [hf] at kF
            rw [show instH a i t c s = ⟨a.term, a.vote, i, t, c, s, []⟩ from by unfold instH; rw [hf, if_neg (by decide)]]
            refine spec_of_body mixed Try.func93 rfl (by kernel_rfl) (by kernel_rfl) ?_; conv => whnf
            ((try ((refine Exists.intro none ?_); (conv => whnf))); first | ((with_reducible refine call_by (hck) ?_); conv => whnf))
            repeat' ((first | (with_reducible refine split_dt (by first | assumption | omega) ?_) | (with_reducible refine split_df (by first | assumption | omega) ?_) | (with_reducible refine split_et (by first | assumption | omega) ?_) | (with_reducible refine split_ef (by first | assumption | omega) ?_) | (with_reducible refine split_bt (by first | assumption | omega) ?_) | (with_reducible refine split_bf (by first | assumption | omega) ?_) | (with_reducible refine split_nt (by assumption) ?_) | (with_reducible refine split_nf (by assumption) ?_) | (with_reducible refine split_t (by assumption) ?_) | (with_reducible refine split_f (by assumption) ?_)); (conv => whnf))
            ((try ((refine Exists.intro none ?_); (conv => whnf))); first | ((with_reducible refine call_by (hcc) ?_); conv => whnf))
            ((first | (with_reducible refine split_dec (fun h => ?_) (fun h => ?_)) | (with_reducible refine split_beq (fun h => ?_) (fun h => ?_)) | (with_reducible refine split_bne (fun h => ?_) (fun h => ?_)) | (with_reducible refine split_not (fun h => ?_) (fun h => ?_)) | (with_reducible refine split_beqS (fun h => ?_) (fun h => ?_)) | (with_reducible refine split_intro (fun h => ?_) (fun h => ?_))) <;> conv => whnf)
            · exfalso
              simp only [List.length_map] at h
              omega
            ((try ((refine Exists.intro none ?_); (conv => whnf))); first | ((with_reducible refine call_by (c_CloneBytes s h3) ?_); conv => whnf))
            (refine Exists.intro _ (And.intro rfl (And.intro (by intro q hq; first | (cases hq; done) | (simp only [List.mem_cons, List.not_mem_nil, or_false] at hq; rcases hq with rfl | rfl <;> (simp only [List.length_cons, List.length_nil]; omega)) | (simp only [List.mem_cons, List.not_mem_nil, or_false] at hq; subst hq; simp only [List.length_cons, List.length_nil]; omega)) (And.intro (by intro i hi; simp only [List.length_cons, List.length_nil, Nat.lt_one_iff, Nat.zero_add] at hi; subst hi; rfl) ?_))); conv => whnf)
            ((try ((refine Exists.intro none ?_); (conv => whnf))); first | ((with_reducible refine call_by (kF) ?_); conv => whnf))
            refine exit_own [(0, 992)] rfl ⟨rfl, True.intro⟩ (wkV_tu ⟨wkV_ag ?_, wkV_same _ rfl, rfl⟩)
            conv => whnf
            repeat' (first | exact rfl | ((with_reducible refine And.intro ?_ ?_) <;> (first | (with_reducible exact wkV_same _ rfl) | exact wkV_ow rfl rfl rfl | (conv => whnf))))
      · have e : instE a i t c s = 14 := by unfold instE; rw [if_pos hB, if_pos hk, if_neg hC]
        simp only [Bool.not_eq_true] at hC
        rw [hC] at hcc
        simp only [Bool.false_eq_true, if_false] at hcc
        rw [e, if_neg (by decide)]
        refine spec_of_body mixed Try.func93 rfl (by kernel_rfl) (by kernel_rfl) ?_; conv => whnf
        ((try ((refine Exists.intro none ?_); (conv => whnf))); first | ((with_reducible refine call_by (hck) ?_); conv => whnf))
        repeat' ((first | (with_reducible refine split_dt (by first | assumption | omega) ?_) | (with_reducible refine split_df (by first | assumption | omega) ?_) | (with_reducible refine split_et (by first | assumption | omega) ?_) | (with_reducible refine split_ef (by first | assumption | omega) ?_) | (with_reducible refine split_bt (by first | assumption | omega) ?_) | (with_reducible refine split_bf (by first | assumption | omega) ?_) | (with_reducible refine split_nt (by assumption) ?_) | (with_reducible refine split_nf (by assumption) ?_) | (with_reducible refine split_t (by assumption) ?_) | (with_reducible refine split_f (by assumption) ?_)); (conv => whnf))
        ((try ((refine Exists.intro none ?_); (conv => whnf))); first | ((with_reducible refine call_by (hcc) ?_); conv => whnf))
        exact exit_plain rfl rfl
    · have e : instE a i t c s = 1 := by unfold instE; rw [if_pos hB, if_neg hk]
      rw [e, if_neg (by decide)]
      refine spec_of_body mixed Try.func93 rfl (by kernel_rfl) (by kernel_rfl) ?_; conv => whnf
      ((try ((refine Exists.intro none ?_); (conv => whnf))); first | ((with_reducible refine call_by (hck) ?_); conv => whnf))
      repeat' ((first | (with_reducible refine split_dec (fun h => ?_) (fun h => ?_)) | (with_reducible refine split_beq (fun h => ?_) (fun h => ?_)) | (with_reducible refine split_bne (fun h => ?_) (fun h => ?_)) | (with_reducible refine split_not (fun h => ?_) (fun h => ?_)) | (with_reducible refine split_beqS (fun h => ?_) (fun h => ?_)) | (with_reducible refine split_intro (fun h => ?_) (fun h => ?_))) <;> conv => whnf)
      all_goals first
        | exact exit_plain rfl rfl
        | (exfalso; omega)
  · have e : instE a i t c s = 6 := by unfold instE; rw [if_neg hB]
    rw [e, if_neg (by decide)]
    simp only [Bool.not_eq_true] at hB
    rw [hB] at hck
    simp only [Bool.false_eq_true, if_false] at hck
    refine spec_of_body mixed Try.func93 rfl (by kernel_rfl) (by kernel_rfl) ?_; conv => whnf
    ((try ((refine Exists.intro none ?_); (conv => whnf))); first | ((with_reducible refine call_by (hck) ?_); conv => whnf))
    exact exit_plain rfl rfl

theorem c_InstallW (a : Hrd) (h2 : a.log.length ≤ 4294967) (hb : isI a.base) (i : Int) (hi : isI i) (t : Int) (c : Conf) (s : List Int) (h3 : s.length ≤ 4294967296) :
    Ctr Try.prog 93 [.ag a.enc, iv i, iv t, .ag c.enc, .sl 1 (s.map encB)] (resW (instE a i t c s) (instH a i t c s)) [] := by
  have k := c_Install a h2 hb i hi t c s h3
  by_cases e : instE a i t c s = 0
  · rw [if_pos e] at k
    rw [(res_ok e).2.2]
    cases hf : fits a i t with
    | true =>
      rw [hf, if_pos rfl] at k
      refine k.frz (wkV_tu ⟨wkV_ag ?_, wkV_same _ rfl, rfl⟩)
      conv => whnf
      repeat' (first | exact rfl | ((with_reducible refine And.intro ?_ ?_) <;> (first | (with_reducible exact wkV_same _ rfl) | exact wkV_fz (b := false) (List.Mem.head _) rfl | exact wkV_fz (b := false) (List.Mem.tail _ (List.Mem.head _)) rfl | (conv => whnf))))
    | false =>
      rw [hf, if_neg (by decide)] at k
      have e0 : instH a i t c s = ⟨a.term, a.vote, i, t, c, s, []⟩ := by unfold instH; rw [hf, if_neg (by decide)]
      rw [e0] at k ⊢
      refine k.frz (wkV_tu ⟨wkV_ag ?_, wkV_same _ rfl, rfl⟩)
      conv => whnf
      repeat' (first | exact rfl | ((with_reducible refine And.intro ?_ ?_) <;> (first | (with_reducible exact wkV_same _ rfl) | exact wkV_fz (b := false) (List.Mem.head _) rfl | exact .inr (.inl ⟨rfl, rfl⟩) | (conv => whnf))))
  · rw [if_neg e] at k
    rw [(res_no e).2.2]
    exact k
end Go.Proofs

/- Plain law: a log that is cut at an index. -/
namespace Go.Proofs
open Go.Pv
set_option maxRecDepth 100000

/-- A log that begins behind entry q. -/
def cutH (h : Hrd) (q : Nat) (c : Conf) (s : List Int) : Hrd := ⟨h.term, h.vote, h.base + q, behind h.log h.baseTerm q, c, s, h.log.drop q⟩
theorem row_behind {h : Hrd} (hr : rowB h.log h.baseTerm h.term = true) {q : Nat} (h1 : 1 ≤ q) (hq : q ≤ h.log.length) : 1 ≤ behind h.log h.baseTerm q ∧ behind h.log h.baseTerm q ≤ h.term := by
  obtain ⟨p, rfl⟩ : ∃ p, q = p + 1 := ⟨q - 1, by omega⟩
  rw [behind_succ (by omega)]
  have := (rowB_iff _ _ _).1 hr p (by omega)
  omega
theorem row_drop {h : Hrd} (hr : rowB h.log h.baseTerm h.term = true) {q : Nat} (hq : q ≤ h.log.length) : rowB (h.log.drop q) (behind h.log h.baseTerm q) h.term = true := by
  have := (rowB_parts hr q).2
  rwa [behind_take _ _ _ hq] at this
theorem cut_hard {h : Hrd} (hh : hardB h = true) {q : Nat} {c : Conf} {s : List Int} (h1 : 1 ≤ q) (hq : q ≤ h.log.length) (hi : h.base + q ≤ 1099511627776) (hc : confB c = true) (hs : s.length ≤ 16384) : hardB (cutH h q c s) = true := by
  obtain ⟨hA, _, _, hr⟩ := hardB_A hh
  have hb := hA.b
  have ht := hA.t
  obtain ⟨b1, b2⟩ := row_behind hr h1 hq
  unfold hardB
  rw [dec_true (show HardA (cutH h q c s) from ⟨ht, hA.v, by show 0 ≤ h.base + q ∧ h.base + q ≤ _; omega, by show 0 ≤ behind h.log h.baseTerm q ∧ behind h.log h.baseTerm q ≤ h.term; omega, by show behind h.log h.baseTerm q = 0 ↔ h.base + q = 0; omega⟩)]
  rw [show confB (cutH h q c s).baseConf = true from hc, show rowB (cutH h q c s).log (cutH h q c s).baseTerm (cutH h q c s).term = true from row_drop hr hq]
  simp only [Bool.and_true, Bool.true_and, decide_eq_true_eq]
  exact ⟨hs, .inl (by show 0 < h.base + q; omega)⟩
theorem cut_lastI {h : Hrd} (hb : 0 ≤ h.base) (hs : h.base + h.log.length < 9223372036854775808) {q : Nat} (hq : q ≤ h.log.length) (c : Conf) (s : List Int) : lastI (cutH h q c s) = lastI h := by
  have e : (cutH h q c s).log.length = h.log.length - q := List.length_drop
  have e2 : (cutH h q c s).base = h.base + q := rfl
  rw [lastI_sum (h := cutH h q c s) (by rw [e2]; omega) (by rw [e2, e]; omega), lastI_sum hb hs, e, e2]; omega
theorem lastT_beh (h : Hrd) : lastT h = behind h.log h.baseTerm h.log.length := by
  unfold lastT behind
  rw [List.take_length]
  cases h.log.getLast? <;> rfl
theorem behind_drop (g : List Ent) (b : Int) (q m : Nat) (h : q + m ≤ g.length) : behind (g.drop q) (behind g b q) m = behind g b (q + m) := by
  cases m with
  | zero => rw [behind_0, Nat.add_zero]
  | succ m =>
    rw [behind_succ (by rw [List.length_drop]; omega), ← Nat.add_assoc, behind_succ (by omega), List.getElem_drop]
theorem cut_lastT {h : Hrd} {q : Nat} (hq : q ≤ h.log.length) (c : Conf) (s : List Int) : lastT (cutH h q c s) = lastT h := by
  rw [lastT_beh, lastT_beh]
  show behind (h.log.drop q) (behind h.log h.baseTerm q) (h.log.drop q).length = _
  rw [List.length_drop, behind_drop _ _ _ _ (by omega)]
  congr 1; omega
theorem cut_ent {h : Hrd} {q : Nat} {c : Conf} {s : List Int} {k : Int} (hk : h.base + q < k) : entAt (cutH h q c s) k = entAt h k := by
  rw [entAt_nat (h := h) (m := (k - h.base - 1).toNat) (by omega), entAt_nat (h := cutH h q c s) (m := (k - h.base - 1).toNat - q) (by show k = h.base + q + 1 + _; omega)]
  show (h.log.drop q)[_]? = _
  rw [List.getElem?_drop]
  congr 1; omega
theorem cut_term {h : Hrd} {q : Nat} (hq : q ≤ h.log.length) {c : Conf} {s : List Int} {k : Int} (hk : h.base + q ≤ k) : termAt (cutH h q c s) k = termAt h k := by
  by_cases e : k = h.base + q
  · rw [termAt_nat (h := h) (n := q) e hq, termAt_nat (h := cutH h q c s) (n := 0) (by show k = h.base + q + ((0 : Nat) : Int); omega) (Nat.zero_le _), behind_0]; rfl
  · unfold termAt
    rw [cut_ent (by omega), if_neg (by show ¬ k = h.base + q; exact e), if_neg (by omega)]
theorem cut_term_no {h : Hrd} {q : Nat} {c : Conf} {s : List Int} {k : Int} (hk : k < h.base + q) : termAt (cutH h q c s) k = -1 := by
  unfold termAt
  rw [if_neg (by show ¬ k = h.base + q; omega), entAt_none (by show ¬ (h.base + q < k ∧ _); omega)]
theorem cut_from {h : Hrd} {q : Nat} {c : Conf} {s : List Int} {m : Int} (hm : 0 ≤ m) : fromL (cutH h q c s) (h.base + q + 1) m = fromL h (h.base + q + 1) m := by
  rw [fromL_eq (by show h.base + q < _; omega) hm, fromL_eq (by omega) hm]
  show ((h.log.drop q).drop (h.base + q + 1 - (h.base + q) - 1).toNat).take m.toNat = _
  rw [List.drop_drop]
  congr 2; omega

/-! The configuration in force. -/
theorem idx_eq {h : Hrd} (hb : 0 ≤ h.base ∧ h.base ≤ 1099511627776) {k : Nat} (hk : k ≤ 4294967) : idx h k = h.base + k + 1 := by
  show IntKind.i64.wrap (IntKind.i64.wrap (h.base + k) + 1) = _
  rw [show IntKind.i64.wrap (h.base + (k : Int)) = h.base + k from wrap_id (by omega) (by omega), wrap_id (by omega) (by omega)]
theorem fwd_upto {h : Hrd} (hb : 0 ≤ h.base ∧ h.base ≤ 1099511627776) {u v : Int} : ∀ {i : Nat}, i ≤ 4294967 → h.base + i ≤ u → h.base + i ≤ v → fwd h u i = fwd h v i
  | 0, _, _, _ => rfl
  | i + 1, hi, h1, h2 => by
    unfold fwd
    rw [fwd_upto hb (u := u) (v := v) (by omega) (by omega) (by omega), idx_eq hb (by omega)]
    have a1 : h.base + (i : Int) + 1 ≤ u := by omega
    have a2 : h.base + (i : Int) + 1 ≤ v := by omega
    simp only [a1, a2, true_and]
theorem fwd_above {h : Hrd} (hb : 0 ≤ h.base ∧ h.base ≤ 1099511627776) {q : Nat} : ∀ {m : Nat}, q + m ≤ 4294967 → fwd h (h.base + q) (q + m) = fwd h (h.base + q) q
  | 0, _ => rfl
  | m + 1, hm => by
    rw [← Nat.add_assoc]
    conv => lhs; unfold fwd
    rw [fwd_above hb (by omega), idx_eq hb (by omega)]
    have a1 : ¬ (h.base + ((q + m : Nat) : Int) + 1 ≤ h.base + q) := by omega
    simp only [a1, false_and, if_false]
    cases h.log[q + m]? <;> rfl
theorem force_at {h : Hrd} (hb : 0 ≤ h.base ∧ h.base ≤ 1099511627776) (hl : h.log.length ≤ 4294967) {q : Nat} (hq : q ≤ h.log.length) {u : Int} (hu : h.base + q ≤ u) : force h (h.base + q) = fwd h u q := by
  unfold force
  obtain ⟨m, hm⟩ : ∃ m, h.log.length = q + m := ⟨h.log.length - q, by omega⟩
  rw [hm, fwd_above hb (by omega)]
  exact fwd_upto hb (by omega) (Int.le_refl _) hu
theorem fwd_cut {h : Hrd} (hb : 0 ≤ h.base) (hb2 : h.base + h.log.length ≤ 1099511627776 + 4294967) (hl : h.log.length ≤ 4294967) {q : Nat} (hq : h.base + q ≤ 1099511627776) {s : List Int} {u : Int} : ∀ {m : Nat}, q + m ≤ h.log.length → (fwd (cutH h q (fwd h u q).1 s) u m).1 = (fwd h u (q + m)).1
  | 0, _ => rfl
  | m + 1, hm => by
    have ih := fwd_cut (h := h) hb hb2 hl hq (s := s) (u := u) (m := m) (by omega)
    have e1 : idx (cutH h q (fwd h u q).1 s) m = h.base + ((q + m : Nat) : Int) + 1 := by
      rw [idx_eq (h := cutH h q (fwd h u q).1 s) (by show 0 ≤ h.base + q ∧ h.base + q ≤ _; omega) (by omega)]
      show h.base + q + (m : Int) + 1 = _
      omega
    have e2 : idx h (q + m) = h.base + ((q + m : Nat) : Int) + 1 := idx_eq (by omega) (by omega)
    have hx : (cutH h q (fwd h u q).1 s).log[m]? = h.log[q + m]? := List.getElem?_drop
    rw [← Nat.add_assoc]
    show (match (cutH h q (fwd h u q).1 s).log[m]? with
      | some x => if idx (cutH h q (fwd h u q).1 s) m ≤ u ∧ x.kind = 2 then (x.conf, idx (cutH h q (fwd h u q).1 s) m) else fwd (cutH h q (fwd h u q).1 s) u m
      | none => fwd (cutH h q (fwd h u q).1 s) u m).1 = (match h.log[q + m]? with
      | some x => if idx h (q + m) ≤ u ∧ x.kind = 2 then (x.conf, idx h (q + m)) else fwd h u (q + m)
      | none => fwd h u (q + m)).1
    rw [hx, e1, e2]
    cases h.log[q + m]? with
    | none => exact ih
    | some x =>
      by_cases hc : h.base + ((q + m : Nat) : Int) + 1 ≤ u ∧ x.kind = 2
      · simp only [if_pos hc]
      · simp only [if_neg hc]; exact ih
theorem fwd_conf {h : Hrd} (hc : confB h.baseConf = true) (hr : rowB h.log h.baseTerm h.term = true) (u : Int) : ∀ i : Nat, i ≤ h.log.length → confB (fwd h u i).1 = true
  | 0, _ => hc
  | i + 1, hi => by
    have ih := fwd_conf hc hr u i (by omega)
    have hx := ((rowB_iff _ _ _).1 hr i (by omega)).2.2
    unfold fwd
    rw [List.getElem?_eq_getElem (by omega)]
    by_cases hk : idx h i ≤ u ∧ (h.log[i]'(by omega)).kind = 2
    · simp only [if_pos hk]
      unfold entryB at hx
      rw [if_neg (by omega), if_neg (by omega), if_pos hk.2, Bool.and_eq_true] at hx
      exact hx.2
    · simp only [if_neg hk]; exact ih
end Go.Proofs
