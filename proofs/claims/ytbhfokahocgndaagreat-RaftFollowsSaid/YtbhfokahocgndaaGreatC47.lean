import Derived.Test.YtbhfokahocgndaaGreatC41
/- Contracts of functions: logs.Compact, logs.Install. -/
set_option linter.unusedSimpArgs false
set_option linter.unusedVariables false
namespace Go.Proofs
open Go.Pv
set_option maxRecDepth 100000

noncomputable def compE (h : Hrd) (i : Int) (s : List Int) : Int := if hardB h = true then (if h.base < i ∧ i ≤ lastI h ∧ i ≤ 1099511627776 then (if 16384 < s.length then 2 else 0) else 1) else 6
def compH (h : Hrd) (i : Int) (s : List Int) : Hrd := ⟨h.term, h.vote, i, termAt h i, (force h i).1, s, h.log.drop (i - h.base).toNat⟩

/-! Install. -/
noncomputable def instE (h : Hrd) (i t : Int) (c : Conf) (s : List Int) : Int := if hardB h = true then (if (h.base < i ∧ i ≤ 1099511627776) ∧ (1 ≤ t ∧ t ≤ h.term ∧ h.baseTerm ≤ t) then (if confB c = true then (if 16384 < s.length then 2 else 0) else 14) else 1) else 6
def instH (h : Hrd) (i t : Int) (c : Conf) (s : List Int) : Hrd := ⟨h.term, h.vote, i, t, c, s, if fits h i t = true then h.log.drop (i - h.base).toNat else []⟩
/-- A hard state in memory of its own, without a log. -/
abbrev Hrd.own0 (x : Hrd) (k : Nat) : List PV := [iv x.term, iv x.vote, iv x.base, iv x.baseTerm, iv x.baseConf.full, iv x.baseConf.wit, iv x.baseConf.learn, iv x.baseConf.lwit, .ow k 0 (x.snap.map encB).length, .nl]

theorem fits_in {a : Hrd} {i t : Int} (ht : t ≠ -1) (hf : fits a i t = true) (hi : a.base < i) : i - a.base ≤ a.log.length := by
  unfold fits at hf
  simp only [Bool.and_eq_true, beq_iff_eq] at hf
  have h2 := hf.2
  unfold termAt at h2
  rw [if_neg (by omega)] at h2
  cases he : entAt a i with
  | none => rw [he] at h2; simp only at h2; omega
  | some x => exact (entAt_inH he).2

set_option maxHeartbeats 4000000 in
theorem c_Install (a : Hrd) (h2 : a.log.length ≤ 4294967) (hb : isI a.base) (i : Int) (hi : isI i) (t : Int) (c : Conf) (s : List Int) (h3 : s.length ≤ 4294967296) :
    if instE a i t c s = 0 then
      (if fits a i t = true then Ctr Tryz.prog 148 [.ag a.enc, iv i, iv t, .ag c.enc, .sl 1 (s.map encB)] (.tu [.ag ((instH a i t c s).own 0), iv 0]) (instH a i t c s).obs
       else Ctr Tryz.prog 148 [.ag a.enc, iv i, iv t, .ag c.enc, .sl 1 (s.map encB)] (.tu [.ag ((instH a i t c s).own0 0), iv 0]) [(1, s.map encB)])
    else Ctr Tryz.prog 148 [.ag a.enc, iv i, iv t, .ag c.enc, .sl 1 (s.map encB)] (.tu [.ag hzv, iv (instE a i t c s)]) [] := by
  have hm : a.log.length ≤ maxLen := smallM (by omega)
  have hck := c_lCheck a hm
  by_cases hB : hardB a = true
  · rw [hB] at hck
    simp only [if_true] at hck
    have hb0 := (hardB_A hB).1.b
    have kF := c_Fits a hm hb i hi t
    have hcc := c_Check c
    unfold isI at hi
    by_cases hk : (a.base < i ∧ i ≤ 1099511627776) ∧ (1 ≤ t ∧ t ≤ a.term ∧ a.baseTerm ≤ t)
    · by_cases hC : confB c = true
      · rw [hC] at hcc
        simp only [if_true] at hcc
        by_cases hs : 16384 < s.length
        · have e : instE a i t c s = 2 := by unfold instE; rw [if_pos hB, if_pos hk, if_pos hC, if_pos hs]
          rw [e, if_neg (by decide)]
          refine spec_of_body mixed Tryz.func148 rfl (by kernel_rfl) (by kernel_rfl) ?_; conv => whnf
          ((try ((refine Exists.intro none ?_); (conv => whnf))); first | ((with_reducible refine call_by (hck) ?_); conv => whnf))
          repeat' ((first | (with_reducible refine split_dt (by first | assumption | omega) ?_) | (with_reducible refine split_df (by first | assumption | omega) ?_) | (with_reducible refine split_et (by first | assumption | omega) ?_) | (with_reducible refine split_ef (by first | assumption | omega) ?_) | (with_reducible refine split_bt (by first | assumption | omega) ?_) | (with_reducible refine split_bf (by first | assumption | omega) ?_) | (with_reducible refine split_nt (by assumption) ?_) | (with_reducible refine split_nf (by assumption) ?_) | (with_reducible refine split_t (by assumption) ?_) | (with_reducible refine split_f (by assumption) ?_)); (conv => whnf))
          ((try ((refine Exists.intro none ?_); (conv => whnf))); first | ((with_reducible refine call_by (hcc) ?_); conv => whnf))
          ((first | (with_reducible refine split_dec (fun h => ?_) (fun h => ?_)) | (with_reducible refine split_beq (fun h => ?_) (fun h => ?_)) | (with_reducible refine split_bne (fun h => ?_) (fun h => ?_)) | (with_reducible refine split_not (fun h => ?_) (fun h => ?_)) | (with_reducible refine split_beqS (fun h => ?_) (fun h => ?_)) | (with_reducible refine split_intro (fun h => ?_) (fun h => ?_))) <;> conv => whnf)
          · exact exit_plain rfl rfl
          · exfalso
            simp only [List.length_map] at h
            omega
        · have e : instE a i t c s = 0 := by unfold instE; rw [if_pos hB, if_pos hk, if_pos hC, if_neg hs]
          rw [if_pos e]
          cases hf : fits a i t with
          | true =>
            rw [if_pos rfl]
            rw [hf] at kF
            have hin := fits_in (by omega) hf hk.1.1
            obtain ⟨q, hq, hql⟩ : ∃ q : Nat, i - a.base = q ∧ q ≤ a.log.length := ⟨(i - a.base).toNat, by omega, by omega⟩
            have e1 : IntKind.i64.wrap (i - a.base) = (q : Int) := by rw [wrap_id (by omega) (by omega), hq]
            have e2 : List.drop (q : Int).toNat (List.take (((a.log.map Ent.enc).length : Nat) : Int).toNat (a.log.map Ent.enc)) = (a.log.drop q).map Ent.enc := by rw [Int.toNat_natCast, Int.toNat_natCast, List.take_length, List.map_drop]
            have c1 := c_CloneEntries (a.log.drop q) (by rw [List.length_drop]; omega)
            rw [show instH a i t c s = ⟨a.term, a.vote, i, t, c, s, a.log.drop q⟩ from by unfold instH; rw [hf, if_pos rfl, hq, Int.toNat_natCast]]
            refine spec_of_body mixed Tryz.func148 rfl (by kernel_rfl) (by kernel_rfl) ?_; conv => whnf
            ((try ((refine Exists.intro none ?_); (conv => whnf))); first | ((with_reducible refine call_by (hck) ?_); conv => whnf))
            repeat' ((first | (with_reducible refine split_dt (by first | assumption | omega) ?_) | (with_reducible refine split_df (by first | assumption | omega) ?_) | (with_reducible refine split_et (by first | assumption | omega) ?_) | (with_reducible refine split_ef (by first | assumption | omega) ?_) | (with_reducible refine split_bt (by first | assumption | omega) ?_) | (with_reducible refine split_bf (by first | assumption | omega) ?_) | (with_reducible refine split_nt (by assumption) ?_) | (with_reducible refine split_nf (by assumption) ?_) | (with_reducible refine split_t (by assumption) ?_) | (with_reducible refine split_f (by assumption) ?_)); (conv => whnf))
            ((try ((refine Exists.intro none ?_); (conv => whnf))); first | ((with_reducible refine call_by (hcc) ?_); conv => whnf))
            ((first | (with_reducible refine split_dec (fun h => ?_) (fun h => ?_)) | (with_reducible refine split_beq (fun h => ?_) (fun h => ?_)) | (with_reducible refine split_bne (fun h => ?_) (fun h => ?_)) | (with_reducible refine split_not (fun h => ?_) (fun h => ?_)) | (with_reducible refine split_beqS (fun h => ?_) (fun h => ?_)) | (with_reducible refine split_intro (fun h => ?_) (fun h => ?_))) <;> conv => whnf)
            · exfalso
              simp only [List.length_map] at h
              omega
            ((try ((refine Exists.intro none ?_); (conv => whnf))); first | ((with_reducible refine call_by (c_CloneBytes s h3) ?_); conv => whnf))
            (refine Exists.intro _ (And.intro rfl (And.intro (by intro q hq; first | (cases hq; done) | (simp only [List.mem_cons, List.not_mem_nil, or_false] at hq; rcases hq with rfl | rfl <;> (simp only [List.length_cons, List.length_nil]; omega)) | (simp only [List.mem_cons, List.not_mem_nil, or_false] at hq; subst hq; simp only [List.length_cons, List.length_nil]; omega)) (And.intro (by intro i hi; simp only [List.length_cons, List.length_nil, Nat.lt_one_iff, Nat.zero_add] at hi; subst hi; rfl) ?_))); conv => whnf)
            ((try ((refine Exists.intro none ?_); (conv => whnf))); first | ((with_reducible refine call_by (kF) ?_); conv => whnf))
            rw [e1]
            refine ⟨⟨by omega, by rw [List.length_map]; omega, Int.le_refl _⟩, ?_⟩
            conv => whnf
            refine Exists.intro none ?_
            conv => whnf
            rw [e2]
            ((try ((refine Exists.intro none ?_); (conv => whnf))); first | ((with_reducible refine call_by (c1) ?_); conv => whnf))
            (refine Exists.intro _ (And.intro rfl (And.intro (by intro q hq; first | (cases hq; done) | (simp only [List.mem_cons, List.not_mem_nil, or_false] at hq; rcases hq with rfl | rfl <;> (simp only [List.length_cons, List.length_nil]; omega)) | (simp only [List.mem_cons, List.not_mem_nil, or_false] at hq; subst hq; simp only [List.length_cons, List.length_nil]; omega)) (And.intro (by intro i hi; simp only [List.length_cons, List.length_nil, Nat.lt_one_iff, Nat.zero_add] at hi; subst hi; rfl) ?_))); conv => whnf)
            refine exit_own [(0, 992), (1, 1264)] rfl ⟨rfl, rfl, True.intro⟩ (wkV_tu ⟨wkV_ag ?_, wkV_same _ rfl, rfl⟩)
            conv => whnf
            repeat' (first | exact rfl | ((with_reducible refine And.intro ?_ ?_) <;> (first | (with_reducible exact wkV_same _ rfl) | exact wkV_ow rfl rfl rfl | (conv => whnf))))
          | false =>
            rw [if_neg (by decide)]
            rw [hf] at kF
            rw [show instH a i t c s = ⟨a.term, a.vote, i, t, c, s, []⟩ from by unfold instH; rw [hf, if_neg (by decide)]]
            refine spec_of_body mixed Tryz.func148 rfl (by kernel_rfl) (by kernel_rfl) ?_; conv => whnf
            ((try ((refine Exists.intro none ?_); (conv => whnf))); first | ((with_reducible refine call_by (hck) ?_); conv => whnf))
            repeat' ((first | (with_reducible refine split_dt (by first | assumption | omega) ?_) | (with_reducible refine split_df (by first | assumption | omega) ?_) | (with_reducible refine split_et (by first | assumption | omega) ?_) | (with_reducible refine split_ef (by first | assumption | omega) ?_) | (with_reducible refine split_bt (by first | assumption | omega) ?_) | (with_reducible refine split_bf (by first | assumption | omega) ?_) | (with_reducible refine split_nt (by assumption) ?_) | (with_reducible refine split_nf (by assumption) ?_) | (with_reducible refine split_t (by assumption) ?_) | (with_reducible refine split_f (by assumption) ?_)); (conv => whnf))
            ((try ((refine Exists.intro none ?_); (conv => whnf))); first | ((with_reducible refine call_by (hcc) ?_); conv => whnf))
            ((first | (with_reducible refine split_dec (fun h => ?_) (fun h => ?_)) | (with_reducible refine split_beq (fun h => ?_) (fun h => ?_)) | (with_reducible refine split_bne (fun h => ?_) (fun h => ?_)) | (with_reducible refine split_not (fun h => ?_) (fun h => ?_)) | (with_reducible refine split_beqS (fun h => ?_) (fun h => ?_)) | (with_reducible refine split_intro (fun h => ?_) (fun h => ?_))) <;> conv => whnf)
            · exfalso
              simp only [List.length_map] at h
              omega
            ((try ((refine Exists.intro none ?_); (conv => whnf))); first | ((with_reducible refine call_by (c_CloneBytes s h3) ?_); conv => whnf))
            (refine Exists.intro _ (And.intro rfl (And.intro (by intro q hq; first | (cases hq; done) | (simp only [List.mem_cons, List.not_mem_nil, or_false] at hq; rcases hq with rfl | rfl <;> (simp only [List.length_cons, List.length_nil]; omega)) | (simp only [List.mem_cons, List.not_mem_nil, or_false] at hq; subst hq; simp only [List.length_cons, List.length_nil]; omega)) (And.intro (by intro i hi; simp only [List.length_cons, List.length_nil, Nat.lt_one_iff, Nat.zero_add] at hi; subst hi; rfl) ?_))); conv => whnf)
            ((try ((refine Exists.intro none ?_); (conv => whnf))); first | ((with_reducible refine call_by (kF) ?_); conv => whnf))
            refine exit_own [(0, 992)] rfl ⟨rfl, True.intro⟩ (wkV_tu ⟨wkV_ag ?_, wkV_same _ rfl, rfl⟩)
            conv => whnf
            repeat' (first | exact rfl | ((with_reducible refine And.intro ?_ ?_) <;> (first | (with_reducible exact wkV_same _ rfl) | exact wkV_ow rfl rfl rfl | (conv => whnf))))
      · have e : instE a i t c s = 14 := by unfold instE; rw [if_pos hB, if_pos hk, if_neg hC]
        simp only [Bool.not_eq_true] at hC
        rw [hC] at hcc
        simp only [Bool.false_eq_true, if_false] at hcc
        rw [e, if_neg (by decide)]
        refine spec_of_body mixed Tryz.func148 rfl (by kernel_rfl) (by kernel_rfl) ?_; conv => whnf
        ((try ((refine Exists.intro none ?_); (conv => whnf))); first | ((with_reducible refine call_by (hck) ?_); conv => whnf))
        repeat' ((first | (with_reducible refine split_dt (by first | assumption | omega) ?_) | (with_reducible refine split_df (by first | assumption | omega) ?_) | (with_reducible refine split_et (by first | assumption | omega) ?_) | (with_reducible refine split_ef (by first | assumption | omega) ?_) | (with_reducible refine split_bt (by first | assumption | omega) ?_) | (with_reducible refine split_bf (by first | assumption | omega) ?_) | (with_reducible refine split_nt (by assumption) ?_) | (with_reducible refine split_nf (by assumption) ?_) | (with_reducible refine split_t (by assumption) ?_) | (with_reducible refine split_f (by assumption) ?_)); (conv => whnf))
        ((try ((refine Exists.intro none ?_); (conv => whnf))); first | ((with_reducible refine call_by (hcc) ?_); conv => whnf))
        exact exit_plain rfl rfl
    · have e : instE a i t c s = 1 := by unfold instE; rw [if_pos hB, if_neg hk]
      rw [e, if_neg (by decide)]
      refine spec_of_body mixed Tryz.func148 rfl (by kernel_rfl) (by kernel_rfl) ?_; conv => whnf
      ((try ((refine Exists.intro none ?_); (conv => whnf))); first | ((with_reducible refine call_by (hck) ?_); conv => whnf))
      repeat' ((first | (with_reducible refine split_dec (fun h => ?_) (fun h => ?_)) | (with_reducible refine split_beq (fun h => ?_) (fun h => ?_)) | (with_reducible refine split_bne (fun h => ?_) (fun h => ?_)) | (with_reducible refine split_not (fun h => ?_) (fun h => ?_)) | (with_reducible refine split_beqS (fun h => ?_) (fun h => ?_)) | (with_reducible refine split_intro (fun h => ?_) (fun h => ?_))) <;> conv => whnf)
      all_goals first
        | exact exit_plain rfl rfl
        | (exfalso; omega)
  · have e : instE a i t c s = 6 := by unfold instE; rw [if_neg hB]
    rw [e, if_neg (by decide)]
    simp only [Bool.not_eq_true] at hB
    rw [hB] at hck
    simp only [Bool.false_eq_true, if_false] at hck
    refine spec_of_body mixed Tryz.func148 rfl (by kernel_rfl) (by kernel_rfl) ?_; conv => whnf
    ((try ((refine Exists.intro none ?_); (conv => whnf))); first | ((with_reducible refine call_by (hck) ?_); conv => whnf))
    exact exit_plain rfl rfl

theorem c_InstallW (a : Hrd) (h2 : a.log.length ≤ 4294967) (hb : isI a.base) (i : Int) (hi : isI i) (t : Int) (c : Conf) (s : List Int) (h3 : s.length ≤ 4294967296) :
    Ctr Tryz.prog 148 [.ag a.enc, iv i, iv t, .ag c.enc, .sl 1 (s.map encB)] (resW (instE a i t c s) (instH a i t c s)) [] := by
  have k := c_Install a h2 hb i hi t c s h3
  by_cases e : instE a i t c s = 0
  · rw [if_pos e] at k
    rw [(res_ok e).2.2]
    cases hf : fits a i t with
    | true =>
      rw [hf, if_pos rfl] at k
      refine k.frz (wkV_tu ⟨wkV_ag ?_, wkV_same _ rfl, rfl⟩)
      conv => whnf
      repeat' (first | exact rfl | ((with_reducible refine And.intro ?_ ?_) <;> (first | (with_reducible exact wkV_same _ rfl) | exact wkV_fz (b := false) (List.Mem.head _) rfl | exact wkV_fz (b := false) (List.Mem.tail _ (List.Mem.head _)) rfl | (conv => whnf))))
    | false =>
      rw [hf, if_neg (by decide)] at k
      have e0 : instH a i t c s = ⟨a.term, a.vote, i, t, c, s, []⟩ := by unfold instH; rw [hf, if_neg (by decide)]
      rw [e0] at k ⊢
      refine k.frz (wkV_tu ⟨wkV_ag ?_, wkV_same _ rfl, rfl⟩)
      conv => whnf
      repeat' (first | exact rfl | ((with_reducible refine And.intro ?_ ?_) <;> (first | (with_reducible exact wkV_same _ rfl) | exact wkV_fz (b := false) (List.Mem.head _) rfl | exact .inr (.inl ⟨rfl, rfl⟩) | (conv => whnf))))
  · rw [if_neg e] at k
    rw [(res_no e).2.2]
    exact k
end Go.Proofs

/- Plain law: a log that is cut at an index. -/
namespace Go.Proofs
open Go.Pv
set_option maxRecDepth 100000

/-- A log that begins behind entry q. -/
def cutH (h : Hrd) (q : Nat) (c : Conf) (s : List Int) : Hrd := ⟨h.term, h.vote, h.base + q, behind h.log h.baseTerm q, c, s, h.log.drop q⟩
/-! The configuration in force. -/
end Go.Proofs
