/- Contracts of functions: the references' Compact, Install. -/
import Derived.Test.YtnphfgphajejaaaC51
set_option linter.unusedSimpArgs false
set_option linter.unusedVariables false
namespace Go.Proofs
open Go.Pv
set_option maxRecDepth 100000

set_option maxHeartbeats 4000000 in
theorem c_rCompactW (a : Hrd) (h2 : a.log.length ≤ 4294967) (hb : isI a.base) (i : Int) (hi : isI i) (s : List Int) (h3 : s.length ≤ 4294967296) :
    Ctr Try.prog 158 [.ag a.enc, iv i, .sl 1 (s.map encB)] (resW (compE a i s) (compH a i s)) [] := by
  have hm : a.log.length ≤ maxLen := smallM (by omega)
  have hck := c_rHard a hm
  by_cases hB : hardB a = true
  · rw [hB] at hck
    have hb0 := (hardB_A hB).1.b
    have hla : lastI a = a.base + a.log.length := lastI_sum hb0.1 (by omega)
    have kT := c_rTerm a hm hb0.1 (by omega) i hi
    have e1 : IntKind.i64.wrap (a.base + 1) = a.base + 1 := wrap_id (by omega) (by omega)
    have kw := c_within08 i (a.base + 1) (if 1099511627776 < lastI a then 1099511627776 else lastI a)
    unfold isI at hi
    by_cases hk : a.base < i ∧ i ≤ lastI a ∧ i ≤ 1099511627776
    · have hw : a.base + 1 ≤ i ∧ i ≤ (if 1099511627776 < lastI a then 1099511627776 else lastI a) := ⟨by omega, by split <;> omega⟩
      rw [decide_eq_true hw] at kw
      by_cases hs : 16384 < s.length
      · have e : compE a i s = 2 := by unfold compE; rw [if_pos hB, if_pos hk, if_pos hs]
        rw [e, (res_no (by decide)).2.2]
        refine spec_of_body mixed Try.func158 rfl (by kernel_rfl) (by kernel_rfl) ?_; conv => whnf
        ((try ((refine Exists.intro none ?_); (conv => whnf))); first | ((with_reducible refine call_by (hck) ?_); conv => whnf))
        ((try ((refine Exists.intro none ?_); (conv => whnf))); first | ((with_reducible refine call_by (c_rLast a hm) ?_); conv => whnf))
        refine Exists.intro none ?_
        conv => whnf
        rw [e1]
        ((try ((refine Exists.intro none ?_); (conv => whnf))); first | ((with_reducible refine call_by (kw) ?_); conv => whnf))
        ((first | (with_reducible refine split_dec (fun h => ?_) (fun h => ?_)) | (with_reducible refine split_beq (fun h => ?_) (fun h => ?_)) | (with_reducible refine split_bne (fun h => ?_) (fun h => ?_)) | (with_reducible refine split_not (fun h => ?_) (fun h => ?_)) | (with_reducible refine split_beqS (fun h => ?_) (fun h => ?_)) | (with_reducible refine split_intro (fun h => ?_) (fun h => ?_))) <;> conv => whnf)
        · exact exit_plain rfl rfl
        · exfalso
          simp only [List.length_map] at h
          omega
      · have e : compE a i s = 0 := by unfold compE; rw [if_pos hB, if_pos hk, if_neg hs]
        rw [e, (res_ok rfl).2.2]
        obtain ⟨q, hq, hql⟩ : ∃ q : Nat, i - a.base = q ∧ q ≤ a.log.length := ⟨(i - a.base).toNat, by omega, by omega⟩
        have e3 : IntKind.i64.wrap (i - a.base) = (q : Int) := by rw [wrap_id (by omega) (by omega), hq]
        have e2 : List.drop (q : Int).toNat (List.take (((a.log.map Ent.enc).length : Nat) : Int).toNat (a.log.map Ent.enc)) = (a.log.drop q).map Ent.enc := by rw [Int.toNat_natCast, Int.toNat_natCast, List.take_length, List.map_drop]
        have c1 := (c_TwinEntries (a.log.drop q) (by rw [List.length_drop]; omega)).frz (wkV_fz (b := false) (List.Mem.head _) rfl)
        have c2 := (c_Twin s h3).frz (wkV_fz (b := false) (List.Mem.head _) rfl)
        rw [show compH a i s = ⟨a.term, a.vote, i, termAt a i, (force a i).1, s, a.log.drop q⟩ from by unfold compH; rw [hq, Int.toNat_natCast]]
        refine spec_of_body mixed Try.func158 rfl (by kernel_rfl) (by kernel_rfl) ?_; conv => whnf
        ((try ((refine Exists.intro none ?_); (conv => whnf))); first | ((with_reducible refine call_by (hck) ?_); conv => whnf))
        ((try ((refine Exists.intro none ?_); (conv => whnf))); first | ((with_reducible refine call_by (c_rLast a hm) ?_); conv => whnf))
        refine Exists.intro none ?_
        conv => whnf
        rw [e1]
        ((try ((refine Exists.intro none ?_); (conv => whnf))); first | ((with_reducible refine call_by (kw) ?_); conv => whnf))
        ((first | (with_reducible refine split_dec (fun h => ?_) (fun h => ?_)) | (with_reducible refine split_beq (fun h => ?_) (fun h => ?_)) | (with_reducible refine split_bne (fun h => ?_) (fun h => ?_)) | (with_reducible refine split_not (fun h => ?_) (fun h => ?_)) | (with_reducible refine split_beqS (fun h => ?_) (fun h => ?_)) | (with_reducible refine split_intro (fun h => ?_) (fun h => ?_))) <;> conv => whnf)
        · exfalso
          simp only [List.length_map] at h
          omega
        ((try ((refine Exists.intro none ?_); (conv => whnf))); first | ((with_reducible refine call_by (c_Force a hm i) ?_); conv => whnf))
        ((try ((refine Exists.intro none ?_); (conv => whnf))); first | ((with_reducible refine call_by (kT) ?_); conv => whnf))
        ((try ((refine Exists.intro none ?_); (conv => whnf))); first | ((with_reducible refine call_by (c2) ?_); conv => whnf))
        (refine Exists.intro _ (And.intro rfl (And.intro (by intro q _; simp only [List.length_nil]; omega) (And.intro (by intro i hi; exact absurd hi (Nat.not_lt_zero i)) ?_))); conv => whnf)
        rw [e3]
        refine ⟨⟨by omega, by rw [List.length_map]; omega, Int.le_refl _⟩, ?_⟩
        conv => whnf
        refine Exists.intro none ?_
        conv => whnf
        rw [e2]
        ((try ((refine Exists.intro none ?_); (conv => whnf))); first | ((with_reducible refine call_by (c1) ?_); conv => whnf))
        (refine Exists.intro _ (And.intro rfl (And.intro (by intro q _; simp only [List.length_nil]; omega) (And.intro (by intro i hi; exact absurd hi (Nat.not_lt_zero i)) ?_))); conv => whnf)
        exact exit_plain rfl rfl
    · have e : compE a i s = 1 := by unfold compE; rw [if_pos hB, if_neg hk]
      have hw : ¬ (a.base + 1 ≤ i ∧ i ≤ (if 1099511627776 < lastI a then 1099511627776 else lastI a)) := by
        rintro ⟨w1, w2⟩
        split at w2 <;> omega
      rw [decide_eq_false hw] at kw
      rw [e, (res_no (by decide)).2.2]
      refine spec_of_body mixed Try.func158 rfl (by kernel_rfl) (by kernel_rfl) ?_; conv => whnf
      ((try ((refine Exists.intro none ?_); (conv => whnf))); first | ((with_reducible refine call_by (hck) ?_); conv => whnf))
      ((try ((refine Exists.intro none ?_); (conv => whnf))); first | ((with_reducible refine call_by (c_rLast a hm) ?_); conv => whnf))
      refine Exists.intro none ?_
      conv => whnf
      rw [e1]
      ((try ((refine Exists.intro none ?_); (conv => whnf))); first | ((with_reducible refine call_by (kw) ?_); conv => whnf))
      exact exit_plain rfl rfl
  · have e : compE a i s = 6 := by unfold compE; rw [if_neg hB]
    rw [e, (res_no (by decide)).2.2]
    simp only [Bool.not_eq_true] at hB
    rw [hB] at hck
    refine spec_of_body mixed Try.func158 rfl (by kernel_rfl) (by kernel_rfl) ?_; conv => whnf
    ((try ((refine Exists.intro none ?_); (conv => whnf))); first | ((with_reducible refine call_by (hck) ?_); conv => whnf))
    exact exit_plain rfl rfl

set_option maxHeartbeats 4000000 in
theorem c_rInstallW (a : Hrd) (h2 : a.log.length ≤ 4294967) (hb : isI a.base) (i : Int) (hi : isI i) (t : Int) (c : Conf) (s : List Int) (h3 : s.length ≤ 4294967296) :
    Ctr Try.prog 159 [.ag a.enc, iv i, iv t, .ag c.enc, .sl 1 (s.map encB)] (resW (instE a i t c s) (instH a i t c s)) [] := by
  have hm : a.log.length ≤ maxLen := smallM (by omega)
  have hck := c_rHard a hm
  by_cases hB : hardB a = true
  · rw [hB] at hck
    have hA := (hardB_A hB).1
    have hb0 := hA.b
    have hbt := hA.bt
    have kF := c_rFits a hm hb0.1 (by omega) i hi t
    have e1 : IntKind.i64.wrap (a.base + 1) = a.base + 1 := wrap_id (by omega) (by omega)
    have kw := c_within08 i (a.base + 1) 1099511627776
    have kv := c_within08 t (if 1 > a.baseTerm then 1 else a.baseTerm) a.term
    have hcc := c_rConf c
    unfold isI at hi
    by_cases hw : a.base + 1 ≤ i ∧ i ≤ 1099511627776
    · rw [decide_eq_true hw] at kw
      by_cases hv : (if 1 > a.baseTerm then 1 else a.baseTerm) ≤ t ∧ t ≤ a.term
      · have hk : (a.base < i ∧ i ≤ 1099511627776) ∧ (1 ≤ t ∧ t ≤ a.term ∧ a.baseTerm ≤ t) := by
          obtain ⟨v1, v2⟩ := hv
          split at v1 <;> exact ⟨⟨by omega, by omega⟩, by omega, by omega, by omega⟩
        rw [decide_eq_true hv] at kv
        by_cases hC : confB c = true
        · rw [hC] at hcc
          by_cases hs : 16384 < s.length
          · have e : instE a i t c s = 2 := by unfold instE; rw [if_pos hB, if_pos hk, if_pos hC, if_pos hs]
            rw [e, (res_no (by decide)).2.2]
            refine spec_of_body mixed Try.func159 rfl (by kernel_rfl) (by kernel_rfl) ?_; conv => whnf
            ((try ((refine Exists.intro none ?_); (conv => whnf))); first | ((with_reducible refine call_by (hck) ?_); conv => whnf))
            refine Exists.intro none ?_
            conv => whnf
            rw [e1]
            ((try ((refine Exists.intro none ?_); (conv => whnf))); first | ((with_reducible refine call_by (kw) ?_); conv => whnf))
            ((try ((refine Exists.intro none ?_); (conv => whnf))); first | ((with_reducible refine call_by (kv) ?_); conv => whnf))
            ((try ((refine Exists.intro none ?_); (conv => whnf))); first | ((with_reducible refine call_by (hcc) ?_); conv => whnf))
            ((first | (with_reducible refine split_dec (fun h => ?_) (fun h => ?_)) | (with_reducible refine split_beq (fun h => ?_) (fun h => ?_)) | (with_reducible refine split_bne (fun h => ?_) (fun h => ?_)) | (with_reducible refine split_not (fun h => ?_) (fun h => ?_)) | (with_reducible refine split_beqS (fun h => ?_) (fun h => ?_)) | (with_reducible refine split_intro (fun h => ?_) (fun h => ?_))) <;> conv => whnf)
            · exact exit_plain rfl rfl
            · exfalso
              simp only [List.length_map] at h
              omega
          · have e : instE a i t c s = 0 := by unfold instE; rw [if_pos hB, if_pos hk, if_pos hC, if_neg hs]
            rw [e, (res_ok rfl).2.2]
            have c2 := (c_Twin s h3).frz (wkV_fz (b := false) (List.Mem.head _) rfl)
            refine spec_of_body mixed Try.func159 rfl (by kernel_rfl) (by kernel_rfl) ?_; conv => whnf
            ((try ((refine Exists.intro none ?_); (conv => whnf))); first | ((with_reducible refine call_by (hck) ?_); conv => whnf))
            refine Exists.intro none ?_
            conv => whnf
            rw [e1]
            ((try ((refine Exists.intro none ?_); (conv => whnf))); first | ((with_reducible refine call_by (kw) ?_); conv => whnf))
            ((try ((refine Exists.intro none ?_); (conv => whnf))); first | ((with_reducible refine call_by (kv) ?_); conv => whnf))
            ((try ((refine Exists.intro none ?_); (conv => whnf))); first | ((with_reducible refine call_by (hcc) ?_); conv => whnf))
            ((first | (with_reducible refine split_dec (fun h => ?_) (fun h => ?_)) | (with_reducible refine split_beq (fun h => ?_) (fun h => ?_)) | (with_reducible refine split_bne (fun h => ?_) (fun h => ?_)) | (with_reducible refine split_not (fun h => ?_) (fun h => ?_)) | (with_reducible refine split_beqS (fun h => ?_) (fun h => ?_)) | (with_reducible refine split_intro (fun h => ?_) (fun h => ?_))) <;> conv => whnf)
            · exfalso
              simp only [List.length_map] at h
              omega
            ((try ((refine Exists.intro none ?_); (conv => whnf))); first | ((with_reducible refine call_by (c2) ?_); conv => whnf))
            (refine Exists.intro _ (And.intro rfl (And.intro (by intro q _; simp only [List.length_nil]; omega) (And.intro (by intro i hi; exact absurd hi (Nat.not_lt_zero i)) ?_))); conv => whnf)
            cases hf : fits a i t with
            | true =>
              rw [hf] at kF
              have hin := fits_in (by omega) hf hk.1.1
              obtain ⟨q, hq, hql⟩ : ∃ q : Nat, i - a.base = q ∧ q ≤ a.log.length := ⟨(i - a.base).toNat, by omega, by omega⟩
              have e3 : IntKind.i64.wrap (i - a.base) = (q : Int) := by rw [wrap_id (by omega) (by omega), hq]
              have e2 : List.drop (q : Int).toNat (List.take (((a.log.map Ent.enc).length : Nat) : Int).toNat (a.log.map Ent.enc)) = (a.log.drop q).map Ent.enc := by rw [Int.toNat_natCast, Int.toNat_natCast, List.take_length, List.map_drop]
              have c1 := (c_TwinEntries (a.log.drop q) (by rw [List.length_drop]; omega)).frz (wkV_fz (b := false) (List.Mem.head _) rfl)
              rw [show instH a i t c s = ⟨a.term, a.vote, i, t, c, s, a.log.drop q⟩ from by unfold instH; rw [hf, if_pos rfl, hq, Int.toNat_natCast]]
              ((try ((refine Exists.intro none ?_); (conv => whnf))); first | ((with_reducible refine call_by (kF) ?_); conv => whnf))
              rw [e3]
              refine ⟨⟨by omega, by rw [List.length_map]; omega, Int.le_refl _⟩, ?_⟩
              conv => whnf
              refine Exists.intro none ?_
              conv => whnf
              rw [e2]
              ((try ((refine Exists.intro none ?_); (conv => whnf))); first | ((with_reducible refine call_by (c1) ?_); conv => whnf))
              (refine Exists.intro _ (And.intro rfl (And.intro (by intro q _; simp only [List.length_nil]; omega) (And.intro (by intro i hi; exact absurd hi (Nat.not_lt_zero i)) ?_))); conv => whnf)
              exact exit_plain rfl rfl
            | false =>
              rw [hf] at kF
              rw [show instH a i t c s = ⟨a.term, a.vote, i, t, c, s, []⟩ from by unfold instH; rw [hf, if_neg (by decide)]]
              ((try ((refine Exists.intro none ?_); (conv => whnf))); first | ((with_reducible refine call_by (kF) ?_); conv => whnf))
              refine exit_fz [] (by intro q hq; cases hq) (wkV_tu ⟨wkV_ag ?_, wkV_same _ rfl, rfl⟩)
              conv => whnf
              repeat' (first | exact rfl | ((with_reducible refine And.intro ?_ ?_) <;> (first | (with_reducible exact wkV_same _ rfl) | exact .inr (.inl ⟨rfl, rfl⟩) | (conv => whnf))))
        · have e : instE a i t c s = 14 := by unfold instE; rw [if_pos hB, if_pos hk, if_neg hC]
          simp only [Bool.not_eq_true] at hC
          rw [hC] at hcc
          rw [e, (res_no (by decide)).2.2]
          refine spec_of_body mixed Try.func159 rfl (by kernel_rfl) (by kernel_rfl) ?_; conv => whnf
          ((try ((refine Exists.intro none ?_); (conv => whnf))); first | ((with_reducible refine call_by (hck) ?_); conv => whnf))
          refine Exists.intro none ?_
          conv => whnf
          rw [e1]
          ((try ((refine Exists.intro none ?_); (conv => whnf))); first | ((with_reducible refine call_by (kw) ?_); conv => whnf))
          ((try ((refine Exists.intro none ?_); (conv => whnf))); first | ((with_reducible refine call_by (kv) ?_); conv => whnf))
          ((try ((refine Exists.intro none ?_); (conv => whnf))); first | ((with_reducible refine call_by (hcc) ?_); conv => whnf))
          exact exit_plain rfl rfl
      · have hk : ¬ ((a.base < i ∧ i ≤ 1099511627776) ∧ (1 ≤ t ∧ t ≤ a.term ∧ a.baseTerm ≤ t)) := by
          rintro ⟨_, v1, v2, v3⟩
          exact hv ⟨by split <;> omega, v2⟩
        have e : instE a i t c s = 1 := by unfold instE; rw [if_pos hB, if_neg hk]
        rw [decide_eq_false hv] at kv
        rw [e, (res_no (by decide)).2.2]
        refine spec_of_body mixed Try.func159 rfl (by kernel_rfl) (by kernel_rfl) ?_; conv => whnf
        ((try ((refine Exists.intro none ?_); (conv => whnf))); first | ((with_reducible refine call_by (hck) ?_); conv => whnf))
        refine Exists.intro none ?_
        conv => whnf
        rw [e1]
        ((try ((refine Exists.intro none ?_); (conv => whnf))); first | ((with_reducible refine call_by (kw) ?_); conv => whnf))
        ((try ((refine Exists.intro none ?_); (conv => whnf))); first | ((with_reducible refine call_by (kv) ?_); conv => whnf))
        exact exit_plain rfl rfl
    · have hk : ¬ ((a.base < i ∧ i ≤ 1099511627776) ∧ (1 ≤ t ∧ t ≤ a.term ∧ a.baseTerm ≤ t)) := by
        rintro ⟨⟨v1, v2⟩, _⟩
        exact hw ⟨by omega, v2⟩
      have e : instE a i t c s = 1 := by unfold instE; rw [if_pos hB, if_neg hk]
      rw [decide_eq_false hw] at kw
      rw [e, (res_no (by decide)).2.2]
      refine spec_of_body mixed Try.func159 rfl (by kernel_rfl) (by kernel_rfl) ?_; conv => whnf
      ((try ((refine Exists.intro none ?_); (conv => whnf))); first | ((with_reducible refine call_by (hck) ?_); conv => whnf))
      refine Exists.intro none ?_
      conv => whnf
      rw [e1]
      ((try ((refine Exists.intro none ?_); (conv => whnf))); first | ((with_reducible refine call_by (kw) ?_); conv => whnf))
      exact exit_plain rfl rfl
  · have e : instE a i t c s = 6 := by unfold instE; rw [if_neg hB]
    rw [e, (res_no (by decide)).2.2]
    simp only [Bool.not_eq_true] at hB
    rw [hB] at hck
    refine spec_of_body mixed Try.func159 rfl (by kernel_rfl) (by kernel_rfl) ?_; conv => whnf
    ((try ((refine Exists.intro none ?_); (conv => whnf))); first | ((with_reducible refine call_by (hck) ?_); conv => whnf))
    exact exit_plain rfl rfl
end Go.Proofs
