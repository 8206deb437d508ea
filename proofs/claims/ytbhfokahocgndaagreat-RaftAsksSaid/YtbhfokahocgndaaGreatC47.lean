import Derived.Test.YtbhfokahocgndaaGreatC41
/- Contracts of functions: logs.Compact, logs.Install. -/
set_option linter.unusedSimpArgs false
set_option linter.unusedVariables false
namespace Go.Proofs
open Go.Pv
set_option maxRecDepth 100000

noncomputable def compE (h : Hrd) (i : Int) (s : List Int) : Int := if hardB h = true then (if h.base < i ∧ i ≤ lastI h ∧ i ≤ 1099511627776 then (if 16384 < s.length then 2 else 0) else 1) else 6
def compH (h : Hrd) (i : Int) (s : List Int) : Hrd := ⟨h.term, h.vote, i, termAt h i, (force h i).1, s, h.log.drop (i - h.base).toNat⟩

set_option maxHeartbeats 4000000 in
theorem c_Compact (a : Hrd) (h2 : a.log.length ≤ 4294967) (hb : isI a.base) (i : Int) (hi : isI i) (s : List Int) (h3 : s.length ≤ 4294967296) :
    Ctr Tryz.prog 64 [.ag a.enc, iv i, .sl 1 (s.map encB)] (resV (compE a i s) (compH a i s)) (resO (compE a i s) (compH a i s)) := by
  have hm : a.log.length ≤ maxLen := smallM (by omega)
  have hck := c_lCheck a hm
  by_cases hB : hardB a = true
  · rw [hB] at hck
    simp only [if_true] at hck
    have hb0 := (hardB_A hB).1.b
    have hla : lastI a = a.base + a.log.length := lastI_sum hb0.1 (by omega)
    have kT := c_Term a hm hb i hi
    unfold isI at hi
    by_cases hk : a.base < i ∧ i ≤ lastI a ∧ i ≤ 1099511627776
    · by_cases hs : 16384 < s.length
      · have e : compE a i s = 2 := by unfold compE; rw [if_pos hB, if_pos hk, if_pos hs]
        rw [e, (res_no (by decide)).1, (res_no (by decide)).2.1]
        refine spec_of_body mixed Tryz.func64 rfl (by kernel_rfl) (by kernel_rfl) ?_; conv => whnf
        ((try ((refine Exists.intro none ?_); (conv => whnf))); first | ((with_reducible refine call_by (hck) ?_); conv => whnf))
        ((try ((refine Exists.intro none ?_); (conv => whnf))); first | ((with_reducible refine call_by (c_Last a hm) ?_); conv => whnf))
        ((first | (with_reducible refine split_dec (fun h => ?_) (fun h => ?_)) | (with_reducible refine split_beq (fun h => ?_) (fun h => ?_)) | (with_reducible refine split_bne (fun h => ?_) (fun h => ?_)) | (with_reducible refine split_not (fun h => ?_) (fun h => ?_)) | (with_reducible refine split_beqS (fun h => ?_) (fun h => ?_)) | (with_reducible refine split_intro (fun h => ?_) (fun h => ?_))) <;> conv => whnf)
        · exfalso; omega
        ((first | (with_reducible refine split_dec (fun h => ?_) (fun h => ?_)) | (with_reducible refine split_beq (fun h => ?_) (fun h => ?_)) | (with_reducible refine split_bne (fun h => ?_) (fun h => ?_)) | (with_reducible refine split_not (fun h => ?_) (fun h => ?_)) | (with_reducible refine split_beqS (fun h => ?_) (fun h => ?_)) | (with_reducible refine split_intro (fun h => ?_) (fun h => ?_))) <;> conv => whnf)
        · exfalso; split at h <;> omega
        ((first | (with_reducible refine split_dec (fun h => ?_) (fun h => ?_)) | (with_reducible refine split_beq (fun h => ?_) (fun h => ?_)) | (with_reducible refine split_bne (fun h => ?_) (fun h => ?_)) | (with_reducible refine split_not (fun h => ?_) (fun h => ?_)) | (with_reducible refine split_beqS (fun h => ?_) (fun h => ?_)) | (with_reducible refine split_intro (fun h => ?_) (fun h => ?_))) <;> conv => whnf)
        · exact exit_plain rfl rfl
        · exfalso
          simp only [List.length_map] at h
          omega
      · have e : compE a i s = 0 := by unfold compE; rw [if_pos hB, if_pos hk, if_neg hs]
        rw [e, (res_ok rfl).1, (res_ok rfl).2.1]
        refine spec_of_body mixed Tryz.func64 rfl (by kernel_rfl) (by kernel_rfl) ?_; conv => whnf
        ((try ((refine Exists.intro none ?_); (conv => whnf))); first | ((with_reducible refine call_by (hck) ?_); conv => whnf))
        ((try ((refine Exists.intro none ?_); (conv => whnf))); first | ((with_reducible refine call_by (c_Last a hm) ?_); conv => whnf))
        ((first | (with_reducible refine split_dec (fun h => ?_) (fun h => ?_)) | (with_reducible refine split_beq (fun h => ?_) (fun h => ?_)) | (with_reducible refine split_bne (fun h => ?_) (fun h => ?_)) | (with_reducible refine split_not (fun h => ?_) (fun h => ?_)) | (with_reducible refine split_beqS (fun h => ?_) (fun h => ?_)) | (with_reducible refine split_intro (fun h => ?_) (fun h => ?_))) <;> conv => whnf)
        · exfalso; omega
        ((first | (with_reducible refine split_dec (fun h => ?_) (fun h => ?_)) | (with_reducible refine split_beq (fun h => ?_) (fun h => ?_)) | (with_reducible refine split_bne (fun h => ?_) (fun h => ?_)) | (with_reducible refine split_not (fun h => ?_) (fun h => ?_)) | (with_reducible refine split_beqS (fun h => ?_) (fun h => ?_)) | (with_reducible refine split_intro (fun h => ?_) (fun h => ?_))) <;> conv => whnf)
        · exfalso; split at h <;> omega
        ((first | (with_reducible refine split_dec (fun h => ?_) (fun h => ?_)) | (with_reducible refine split_beq (fun h => ?_) (fun h => ?_)) | (with_reducible refine split_bne (fun h => ?_) (fun h => ?_)) | (with_reducible refine split_not (fun h => ?_) (fun h => ?_)) | (with_reducible refine split_beqS (fun h => ?_) (fun h => ?_)) | (with_reducible refine split_intro (fun h => ?_) (fun h => ?_))) <;> conv => whnf)
        · exfalso
          simp only [List.length_map] at h
          omega
        ((try ((refine Exists.intro none ?_); (conv => whnf))); first | ((with_reducible refine call_by (c_lConf a hm i) ?_); conv => whnf))
        ((try ((refine Exists.intro none ?_); (conv => whnf))); first | ((with_reducible refine call_by (kT) ?_); conv => whnf))
        ((try ((refine Exists.intro none ?_); (conv => whnf))); first | ((with_reducible refine call_by (c_CloneBytes s h3) ?_); conv => whnf))
        (refine Exists.intro _ (And.intro rfl (And.intro (by intro q hq; first | (cases hq; done) | (simp only [List.mem_cons, List.not_mem_nil, or_false] at hq; rcases hq with rfl | rfl <;> (simp only [List.length_cons, List.length_nil]; omega)) | (simp only [List.mem_cons, List.not_mem_nil, or_false] at hq; subst hq; simp only [List.length_cons, List.length_nil]; omega)) (And.intro (by intro i hi; simp only [List.length_cons, List.length_nil, Nat.lt_one_iff, Nat.zero_add] at hi; subst hi; rfl) ?_))); conv => whnf)
        obtain ⟨q, hq, hql⟩ : ∃ q : Nat, i - a.base = q ∧ q ≤ a.log.length := ⟨(i - a.base).toNat, by omega, by omega⟩
        have e1 : IntKind.i64.wrap (i - a.base) = (q : Int) := by rw [wrap_id (by omega) (by omega), hq]
        rw [e1]
        refine ⟨⟨by omega, by rw [List.length_map]; omega, Int.le_refl _⟩, ?_⟩
        conv => whnf
        refine Exists.intro none ?_
        conv => whnf
        have e2 : List.drop (q : Int).toNat (List.take (((a.log.map Ent.enc).length : Nat) : Int).toNat (a.log.map Ent.enc)) = (a.log.drop q).map Ent.enc := by rw [Int.toNat_natCast, Int.toNat_natCast, List.take_length, List.map_drop]
        rw [e2]
        have c1 := c_CloneEntries (a.log.drop q) (by rw [List.length_drop]; omega)
        ((try ((refine Exists.intro none ?_); (conv => whnf))); first | ((with_reducible refine call_by (c1) ?_); conv => whnf))
        (refine Exists.intro _ (And.intro rfl (And.intro (by intro q hq; first | (cases hq; done) | (simp only [List.mem_cons, List.not_mem_nil, or_false] at hq; rcases hq with rfl | rfl <;> (simp only [List.length_cons, List.length_nil]; omega)) | (simp only [List.mem_cons, List.not_mem_nil, or_false] at hq; subst hq; simp only [List.length_cons, List.length_nil]; omega)) (And.intro (by intro i hi; simp only [List.length_cons, List.length_nil, Nat.lt_one_iff, Nat.zero_add] at hi; subst hi; rfl) ?_))); conv => whnf)
        rw [show compH a i s = ⟨a.term, a.vote, i, termAt a i, (force a i).1, s, a.log.drop q⟩ from by unfold compH; rw [hq, Int.toNat_natCast]]
        refine exit_own [(0, 944), (1, 1072)] rfl ⟨rfl, rfl, True.intro⟩ (wkV_tu ⟨wkV_ag ?_, wkV_same _ rfl, rfl⟩)
        conv => whnf
        repeat' (first | exact rfl | ((with_reducible refine And.intro ?_ ?_) <;> (first | (with_reducible exact wkV_same _ rfl) | exact wkV_ow rfl rfl rfl | (conv => whnf))))
    · have e : compE a i s = 1 := by unfold compE; rw [if_pos hB, if_neg hk]
      rw [e, (res_no (by decide)).1, (res_no (by decide)).2.1]
      refine spec_of_body mixed Tryz.func64 rfl (by kernel_rfl) (by kernel_rfl) ?_; conv => whnf
      ((try ((refine Exists.intro none ?_); (conv => whnf))); first | ((with_reducible refine call_by (hck) ?_); conv => whnf))
      ((try ((refine Exists.intro none ?_); (conv => whnf))); first | ((with_reducible refine call_by (c_Last a hm) ?_); conv => whnf))
      ((first | (with_reducible refine split_dec (fun h => ?_) (fun h => ?_)) | (with_reducible refine split_beq (fun h => ?_) (fun h => ?_)) | (with_reducible refine split_bne (fun h => ?_) (fun h => ?_)) | (with_reducible refine split_not (fun h => ?_) (fun h => ?_)) | (with_reducible refine split_beqS (fun h => ?_) (fun h => ?_)) | (with_reducible refine split_intro (fun h => ?_) (fun h => ?_))) <;> conv => whnf)
      · exact exit_plain rfl rfl
      ((first | (with_reducible refine split_dec (fun h => ?_) (fun h => ?_)) | (with_reducible refine split_beq (fun h => ?_) (fun h => ?_)) | (with_reducible refine split_bne (fun h => ?_) (fun h => ?_)) | (with_reducible refine split_not (fun h => ?_) (fun h => ?_)) | (with_reducible refine split_beqS (fun h => ?_) (fun h => ?_)) | (with_reducible refine split_intro (fun h => ?_) (fun h => ?_))) <;> conv => whnf)
      · exact exit_plain rfl rfl
      · exfalso
        split at h <;> omega
  · have e : compE a i s = 6 := by unfold compE; rw [if_neg hB]
    rw [e, (res_no (by decide)).1, (res_no (by decide)).2.1]
    simp only [Bool.not_eq_true] at hB
    rw [hB] at hck
    simp only [Bool.false_eq_true, if_false] at hck
    refine spec_of_body mixed Tryz.func64 rfl (by kernel_rfl) (by kernel_rfl) ?_; conv => whnf
    ((try ((refine Exists.intro none ?_); (conv => whnf))); first | ((with_reducible refine call_by (hck) ?_); conv => whnf))
    ((try ((refine Exists.intro none ?_); (conv => whnf))); first | ((with_reducible refine call_by (c_Last a hm) ?_); conv => whnf))
    exact exit_plain rfl rfl
/-! Install. -/
noncomputable def instE (h : Hrd) (i t : Int) (c : Conf) (s : List Int) : Int := if hardB h = true then (if (h.base < i ∧ i ≤ 1099511627776) ∧ (1 ≤ t ∧ t ≤ h.term ∧ h.baseTerm ≤ t) then (if confB c = true then (if 16384 < s.length then 2 else 0) else 14) else 1) else 6
def instH (h : Hrd) (i t : Int) (c : Conf) (s : List Int) : Hrd := ⟨h.term, h.vote, i, t, c, s, if fits h i t = true then h.log.drop (i - h.base).toNat else []⟩
/-- A hard state in memory of its own, without a log. -/
abbrev Hrd.own0 (x : Hrd) (k : Nat) : List PV := [iv x.term, iv x.vote, iv x.base, iv x.baseTerm, iv x.baseConf.full, iv x.baseConf.wit, iv x.baseConf.learn, iv x.baseConf.lwit, .ow k 0 (x.snap.map encB).length, .nl]

theorem c_CompactW (a : Hrd) (h2 : a.log.length ≤ 4294967) (hb : isI a.base) (i : Int) (hi : isI i) (s : List Int) (h3 : s.length ≤ 4294967296) :
    Ctr Tryz.prog 64 [.ag a.enc, iv i, .sl 1 (s.map encB)] (resW (compE a i s) (compH a i s)) [] := ctr_res (c_Compact a h2 hb i hi s h3)
end Go.Proofs

/- Plain law: a log that is cut at an index. -/
namespace Go.Proofs
open Go.Pv
set_option maxRecDepth 100000

/-- A log that begins behind entry q. -/
def cutH (h : Hrd) (q : Nat) (c : Conf) (s : List Int) : Hrd := ⟨h.term, h.vote, h.base + q, behind h.log h.baseTerm q, c, s, h.log.drop q⟩
/-! The configuration in force. -/
end Go.Proofs
