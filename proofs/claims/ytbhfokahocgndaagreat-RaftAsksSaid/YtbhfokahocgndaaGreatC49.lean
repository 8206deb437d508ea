import Derived.Test.YtbhfokahocgndaaGreatC47
/- Contracts of functions: the reference's From. -/
set_option linter.unusedSimpArgs false
set_option linter.unusedVariables false
namespace Go.Proofs
open Go.Pv
set_option maxRecDepth 100000

end Go.Proofs

/- Contracts of functions: what spoils; a twin as a value. -/
namespace Go.Proofs
open Go.Pv
set_option maxRecDepth 100000

def spoilEn (x : Ent) : Ent := { x with term := -77 }
end Go.Proofs

/- Contracts of functions: the reference's Put. -/
namespace Go.Pv
/-- An answer whose own slices are shown as values. -/
theorem exit_fz {c : CSt} {p r : PV} (fz : List (Nat × Bool × Nat × List (List PV))) (h : ∀ q ∈ fz, lkA c.ob q.1 = some (some q.2)) (h3 : WkV [] [] fz p r) : ExitOk c p r [] := by
  refine ⟨.inl ⟨fz, [], ⟨h, ?_, ?_, ?_⟩, h3⟩⟩
  · intro k o e; cases e
  · intro k k0 e; cases e
  · intro k k' k0 e; cases e
end Go.Pv
namespace Go.Proofs
open Go.Pv
set_option maxRecDepth 100000

end Go.Proofs

/- Contracts of functions: the references' Compact, Install. -/
namespace Go.Proofs
open Go.Pv
set_option maxRecDepth 100000

set_option maxHeartbeats 4000000 in
theorem c_rCompactW (a : Hrd) (h2 : a.log.length ≤ 4294967) (hb : isI a.base) (i : Int) (hi : isI i) (s : List Int) (h3 : s.length ≤ 4294967296) :
    Ctr Tryz.prog 21 [.ag a.enc, iv i, .sl 1 (s.map encB)] (resW (compE a i s) (compH a i s)) [] := by
  have hm : a.log.length ≤ maxLen := smallM (by omega)
  have hck := c_rHard a hm
  by_cases hB : hardB a = true
  · rw [hB] at hck
    have hb0 := (hardB_A hB).1.b
    have hla : lastI a = a.base + a.log.length := lastI_sum hb0.1 (by omega)
    have kT := c_rTerm a hm hb0.1 (by omega) i hi
    have e1 : IntKind.i64.wrap (a.base + 1) = a.base + 1 := wrap_id (by omega) (by omega)
    have kw := c_within08 i (a.base + 1) (if 1099511627776 < lastI a then 1099511627776 else lastI a)
    unfold isI at hi
    by_cases hk : a.base < i ∧ i ≤ lastI a ∧ i ≤ 1099511627776
    · have hw : a.base + 1 ≤ i ∧ i ≤ (if 1099511627776 < lastI a then 1099511627776 else lastI a) := ⟨by omega, by split <;> omega⟩
      rw [decide_eq_true hw] at kw
      by_cases hs : 16384 < s.length
      · have e : compE a i s = 2 := by unfold compE; rw [if_pos hB, if_pos hk, if_pos hs]
        rw [e, (res_no (by decide)).2.2]
        refine spec_of_body mixed Tryz.func21 rfl (by kernel_rfl) (by kernel_rfl) ?_; conv => whnf
        ((try ((refine Exists.intro none ?_); (conv => whnf))); first | ((with_reducible refine call_by (hck) ?_); conv => whnf))
        ((try ((refine Exists.intro none ?_); (conv => whnf))); first | ((with_reducible refine call_by (c_rLast a hm) ?_); conv => whnf))
        refine Exists.intro none ?_
        conv => whnf
        rw [e1]
        ((try ((refine Exists.intro none ?_); (conv => whnf))); first | ((with_reducible refine call_by (kw) ?_); conv => whnf))
        ((first | (with_reducible refine split_dec (fun h => ?_) (fun h => ?_)) | (with_reducible refine split_beq (fun h => ?_) (fun h => ?_)) | (with_reducible refine split_bne (fun h => ?_) (fun h => ?_)) | (with_reducible refine split_not (fun h => ?_) (fun h => ?_)) | (with_reducible refine split_beqS (fun h => ?_) (fun h => ?_)) | (with_reducible refine split_intro (fun h => ?_) (fun h => ?_))) <;> conv => whnf)
        · exact exit_plain rfl rfl
        · exfalso
          simp only [List.length_map] at h
          omega
      · have e : compE a i s = 0 := by unfold compE; rw [if_pos hB, if_pos hk, if_neg hs]
        rw [e, (res_ok rfl).2.2]
        obtain ⟨q, hq, hql⟩ : ∃ q : Nat, i - a.base = q ∧ q ≤ a.log.length := ⟨(i - a.base).toNat, by omega, by omega⟩
        have e3 : IntKind.i64.wrap (i - a.base) = (q : Int) := by rw [wrap_id (by omega) (by omega), hq]
        have e2 : List.drop (q : Int).toNat (List.take (((a.log.map Ent.enc).length : Nat) : Int).toNat (a.log.map Ent.enc)) = (a.log.drop q).map Ent.enc := by rw [Int.toNat_natCast, Int.toNat_natCast, List.take_length, List.map_drop]
        have c1 := (c_TwinEntries (a.log.drop q) (by rw [List.length_drop]; omega)).frz (wkV_fz (b := false) (List.Mem.head _) rfl)
        have c2 := (c_Twin s h3).frz (wkV_fz (b := false) (List.Mem.head _) rfl)
        rw [show compH a i s = ⟨a.term, a.vote, i, termAt a i, (force a i).1, s, a.log.drop q⟩ from by unfold compH; rw [hq, Int.toNat_natCast]]
        refine spec_of_body mixed Tryz.func21 rfl (by kernel_rfl) (by kernel_rfl) ?_; conv => whnf
        ((try ((refine Exists.intro none ?_); (conv => whnf))); first | ((with_reducible refine call_by (hck) ?_); conv => whnf))
        ((try ((refine Exists.intro none ?_); (conv => whnf))); first | ((with_reducible refine call_by (c_rLast a hm) ?_); conv => whnf))
        refine Exists.intro none ?_
        conv => whnf
        rw [e1]
        ((try ((refine Exists.intro none ?_); (conv => whnf))); first | ((with_reducible refine call_by (kw) ?_); conv => whnf))
        ((first | (with_reducible refine split_dec (fun h => ?_) (fun h => ?_)) | (with_reducible refine split_beq (fun h => ?_) (fun h => ?_)) | (with_reducible refine split_bne (fun h => ?_) (fun h => ?_)) | (with_reducible refine split_not (fun h => ?_) (fun h => ?_)) | (with_reducible refine split_beqS (fun h => ?_) (fun h => ?_)) | (with_reducible refine split_intro (fun h => ?_) (fun h => ?_))) <;> conv => whnf)
        · exfalso
          simp only [List.length_map] at h
          omega
        ((try ((refine Exists.intro none ?_); (conv => whnf))); first | ((with_reducible refine call_by (c_Force a hm i) ?_); conv => whnf))
        ((try ((refine Exists.intro none ?_); (conv => whnf))); first | ((with_reducible refine call_by (kT) ?_); conv => whnf))
        ((try ((refine Exists.intro none ?_); (conv => whnf))); first | ((with_reducible refine call_by (c2) ?_); conv => whnf))
        (refine Exists.intro _ (And.intro rfl (And.intro (by intro q _; simp only [List.length_nil]; omega) (And.intro (by intro i hi; exact absurd hi (Nat.not_lt_zero i)) ?_))); conv => whnf)
        rw [e3]
        refine ⟨⟨by omega, by rw [List.length_map]; omega, Int.le_refl _⟩, ?_⟩
        conv => whnf
        refine Exists.intro none ?_
        conv => whnf
        rw [e2]
        ((try ((refine Exists.intro none ?_); (conv => whnf))); first | ((with_reducible refine call_by (c1) ?_); conv => whnf))
        (refine Exists.intro _ (And.intro rfl (And.intro (by intro q _; simp only [List.length_nil]; omega) (And.intro (by intro i hi; exact absurd hi (Nat.not_lt_zero i)) ?_))); conv => whnf)
        exact exit_plain rfl rfl
    · have e : compE a i s = 1 := by unfold compE; rw [if_pos hB, if_neg hk]
      have hw : ¬ (a.base + 1 ≤ i ∧ i ≤ (if 1099511627776 < lastI a then 1099511627776 else lastI a)) := by
        rintro ⟨w1, w2⟩
        split at w2 <;> omega
      rw [decide_eq_false hw] at kw
      rw [e, (res_no (by decide)).2.2]
      refine spec_of_body mixed Tryz.func21 rfl (by kernel_rfl) (by kernel_rfl) ?_; conv => whnf
      ((try ((refine Exists.intro none ?_); (conv => whnf))); first | ((with_reducible refine call_by (hck) ?_); conv => whnf))
      ((try ((refine Exists.intro none ?_); (conv => whnf))); first | ((with_reducible refine call_by (c_rLast a hm) ?_); conv => whnf))
      refine Exists.intro none ?_
      conv => whnf
      rw [e1]
      ((try ((refine Exists.intro none ?_); (conv => whnf))); first | ((with_reducible refine call_by (kw) ?_); conv => whnf))
      exact exit_plain rfl rfl
  · have e : compE a i s = 6 := by unfold compE; rw [if_neg hB]
    rw [e, (res_no (by decide)).2.2]
    simp only [Bool.not_eq_true] at hB
    rw [hB] at hck
    refine spec_of_body mixed Tryz.func21 rfl (by kernel_rfl) (by kernel_rfl) ?_; conv => whnf
    ((try ((refine Exists.intro none ?_); (conv => whnf))); first | ((with_reducible refine call_by (hck) ?_); conv => whnf))
    exact exit_plain rfl rfl

end Go.Proofs

/- Contracts of functions: what spoils bytes, and a hard state. -/
namespace Go.Proofs
open Go.Pv
set_option maxRecDepth 100000

def spoilB (b : Int) : Int := IntKind.u8.wrap (b + 101)
end Go.Proofs
