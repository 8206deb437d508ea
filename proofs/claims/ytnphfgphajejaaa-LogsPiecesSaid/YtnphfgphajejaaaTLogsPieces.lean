import Derived.Test.YtnphfgphajejaaaC41
import Derived.Test.YtnphfgphajejaaaTLogsPuts
set_option linter.unusedSimpArgs false
set_option linter.unusedVariables false
namespace Go.Proofs
open Go.Pv
set_option maxRecDepth 100000

set_option maxHeartbeats 4000000 in
theorem l_LogsPieces (a : Hrd) (hbI : isI a.base) (i : Int) (hi : isI i) (n m : Int) : Ctr Try.prog 25 [.ag a.enc, iv i, iv n, iv m] (bv true) [] := by
  refine spec_of_body mixed Try.func25 rfl (by kernel_rfl) (by kernel_rfl) ?_; conv => whnf
  ((try ((refine Exists.intro none ?_); (conv => whnf))); first | ((with_reducible refine call_by (c_Heavy09 a) ?_); conv => whnf))
  ((first | (with_reducible refine split_dec (fun h => ?_) (fun h => ?_)) | (with_reducible refine split_beq (fun h => ?_) (fun h => ?_)) | (with_reducible refine split_bne (fun h => ?_) (fun h => ?_)) | (with_reducible refine split_not (fun h => ?_) (fun h => ?_)) | (with_reducible refine split_beqS (fun h => ?_) (fun h => ?_)) | (with_reducible refine split_intro (fun h => ?_) (fun h => ?_))) <;> conv => whnf)
  · exact exit_plain rfl rfl
  obtain ⟨hal, has⟩ := heavyH_len h
  clear h
  ((try ((refine Exists.intro none ?_); (conv => whnf))); first | ((with_reducible refine call_by (c_looked09 a) ?_); conv => whnf))
  cases hL : lookedB a with
  | false =>
    conv => whnf
    exact exit_plain rfl rfl
  | true =>
  conv => whnf
  simp only [lookedB, decide_eq_true_eq] at hL
  ((first | (with_reducible refine split_dec (fun h => ?_) (fun h => ?_)) | (with_reducible refine split_beq (fun h => ?_) (fun h => ?_)) | (with_reducible refine split_bne (fun h => ?_) (fun h => ?_)) | (with_reducible refine split_not (fun h => ?_) (fun h => ?_)) | (with_reducible refine split_beqS (fun h => ?_) (fun h => ?_)) | (with_reducible refine split_intro (fun h => ?_) (fun h => ?_))) <;> conv => whnf)
  · exact exit_plain rfl rfl
  have n0 := h
  ((first | (with_reducible refine split_dec (fun h => ?_) (fun h => ?_)) | (with_reducible refine split_beq (fun h => ?_) (fun h => ?_)) | (with_reducible refine split_bne (fun h => ?_) (fun h => ?_)) | (with_reducible refine split_not (fun h => ?_) (fun h => ?_)) | (with_reducible refine split_beqS (fun h => ?_) (fun h => ?_)) | (with_reducible refine split_intro (fun h => ?_) (fun h => ?_))) <;> conv => whnf)
  · exact exit_plain rfl rfl
  have n1 := h
  ((first | (with_reducible refine split_dec (fun h => ?_) (fun h => ?_)) | (with_reducible refine split_beq (fun h => ?_) (fun h => ?_)) | (with_reducible refine split_bne (fun h => ?_) (fun h => ?_)) | (with_reducible refine split_not (fun h => ?_) (fun h => ?_)) | (with_reducible refine split_beqS (fun h => ?_) (fun h => ?_)) | (with_reducible refine split_intro (fun h => ?_) (fun h => ?_))) <;> conv => whnf)
  · exact exit_plain rfl rfl
  have m0 := h
  ((first | (with_reducible refine split_dec (fun h => ?_) (fun h => ?_)) | (with_reducible refine split_beq (fun h => ?_) (fun h => ?_)) | (with_reducible refine split_bne (fun h => ?_) (fun h => ?_)) | (with_reducible refine split_not (fun h => ?_) (fun h => ?_)) | (with_reducible refine split_beqS (fun h => ?_) (fun h => ?_)) | (with_reducible refine split_intro (fun h => ?_) (fun h => ?_))) <;> conv => whnf)
  · exact exit_plain rfl rfl
  have m1 := h
  ((first | (with_reducible refine split_dec (fun h => ?_) (fun h => ?_)) | (with_reducible refine split_beq (fun h => ?_) (fun h => ?_)) | (with_reducible refine split_bne (fun h => ?_) (fun h => ?_)) | (with_reducible refine split_not (fun h => ?_) (fun h => ?_)) | (with_reducible refine split_beqS (fun h => ?_) (fun h => ?_)) | (with_reducible refine split_intro (fun h => ?_) (fun h => ?_))) <;> conv => whnf)
  · exact exit_plain rfl rfl
  have i0 := h
  ((first | (with_reducible refine split_dec (fun h => ?_) (fun h => ?_)) | (with_reducible refine split_beq (fun h => ?_) (fun h => ?_)) | (with_reducible refine split_bne (fun h => ?_) (fun h => ?_)) | (with_reducible refine split_not (fun h => ?_) (fun h => ?_)) | (with_reducible refine split_beqS (fun h => ?_) (fun h => ?_)) | (with_reducible refine split_intro (fun h => ?_) (fun h => ?_))) <;> conv => whnf)
  · exact exit_plain rfl rfl
  have i1 := h
  clear h
  have hA := fromL_len a i n
  have hB := fromL_len a (i + (fromL a i n).length) m
  have hmore := fromL_more (h := a) (i := i) (n := n) (m := m) (by omega) (by omega) (by omega)
  have hend : ((fromL a i n).length : Int) < n → fromL a (i + (fromL a i n).length) m = [] := fromL_end (by omega) (by omega)
  have c1 := c_lFrom a (by omega) hbI i hi n
  have c2 := c_lFrom a (by omega) hbI (i + (fromL a i n).length) (by unfold isI; omega) m
  have c3 := c_lFromV a (by omega) hbI i hi ((fromL a i n).length + m)
  have c4 := c_lFromV a (by omega) hbI (lastI a + 1) (by rw [lastI_sum hL.1 (by omega)]; unfold isI; omega) m
  have c5 := c_lFromV a (by omega) hbI a.base hbI m
  rw [hmore] at c3
  rw [show fromL a (lastI a + 1) m = [] from by rw [lastI_sum hL.1 (by omega)]; exact fromL_last] at c4
  rw [fromL_base] at c5
  generalize fromL a i n = A at *
  generalize fromL a (i + A.length) m = B at *
  have e1 : IntKind.i64.wrap (i + (((A.map Ent.enc).length : Nat) : Int)) = i + A.length := by rw [List.length_map, wrap_id (by omega) (by omega)]
  have e2 : IntKind.i64.wrap ((((A.map Ent.enc).length : Nat) : Int) + m) = A.length + m := by rw [List.length_map, wrap_id (by omega) (by omega)]
  have e3 : IntKind.i64.wrap (lastI a + 1) = lastI a + 1 := by rw [lastI_sum hL.1 (by omega), wrap_id (by omega) (by omega)]
  have cs := s_Entries (A ++ B) (smallM (by rw [List.length_append]; omega))
  ((try ((refine Exists.intro none ?_); (conv => whnf))); first | ((with_reducible refine call_by (c1) ?_); conv => whnf))
  (refine Exists.intro _ (And.intro rfl (And.intro (by intro q hq; first | (cases hq; done) | (simp only [List.mem_cons, List.not_mem_nil, or_false] at hq; rcases hq with rfl | rfl <;> (simp only [List.length_cons, List.length_nil]; omega)) | (simp only [List.mem_cons, List.not_mem_nil, or_false] at hq; subst hq; simp only [List.length_cons, List.length_nil]; omega)) (And.intro (by intro i hi; simp only [List.length_cons, List.length_nil, Nat.lt_one_iff, Nat.zero_add] at hi; subst hi; rfl) ?_))); conv => whnf)
  rw [e1]
  ((try ((refine Exists.intro none ?_); (conv => whnf))); first | ((with_reducible refine call_by (c2) ?_); conv => whnf))
  (refine Exists.intro _ (And.intro rfl (And.intro (by intro q hq; first | (cases hq; done) | (simp only [List.mem_cons, List.not_mem_nil, or_false] at hq; rcases hq with rfl | rfl <;> (simp only [List.length_cons, List.length_nil]; omega)) | (simp only [List.mem_cons, List.not_mem_nil, or_false] at hq; subst hq; simp only [List.length_cons, List.length_nil]; omega)) (And.intro (by intro i hi; simp only [List.length_cons, List.length_nil, Nat.lt_one_iff, Nat.zero_add] at hi; subst hi; rfl) ?_))); conv => whnf)
  ((try ((refine Exists.intro none ?_); (conv => whnf))); first | ((with_reducible refine call_by (c_Last a (smallM (by omega))) ?_); conv => whnf))
  ((first | (with_reducible refine split_dec (fun h => ?_) (fun h => ?_)) | (with_reducible refine split_beq (fun h => ?_) (fun h => ?_)) | (with_reducible refine split_bne (fun h => ?_) (fun h => ?_)) | (with_reducible refine split_not (fun h => ?_) (fun h => ?_)) | (with_reducible refine split_beqS (fun h => ?_) (fun h => ?_)) | (with_reducible refine split_intro (fun h => ?_) (fun h => ?_))) <;> conv => whnf)
  all_goals first
    | (simp only [List.length_map] at h
       have hb := hend h
       ((first | (with_reducible refine split_dec (fun h => ?_) (fun h => ?_)) | (with_reducible refine split_beq (fun h => ?_) (fun h => ?_)) | (with_reducible refine split_bne (fun h => ?_) (fun h => ?_)) | (with_reducible refine split_not (fun h => ?_) (fun h => ?_)) | (with_reducible refine split_beqS (fun h => ?_) (fun h => ?_)) | (with_reducible refine split_intro (fun h => ?_) (fun h => ?_))) <;> conv => whnf)
       · exfalso
         rw [hb] at h
         simp at h)
    | skip
  all_goals (
    refine ⟨⟨by kernel_rfl, Nat.le_of_eq (Nat.zero_add _)⟩, ?_⟩
    conv => whnf
    have er : List.take (B.map Ent.enc).length (List.drop 0 (B.map Ent.enc)) = B.map Ent.enc := by rw [List.drop_zero, List.take_length]
    rw [er]
    refine ⟨⟨⟨by kernel_rfl, Nat.le_refl _, small (by rw [List.length_map, List.length_map]; omega) (by kernel_rfl), smallM (by rw [List.length_map, List.length_map]; omega), by intro r hr; obtain ⟨x, _, rfl⟩ := List.mem_map.1 hr; rfl⟩, by decide, rfl⟩, ?_⟩
    conv => whnf
    refine Exists.intro none ?_
    conv => whnf
    rw [e2]
    ((try ((refine Exists.intro none ?_); (conv => whnf))); first | ((with_reducible refine call_by (c3) ?_); conv => whnf))
    (refine Exists.intro _ (And.intro rfl (And.intro (by intro q _; simp only [List.length_nil]; omega) (And.intro (by intro i hi; exact absurd hi (Nat.not_lt_zero i)) ?_))); conv => whnf)
    refine Exists.intro none ?_
    conv => whnf
    refine And.intro (by simp) ?_
    conv => whnf
    have q1 : List.take A.length (A.map Ent.enc) = A.map Ent.enc := List.take_of_length_le (by simp)
    refine call_eq cs (by simp; exact ⟨by kernel_rfl, by rw [q1]; exact List.take_of_length_le (by simp)⟩) ?_
    conv => whnf
    refine Exists.intro none ?_
    conv => whnf
    rw [e3]
    ((try ((refine Exists.intro none ?_); (conv => whnf))); first | ((with_reducible refine call_by (c4) ?_); conv => whnf))
    (refine Exists.intro _ (And.intro rfl (And.intro (by intro q _; simp only [List.length_nil]; omega) (And.intro (by intro i hi; exact absurd hi (Nat.not_lt_zero i)) ?_))); conv => whnf)
    ((try ((refine Exists.intro none ?_); (conv => whnf))); first | ((with_reducible refine call_by (c5) ?_); conv => whnf))
    (refine Exists.intro _ (And.intro rfl (And.intro (by intro q _; simp only [List.length_nil]; omega) (And.intro (by intro i hi; exact absurd hi (Nat.not_lt_zero i)) ?_))); conv => whnf)
    ((try ((refine Exists.intro none ?_); (conv => whnf))); first | ((with_reducible refine call_by (c_wakes09) ?_); conv => whnf))
    exact exit_plain rfl rfl)

theorem told_LogsPieces (qs : List PV) (h : ArgsOf Try.prog [32, 3, 3, 3] qs) : Ctr Try.prog 25 qs (bv true) [] := by
  obtain ⟨p1, qs, rfl, h1, h⟩ := argsOf_cons h
  obtain ⟨p2, qs, rfl, h2, h⟩ := argsOf_cons h
  obtain ⟨p3, qs, rfl, h3, h⟩ := argsOf_cons h
  obtain ⟨p4, qs, rfl, h4, h⟩ := argsOf_cons h
  obtain rfl := argsOf_nil h
  obtain ⟨a, rfl, ha⟩ := arg_Hrd h1
  obtain ⟨i, rfl, hi⟩ := arg_i h2
  obtain ⟨n, rfl, _⟩ := arg_i h3
  obtain ⟨m, rfl, _⟩ := arg_i h4
  exact l_LogsPieces a ha.2.2.1 i hi n m
end Go.Proofs
