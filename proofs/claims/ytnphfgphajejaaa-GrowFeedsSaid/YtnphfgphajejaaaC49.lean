/- Contracts of functions: the reference's From. -/
import Derived.Test.YtnphfgphajejaaaC48
set_option linter.unusedSimpArgs false
set_option linter.unusedVariables false
namespace Go.Proofs
open Go.Pv
set_option maxRecDepth 100000

set_option maxHeartbeats 4000000 in
theorem c_rFrom (a : Hrd) (hl : a.log.length ≤ 4294967) (hb : 0 ≤ a.base ∧ a.base ≤ 1099511627776) (i : Int) (hi : isI i) (m : Int) : Ctr Try.prog 130 [.ag a.enc, iv i, iv m] (.ow 0 0 ((fromL a i m).map Ent.enc).length) [(16, (fromL a i m).map Ent.enc)] := by
  have hi' := hi
  unfold isI at hi'
  refine spec_of_body mixed Try.func130 rfl (by kernel_rfl) (by kernel_rfl) ?_; conv => whnf
  ((first | (with_reducible refine split_dec (fun h => ?_) (fun h => ?_)) | (with_reducible refine split_beq (fun h => ?_) (fun h => ?_)) | (with_reducible refine split_bne (fun h => ?_) (fun h => ?_)) | (with_reducible refine split_not (fun h => ?_) (fun h => ?_)) | (with_reducible refine split_beqS (fun h => ?_) (fun h => ?_)) | (with_reducible refine split_intro (fun h => ?_) (fun h => ?_))) <;> conv => whnf)
  · rw [show fromL a i m = [] from by unfold fromL; rw [if_neg (by omega)]]
    exact exit_nil 16
  generalize hD : a.log.drop (i - a.base - 1).toNat = D
  have hDl : (D.length : Int) = max (a.base + a.log.length + 1 - i) 0 := by rw [← hD, List.length_drop]; omega
  refine tri_nil 7 1000 16 rfl rfl ?_
  conv => whnf
  refine tri_forO mixed (by kernel_rfl) (fun k : Nat => k ≤ D.length ∧ (k : Int) ≤ max m 0) (fun k => [(1, iv (i + (k : Int))), (7, .ow 1000 0 ((D.take k).map Ent.enc).length)]) (fun _ => [(3, a.enc)]) (fun k => [(1000, some (false, 16, (D.take k).map Ent.enc))]) [(1000, 1000)] (fun k => D.length - k) 0 ⟨Nat.zero_le _, by omega⟩ ?_ ?_
  · conv => whnf
    (refine And.intro (And.intro (by with_unfolding_all rfl) (by intro q h; cases h)) ?_; refine And.intro ?_ (And.intro ?_ ?_) <;> (conv => whnf) <;> (repeat' (first | exact True.intro | (with_reducible exact rfl) | exact (rfl : List.replicate 0 PV.bad = []) | ((with_reducible refine And.intro ?_ ?_) <;> (first | (with_reducible exact wkV_same _ rfl) | exact wkV_pt rfl rfl | exact wkV_ow rfl rfl rfl | (refine wkV_ow rfl rfl ?_) | (refine wkV_sc (congrArg (Value.int .i64) ?_)) | (refine wkV_sc (congrArg Value.bool ?_)) | exact wkV_ls rfl | ((refine wkV_cl ?_); conv => whnf) | ((refine wkV_tu ?_); conv => whnf) | ((refine wkV_ag ?_); conv => whnf) | (conv => whnf))))))
    all_goals first | omega | rfl
  rintro k ⟨hk, hkm⟩
  conv => whnf
  ((first | (with_reducible refine split_dec (fun h => ?_) (fun h => ?_)) | (with_reducible refine split_beq (fun h => ?_) (fun h => ?_)) | (with_reducible refine split_bne (fun h => ?_) (fun h => ?_)) | (with_reducible refine split_not (fun h => ?_) (fun h => ?_)) | (with_reducible refine split_beqS (fun h => ?_) (fun h => ?_)) | (with_reducible refine split_intro (fun h => ?_) (fun h => ?_))) <;> conv => whnf)
  · rw [List.length_map, List.length_take, Nat.min_eq_left hk] at h
    have h1 := h
    ((first | (with_reducible refine split_dec (fun h => ?_) (fun h => ?_)) | (with_reducible refine split_beq (fun h => ?_) (fun h => ?_)) | (with_reducible refine split_bne (fun h => ?_) (fun h => ?_)) | (with_reducible refine split_not (fun h => ?_) (fun h => ?_)) | (with_reducible refine split_beqS (fun h => ?_) (fun h => ?_)) | (with_reducible refine split_intro (fun h => ?_) (fun h => ?_))) <;> conv => whnf)
    · rw [List.length_map, wrap_id (by omega) (by omega)] at h
      have hlt : k < D.length := by omega
      have he : entAt a (i + (k : Int)) = some (D[k]'hlt) := by
        rw [entAt_nat (m := (i - a.base - 1).toNat + k) (by omega), ← List.getElem?_drop, hD, List.getElem?_eq_getElem hlt]
      have c1 := c_rAt a (smallM (by omega)) hb.1 (by omega) (i + (k : Int)) (by unfold isI; omega)
      rw [he] at c1
      simp only [Option.getD_some, Option.isSome_some] at c1
      have n1 : ((D.take k).map Ent.enc).length ≤ 4294967 := by rw [List.length_map, List.length_take]; omega
      have s1 : D.take (k + 1) = D.take k ++ [D[k]'hlt] := List.take_succ_eq_append_getElem hlt
      ((try ((refine Exists.intro none ?_); (conv => whnf))); first | ((with_reducible refine call_by (c1) ?_); conv => whnf))
      (refine And.intro rfl ?_; (conv => whnf); refine And.intro (And.intro (And.intro (by kernel_rfl) (And.intro (by simp) (And.intro (small (by simp only [List.length_cons, List.length_nil]; omega) (by kernel_rfl)) (And.intro (smallM (by simp only [List.length_cons, List.length_nil]; omega)) (by intro r hr; rw [List.mem_singleton.1 hr]; rfl))))) (And.intro (by decide) rfl)) ?_; conv => whnf)
      refine ⟨k + 1, [(1000, 592)], ⟨⟨by omega, by omega⟩, by omega⟩, ?_⟩
      rw [s1]
      conv => whnf
      (refine And.intro (And.intro (by with_unfolding_all rfl) (by intro q h; cases h)) ?_; refine And.intro ?_ (And.intro ?_ ?_) <;> (conv => whnf) <;> (repeat' (first | exact True.intro | (with_reducible exact rfl) | exact (rfl : List.replicate 0 PV.bad = []) | ((with_reducible refine And.intro ?_ ?_) <;> (first | (with_reducible exact wkV_same _ rfl) | exact wkV_pt rfl rfl | exact wkV_ow rfl rfl rfl | (refine wkV_ow rfl rfl ?_) | (refine wkV_sc (congrArg (Value.int .i64) ?_)) | (refine wkV_sc (congrArg Value.bool ?_)) | exact wkV_ls rfl | ((refine wkV_cl ?_); conv => whnf) | ((refine wkV_tu ?_); conv => whnf) | ((refine wkV_ag ?_); conv => whnf) | (conv => whnf))))))
      all_goals first | (rw [wrap_id (by omega) (by omega)]; omega) | (refine obj_eq (by kernel_rfl) ?_; exact app1_map rfl _ rfl) | (simp only [List.map_append, List.length_append]; rfl) | rfl
    · rw [List.length_map, wrap_id (by omega) (by omega)] at h
      have hkd : k = D.length := by omega
      rw [show fromL a i m = D.take k from by unfold fromL; rw [if_pos ⟨by omega, by omega⟩, hD, hkd, List.take_length, List.take_of_length_le (by omega)]]
      exact exit_own [(0, 1000)] rfl ⟨rfl, True.intro⟩ (wkV_ow rfl rfl rfl)
  · rw [List.length_map, List.length_take, Nat.min_eq_left hk] at h
    rw [show fromL a i m = D.take k from by
      unfold fromL
      by_cases hm1 : 1 ≤ m
      · rw [if_pos ⟨by omega, hm1⟩, hD, show m.toNat = k by omega]
      · rw [if_neg (by omega), show k = 0 by omega]; rfl]
    exact exit_own [(0, 1000)] rfl ⟨rfl, True.intro⟩ (wkV_ow rfl rfl rfl)
end Go.Proofs
