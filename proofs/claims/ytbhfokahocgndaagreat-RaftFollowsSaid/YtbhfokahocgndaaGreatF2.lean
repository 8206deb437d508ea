/- Contracts of functions: what a leader's log is fed from, its own still. -/
import Derived.Test.YtbhfokahocgndaaGreatF1
import Derived.Test.YtbhfokahocgndaaGreatC67
set_option linter.unusedSimpArgs false
set_option linter.unusedVariables false
namespace Go.Proofs
open Go.Pv
set_option maxRecDepth 100000

abbrev gNil (c : Conf) (l : List Ent) : List PV := [iv 1, iv (-1), iv 0, iv 0, iv c.full, iv c.wit, iv c.learn, iv c.lwit, .nl, .sl 16 (l.map Ent.enc)]
abbrev gOw (c : Conf) (l : List Ent) (k : Nat) : List PV := [iv 1, iv (-1), iv 0, iv 0, iv c.full, iv c.wit, iv c.learn, iv c.lwit, .nl, .ow k 0 (l.map Ent.enc).length]
set_option maxHeartbeats 4000000 in
theorem c_rFromE (c : Conf) {l : List Ent} {x : Ent} (hl : l.length ≤ 500) : CtrE Tryz.prog 75 [.ag (gOw c (l ++ [x]) 1000000), iv ((l.length : Int) + 1), iv 8] [] [(1000000, some (false, 16, (l ++ [x]).map Ent.enc))] (.ow 1 0 1) [] [(1000000, some (false, 16, (l ++ [x]).map Ent.enc)), (1, some (false, 16, [x.enc]))] := by
  have hll : (l ++ [x]).length = l.length + 1 := by rw [List.length_append]; rfl
  have hlm : ((l ++ [x]).map Ent.enc).length = l.length + 1 := by rw [List.length_map, hll]
  have he : entAt (h1c c (l ++ [x])) ((l.length : Int) + 1) = some x := by
    rw [entAt_nat (m := l.length) (by show (l.length : Int) + 1 = (0 : Int) + 1 + (l.length : Int); omega)]
    show (l ++ [x])[l.length]? = some x
    rw [List.getElem?_append_right (Nat.le_refl _), Nat.sub_self]; rfl
  have k1 := c_rAt (h1c c (l ++ [x])) (smallM (by show (l ++ [x]).length ≤ _; omega)) (by show (0 : Int) ≤ 0; decide) (by show (0 : Int) + ((l ++ [x]).length : Int) < _; omega) ((l.length : Int) + 1) (by unfold isI; omega)
  rw [he] at k1
  have k2 : Ctr Tryz.prog 109 [.ag (gNil c (l ++ [x])), iv ((l.length : Int) + 1)] (.tu [.ag x.enc, bv true]) [] := k1.deep (by (repeat' (first | exact subVL_nil | exact subVR_nil | refine subVL_cons ?_ ?_ | refine subVR_cons ?_ ?_ | exact SubV.refl _ | exact subV_nl | (with_reducible exact subV_tk rfl) | refine subV_ag ?_ | refine subV_sl ?_ | refine subV_ep ?_)))
  have b1 : (([] : List (List PV)).length + 1) * 152 ≤ 140737488355328 := by decide
  have b2 : ([] : List (List PV)).length + 1 ≤ maxLen := smallM (by decide)
  refine spec_of_bodyE mixed Tryz.func75 rfl (by kernel_rfl) (by kernel_rfl) ?_; conv => whnf
  refine tri_born 7 1002 16 rfl rfl ?_
  conv => whnf
  refine tri_rounds mixed (by kernel_rfl) 2 ?_
  conv => whnf
  have ew : IntKind.i64.wrap (0 + (((l ++ [x]).map Ent.enc).length : Int)) = (l.length : Int) + 1 := by rw [hlm]; exact (wrap_id (by omega) (by omega)).trans (by omega)
  have ew1 : IntKind.i64.wrap ((l.length : Int) + 1 + 1) = (l.length : Int) + 2 := (wrap_id (by omega) (by omega)).trans (by omega)
  rw [ew]
  ((first | (with_reducible refine split_dec (fun h => ?_) (fun h => ?_)) | (with_reducible refine split_beq (fun h => ?_) (fun h => ?_)) | (with_reducible refine split_bne (fun h => ?_) (fun h => ?_)) | (with_reducible refine split_not (fun h => ?_) (fun h => ?_)) | (with_reducible refine split_beqS (fun h => ?_) (fun h => ?_)) | (with_reducible refine split_intro (fun h => ?_) (fun h => ?_))) <;> conv => whnf)
  · clear h
    ((try ((refine Exists.intro none ?_); (conv => whnf))); (first | (with_reducible refine And.intro (Nat.le_of_eq (Nat.zero_add _)) ?_) | (refine And.intro (by simp only [List.length_map, List.length_set, Nat.zero_add]; omega) ?_)); conv => whnf)
    refine call_eq k2 (by simp only [List.drop_zero, List.take_length] <;> kernel_rfl) ?_
    conv => whnf
    (refine And.intro rfl ?_; (conv => whnf); refine And.intro (And.intro (And.intro (by kernel_rfl) (And.intro (Nat.le_refl _) (And.intro (b1) (And.intro (b2) (by intro r hr; rw [List.mem_singleton.1 hr]; rfl))))) (And.intro (by decide) rfl)) ?_; conv => whnf)
    rw [ew1]
    rw [ew]
    ((first | (with_reducible refine split_dec (fun h => ?_) (fun h => ?_)) | (with_reducible refine split_beq (fun h => ?_) (fun h => ?_)) | (with_reducible refine split_bne (fun h => ?_) (fun h => ?_)) | (with_reducible refine split_not (fun h => ?_) (fun h => ?_)) | (with_reducible refine split_beqS (fun h => ?_) (fun h => ?_)) | (with_reducible refine split_intro (fun h => ?_) (fun h => ?_))) <;> conv => whnf)
    · exact absurd h (by omega)
    · (refine exitE_of [(1000000, 1000000), (1, 592)] [] ?_; (conv => whnf); (refine And.intro (And.intro (by with_unfolding_all rfl) (by intro q h; cases h)) ?_; refine And.intro ?_ (And.intro ?_ ?_) <;> (conv => whnf) <;> (repeat' (first | exact True.intro | (with_reducible exact rfl) | exact (rfl : List.replicate 0 PV.bad = []) | ((with_reducible refine And.intro ?_ ?_) <;> (first | (with_reducible exact wkV_same _ rfl) | exact wkV_pt rfl rfl | exact wkV_ow rfl rfl rfl | (refine wkV_ow rfl rfl ?_) | (refine wkV_sc (congrArg (Value.int .i64) ?_)) | (refine wkV_sc (congrArg Value.bool ?_)) | exact wkV_ls rfl | ((refine wkV_cl ?_); conv => whnf) | ((refine wkV_tu ?_); conv => whnf) | ((refine wkV_ag ?_); conv => whnf) | (conv => whnf)))))))
      all_goals (refine obj_eq (by kernel_rfl) ?_; rfl)
  · exact absurd (Int.le_refl _) h
set_option maxHeartbeats 4000000 in
theorem c_rFeedE (c : Conf) {l : List Ent} {x : Ent} (h : okL (l ++ [x])) (hl : l.length ≤ 500) : CtrE Tryz.prog 28 [.ag (gOw c (l ++ [x]) 1000000), iv ((l.length : Int) + 1)] [] [(1000000, some (false, 16, (l ++ [x]).map Ent.enc))] (.ag [iv 5, iv 0, iv 0, iv 0, iv l.length, iv (lt1 l), iv 0, iv 0, bv false, .ow 1 0 1, iv 0, iv 0, iv 0, iv 0, .nl, .nl]) [] [(1000000, some (false, 16, (l ++ [x]).map Ent.enc)), (1, some (false, 16, [x.enc]))] := by
  have hll : (l ++ [x]).length = l.length + 1 := by rw [List.length_append]; rfl
  have hla := h1_last c (l := l ++ [x]) (by omega)
  have ht := h1_term c h (n := l.length) (by omega)
  have k1 := c_rLast (h1c c (l ++ [x])) (smallM (by show (l ++ [x]).length ≤ _; omega))
  rw [hla, hll] at k1
  have k2 : Ctr Tryz.prog 34 [.ag (gNil c (l ++ [x]))] _ [] := k1.deep (by (repeat' (first | exact subVL_nil | exact subVR_nil | refine subVL_cons ?_ ?_ | refine subVR_cons ?_ ?_ | exact SubV.refl _ | exact subV_nl | (with_reducible exact subV_tk rfl) | refine subV_ag ?_ | refine subV_sl ?_ | refine subV_ep ?_)))
  have k3 := c_rTerm (h1c c (l ++ [x])) (smallM (by show (l ++ [x]).length ≤ _; omega)) (by show (0 : Int) ≤ 0; decide) (by show (0 : Int) + ((l ++ [x]).length : Int) < _; omega) (l.length : Int) (by unfold isI; omega)
  rw [ht] at k3
  have k4 : Ctr Tryz.prog 66 [.ag (gNil c (l ++ [x])), iv (l.length : Int)] (iv (lt1 l)) [] := k3.deep (by (repeat' (first | exact subVL_nil | exact subVR_nil | refine subVL_cons ?_ ?_ | refine subVR_cons ?_ ?_ | exact SubV.refl _ | exact subV_nl | (with_reducible exact subV_tk rfl) | refine subV_ag ?_ | refine subV_sl ?_ | refine subV_ep ?_)))
  have k5 := c_rFromE c (l := l) (x := x) hl
  have ew : IntKind.i64.wrap ((l.length : Int) + 1 - 1) = (l.length : Int) := (wrap_id (by omega) (by omega)).trans (by omega)
  have ew2 : IntKind.i64.wrap ((l.length : Int) + 1) = (l.length : Int) + 1 := wrap_id (by omega) (by omega)
  refine spec_of_bodyE mixed Tryz.func28 rfl (by kernel_rfl) (by kernel_rfl) ?_; conv => whnf
  refine Exists.intro none ?_
  conv => whnf
  ((try ((refine Exists.intro none ?_); (conv => whnf))); (first | (with_reducible refine And.intro (Nat.le_of_eq (Nat.zero_add _)) ?_) | (refine And.intro (by simp only [List.length_map, List.length_set, Nat.zero_add]; omega) ?_)); conv => whnf)
  refine call_eq k2 (by simp only [List.drop_zero, List.take_length] <;> kernel_rfl) ?_
  conv => whnf
  have hmin : (if ((l.length + 1 : Nat) : Int) < IntKind.i64.wrap ((l.length : Int) + 1 - 1) then ((l.length + 1 : Nat) : Int) else IntKind.i64.wrap ((l.length : Int) + 1 - 1)) = (l.length : Int) := by
    rw [ew, if_neg (by omega)]
  rw [hmin]
  refine Exists.intro none ?_
  conv => whnf
  ((try ((refine Exists.intro none ?_); (conv => whnf))); (first | (with_reducible refine And.intro (Nat.le_of_eq (Nat.zero_add _)) ?_) | (refine And.intro (by simp only [List.length_map, List.length_set, Nat.zero_add]; omega) ?_)); conv => whnf)
  refine call_eq k4 (by simp only [List.drop_zero, List.take_length] <;> kernel_rfl) ?_
  conv => whnf
  rw [ew2]
  ((refine Exists.intro (some ([], [(1000000, 1000000)], [(1, 901)])) ?_); (conv => whnf); first | ((with_reducible refine callE_by (k5) ?_); conv => whnf))
  (refine exitE_of [(1000000, 1000000), (1, 901)] [] ?_; (conv => whnf); (refine And.intro (And.intro (by with_unfolding_all rfl) (by intro q h; cases h)) ?_; refine And.intro ?_ (And.intro ?_ ?_) <;> (conv => whnf) <;> (repeat' (first | exact True.intro | (with_reducible exact rfl) | exact (rfl : List.replicate 0 PV.bad = []) | ((with_reducible refine And.intro ?_ ?_) <;> (first | (with_reducible exact wkV_same _ rfl) | exact wkV_pt rfl rfl | exact wkV_ow rfl rfl rfl | (refine wkV_ow rfl rfl ?_) | (refine wkV_sc (congrArg (Value.int .i64) ?_)) | (refine wkV_sc (congrArg Value.bool ?_)) | exact wkV_ls rfl | ((refine wkV_cl ?_); conv => whnf) | ((refine wkV_tu ?_); conv => whnf) | ((refine wkV_ag ?_); conv => whnf) | (conv => whnf)))))))
  all_goals first | rfl | trace_state
end Go.Proofs
