/- Contracts of functions: the reference's Put. -/
import Derived.Test.YtnphfgphajejaaaC50
set_option linter.unusedSimpArgs false
set_option linter.unusedVariables false
namespace Go.Pv
/-- An answer whose own slices are shown as values. -/
theorem exit_fz {c : CSt} {p r : PV} (fz : List (Nat × Bool × Nat × List (List PV))) (h : ∀ q ∈ fz, lkA c.ob q.1 = some (some q.2)) (h3 : WkV [] [] fz p r) : ExitOk c p r [] := by
  refine ⟨.inl ⟨fz, [], ⟨h, ?_, ?_, ?_⟩, h3⟩⟩
  · intro k o e; cases e
  · intro k k0 e; cases e
  · intro k k' k0 e; cases e
end Go.Pv
namespace Go.Proofs
open Go.Pv
set_option maxRecDepth 100000

set_option maxHeartbeats 4000000 in
theorem c_rPutW (a : Hrd) (h1 : a.snap.length ≤ 4294967296) (h2 : a.log.length ≤ 4294967) (hb : isI a.base) (i : Int) (hi : isI i) (l : List Ent) (h3 : l.length ≤ 4294967) :
    Ctr Try.prog 157 [.ag a.enc, iv i, .sl 16 (l.map Ent.enc)] (resW (putHE a i l) (putH a i l)) [] := by
  have hm : a.log.length ≤ maxLen := smallM (by omega)
  have hml : l.length ≤ maxLen := smallM (by omega)
  have hck := c_rHard a hm
  by_cases hB : hardB a = true
  · rw [hB] at hck
    have hA := (hardB_A hB).1
    have hb0 := hA.b
    have hla : lastI a = a.base + a.log.length := lastI_sum hb0.1 (by omega)
    have hr := c_row l hml (termAt a i) a.term
    have kw := c_within08 i a.base (lastI a)
    have kt := c_rTerm a hm hb0.1 (by omega) i hi
    by_cases hk : (a.base ≤ i ∧ i ≤ lastI a) ∧ rowB l (termAt a i) a.term = true
    · have e : putHE a i l = 0 := by unfold putHE; rw [if_pos hB, if_pos hk]
      rw [(res_ok e).2.2]
      rw [hk.2] at hr
      rw [decide_eq_true hk.1] at kw
      obtain ⟨⟨hk1, hk2⟩, _⟩ := hk
      generalize hn : (i - a.base).toNat = n
      have hn' : i = a.base + (n : Int) := by omega
      have hnl : n ≤ a.log.length := by omega
      refine spec_of_body mixed Try.func157 rfl (by kernel_rfl) (by kernel_rfl) ?_; conv => whnf
      ((try ((refine Exists.intro none ?_); (conv => whnf))); first | ((with_reducible refine call_by (hck) ?_); conv => whnf))
      ((try ((refine Exists.intro none ?_); (conv => whnf))); first | ((with_reducible refine call_by (c_rLast a hm) ?_); conv => whnf))
      ((try ((refine Exists.intro none ?_); (conv => whnf))); first | ((with_reducible refine call_by (kw) ?_); conv => whnf))
      ((try ((refine Exists.intro none ?_); (conv => whnf))); first | ((with_reducible refine call_by (kt) ?_); conv => whnf))
      ((try ((refine Exists.intro none ?_); (conv => whnf))); first | ((with_reducible refine call_by (hr) ?_); conv => whnf))
      ((try ((refine Exists.intro none ?_); (conv => whnf))); first | ((with_reducible refine call_by (c_TwinHardV a h1 (by omega)) ?_); conv => whnf))
      (refine Exists.intro _ (And.intro rfl (And.intro (by intro q _; simp only [List.length_nil]; omega) (And.intro (by intro i hi; exact absurd hi (Nat.not_lt_zero i)) ?_))); conv => whnf)
      refine tri_for0 mixed (by kernel_rfl) (fun j : Nat => j ≤ l.length ∧ alike a.log n l j) (fun j => [(11, iv j)]) [] (fun j => l.length - j) 0 ⟨Nat.zero_le _, alike_0 _ _ _⟩ ?_ ?_
      · conv => whnf
        (refine And.intro (And.intro (by with_unfolding_all rfl) (by intro q h; cases h)) ?_; refine And.intro ?_ (And.intro ?_ ?_) <;> (conv => whnf) <;> (repeat' (first | exact True.intro | (with_reducible exact rfl) | exact (rfl : List.replicate 0 PV.bad = []) | ((with_reducible refine And.intro ?_ ?_) <;> (first | (with_reducible exact wkV_same _ rfl) | exact wkV_pt rfl rfl | exact wkV_ow rfl rfl rfl | (refine wkV_ow rfl rfl ?_) | (refine wkV_sc (congrArg (Value.int .i64) ?_)) | (refine wkV_sc (congrArg Value.bool ?_)) | exact wkV_ls rfl | ((refine wkV_cl ?_); conv => whnf) | ((refine wkV_tu ?_); conv => whnf) | ((refine wkV_ag ?_); conv => whnf) | (conv => whnf))))))
        all_goals rfl
      rintro j ⟨hj, hal⟩
      have hle := alike_le hal hnl
      conv => whnf
      ((first | (with_reducible refine split_dec (fun h => ?_) (fun h => ?_)) | (with_reducible refine split_beq (fun h => ?_) (fun h => ?_)) | (with_reducible refine split_bne (fun h => ?_) (fun h => ?_)) | (with_reducible refine split_not (fun h => ?_) (fun h => ?_)) | (with_reducible refine split_beqS (fun h => ?_) (fun h => ?_)) | (with_reducible refine split_intro (fun h => ?_) (fun h => ?_))) <;> conv => whnf)
      · simp only [List.length_map] at h
        have hlt : j < l.length := by omega
        have e1 : IntKind.i64.wrap (IntKind.i64.wrap (i + (j : Int)) + 1) = a.base + 1 + ((n + j : Nat) : Int) := by
          rw [show IntKind.i64.wrap (i + (j : Int)) = i + j from wrap_id (by omega) (by omega), wrap_id (by omega) (by omega)]; omega
        have e2 : IntKind.i64.wrap (IntKind.i64.wrap (i + (j : Int)) - a.base) = ((n + j : Nat) : Int) := by
          rw [show IntKind.i64.wrap (i + (j : Int)) = i + j from wrap_id (by omega) (by omega), wrap_id (by omega) (by omega)]; omega
        have c1 := c_rAt a hm hb0.1 (by omega) (a.base + 1 + ((n + j : Nat) : Int)) (by unfold isI; omega)
        rw [entAt_nat (m := n + j) rfl] at c1
        have fin : (∀ h1 : n + j < a.log.length, (a.log[n + j]'h1).term ≠ (l[j]'hlt).term) → putH a i l = { a with log := a.log.take (n + j) ++ l.drop j } := fun hd => by
          unfold putH; rw [hn, putG_at hal hnl hlt hd]
        have er : List.drop j (List.take (((List.map Ent.enc l).length : Nat) : Int).toNat (List.map Ent.enc l)) = (l.drop j).map Ent.enc := by rw [Int.toNat_natCast, List.take_length, List.map_drop]
        have eq : List.drop (Int.toNat 0) (List.take (n + j) (a.log.map Ent.enc)) = (a.log.take (n + j)).map Ent.enc := by rw [List.map_take]; rfl
        have htl : (a.log.take (n + j)).length = n + j := by rw [List.length_take]; omega
        have c2 := c_TwinEntries (a.log.take (n + j)) (by omega)
        rw [e1]
        by_cases hat : n + j < a.log.length
        · rw [List.getElem?_eq_getElem hat] at c1
          simp only [Option.getD_some, Option.isSome_some] at c1
          ((try ((refine Exists.intro none ?_); (conv => whnf))); first | ((with_reducible refine call_by (c1) ?_); conv => whnf))
          (first | ((with_reducible refine And.intro (by omega) (Exists.intro _ (And.intro (row_at hlt) ?_))); conv => whnf))
          ((first | (with_reducible refine split_dec (fun h => ?_) (fun h => ?_)) | (with_reducible refine split_beq (fun h => ?_) (fun h => ?_)) | (with_reducible refine split_bne (fun h => ?_) (fun h => ?_)) | (with_reducible refine split_not (fun h => ?_) (fun h => ?_)) | (with_reducible refine split_beqS (fun h => ?_) (fun h => ?_)) | (with_reducible refine split_intro (fun h => ?_) (fun h => ?_))) <;> conv => whnf)
          · refine ⟨j + 1, ⟨⟨by omega, alike_succ hal hat hlt h⟩, by omega⟩, ?_⟩
            conv => whnf
            (refine And.intro (And.intro (by with_unfolding_all rfl) (by intro q h; cases h)) ?_; refine And.intro ?_ (And.intro ?_ ?_) <;> (conv => whnf) <;> (repeat' (first | exact True.intro | (with_reducible exact rfl) | exact (rfl : List.replicate 0 PV.bad = []) | ((with_reducible refine And.intro ?_ ?_) <;> (first | (with_reducible exact wkV_same _ rfl) | exact wkV_pt rfl rfl | exact wkV_ow rfl rfl rfl | (refine wkV_ow rfl rfl ?_) | (refine wkV_sc (congrArg (Value.int .i64) ?_)) | (refine wkV_sc (congrArg Value.bool ?_)) | exact wkV_ls rfl | ((refine wkV_cl ?_); conv => whnf) | ((refine wkV_tu ?_); conv => whnf) | ((refine wkV_ag ?_); conv => whnf) | (conv => whnf))))))
            all_goals first | exact w1 (by omega) | rfl
          · have ep := fin (fun _ => h)
            rw [e2]
            refine ⟨⟨by omega, by omega, by simp only [List.length_map]; omega⟩, ?_⟩
            conv => whnf
            refine Exists.intro none ?_
            conv => whnf
            rw [Int.toNat_natCast, eq]
            ((try ((refine Exists.intro none ?_); (conv => whnf))); first | ((with_reducible refine call_by (c2) ?_); conv => whnf))
            (refine Exists.intro _ (And.intro rfl (And.intro (by intro q hq; first | (cases hq; done) | (simp only [List.mem_cons, List.not_mem_nil, or_false] at hq; rcases hq with rfl | rfl <;> (simp only [List.length_cons, List.length_nil]; omega)) | (simp only [List.mem_cons, List.not_mem_nil, or_false] at hq; subst hq; simp only [List.length_cons, List.length_nil]; omega)) (And.intro (by intro i hi; simp only [List.length_cons, List.length_nil, Nat.lt_one_iff, Nat.zero_add] at hi; subst hi; rfl) ?_))); conv => whnf)
            refine ⟨⟨by omega, by rw [List.length_map]; omega, Int.le_refl _⟩, ?_⟩
            conv => whnf
            refine ⟨by kernel_rfl, ?_⟩
            conv => whnf
            rw [Int.toNat_natCast, er]
            refine ⟨⟨⟨by kernel_rfl, Nat.le_refl _, small (by rw [List.length_map, List.length_map, List.length_drop]; omega) (by kernel_rfl), smallM (by rw [List.length_map, List.length_map, List.length_drop]; omega), by intro r hr; obtain ⟨x, _, rfl⟩ := List.mem_map.1 hr; rfl⟩, by decide, rfl⟩, ?_⟩
            conv => whnf
            rw [ep]
            refine exit_fz [(1296, false, 16, (a.log.take (n + j) ++ l.drop j).map Ent.enc)] ?_ (wkV_tu ⟨wkV_ag ?_, wkV_same _ rfl, rfl⟩)
            · intro q hq
              rw [List.mem_singleton.1 hq]
              refine congrArg (fun x => some (some x)) (obj_eq (b := false) (by kernel_rfl) ?_)
              rw [List.take_length, List.map_append]
            conv => whnf
            repeat' (first | exact rfl | ((with_reducible refine And.intro ?_ ?_) <;> (first | (with_reducible exact wkV_same _ rfl) | (refine wkV_fz (b := false) (List.Mem.head _) ?_; simp only [List.map_append, List.length_append]; done) | (conv => whnf))))
        · rw [List.getElem?_eq_none (by omega)] at c1
          simp only [Option.getD_none, Option.isSome_none] at c1
          have ep := fin (fun h1 => absurd h1 hat)
          ((try ((refine Exists.intro none ?_); (conv => whnf))); first | ((with_reducible refine call_by (c1) ?_); conv => whnf))
          rw [e2]
          refine ⟨⟨by omega, by omega, by simp only [List.length_map]; omega⟩, ?_⟩
          conv => whnf
          refine Exists.intro none ?_
          conv => whnf
          rw [Int.toNat_natCast, eq]
          ((try ((refine Exists.intro none ?_); (conv => whnf))); first | ((with_reducible refine call_by (c2) ?_); conv => whnf))
          (refine Exists.intro _ (And.intro rfl (And.intro (by intro q hq; first | (cases hq; done) | (simp only [List.mem_cons, List.not_mem_nil, or_false] at hq; rcases hq with rfl | rfl <;> (simp only [List.length_cons, List.length_nil]; omega)) | (simp only [List.mem_cons, List.not_mem_nil, or_false] at hq; subst hq; simp only [List.length_cons, List.length_nil]; omega)) (And.intro (by intro i hi; simp only [List.length_cons, List.length_nil, Nat.lt_one_iff, Nat.zero_add] at hi; subst hi; rfl) ?_))); conv => whnf)
          refine ⟨⟨by omega, by rw [List.length_map]; omega, Int.le_refl _⟩, ?_⟩
          conv => whnf
          refine ⟨by kernel_rfl, ?_⟩
          conv => whnf
          rw [Int.toNat_natCast, er]
          refine ⟨⟨⟨by kernel_rfl, Nat.le_refl _, small (by rw [List.length_map, List.length_map, List.length_drop]; omega) (by kernel_rfl), smallM (by rw [List.length_map, List.length_map, List.length_drop]; omega), by intro r hr; obtain ⟨x, _, rfl⟩ := List.mem_map.1 hr; rfl⟩, by decide, rfl⟩, ?_⟩
          conv => whnf
          rw [ep]
          refine exit_fz [(1296, false, 16, (a.log.take (n + j) ++ l.drop j).map Ent.enc)] ?_ (wkV_tu ⟨wkV_ag ?_, wkV_same _ rfl, rfl⟩)
          · intro q hq
            rw [List.mem_singleton.1 hq]
            refine congrArg (fun x => some (some x)) (obj_eq (b := false) (by kernel_rfl) ?_)
            rw [List.take_length, List.map_append]
          conv => whnf
          repeat' (first | exact rfl | ((with_reducible refine And.intro ?_ ?_) <;> (first | (with_reducible exact wkV_same _ rfl) | (refine wkV_fz (b := false) (List.Mem.head _) ?_; simp only [List.map_append, List.length_append]; done) | (conv => whnf))))
      · simp only [List.length_map] at h
        have ej : j = l.length := by omega
        subst ej
        have ep : putH a i l = a := by
          unfold putH; rw [hn, putG_all hal]
        rw [ep]
        exact exit_plain rfl rfl
    · have e : putHE a i l = 1 := by unfold putHE; rw [if_pos hB, if_neg hk]
      rw [e, (res_no (by decide)).2.2]
      refine spec_of_body mixed Try.func157 rfl (by kernel_rfl) (by kernel_rfl) ?_; conv => whnf
      ((try ((refine Exists.intro none ?_); (conv => whnf))); first | ((with_reducible refine call_by (hck) ?_); conv => whnf))
      ((try ((refine Exists.intro none ?_); (conv => whnf))); first | ((with_reducible refine call_by (c_rLast a hm) ?_); conv => whnf))
      by_cases hw : a.base ≤ i ∧ i ≤ lastI a
      · have hf : rowB l (termAt a i) a.term = false := by
          cases hrb : rowB l (termAt a i) a.term with
          | false => rfl
          | true => exact absurd ⟨hw, hrb⟩ hk
        rw [hf] at hr
        rw [decide_eq_true hw] at kw
        ((try ((refine Exists.intro none ?_); (conv => whnf))); first | ((with_reducible refine call_by (kw) ?_); conv => whnf))
        ((try ((refine Exists.intro none ?_); (conv => whnf))); first | ((with_reducible refine call_by (kt) ?_); conv => whnf))
        ((try ((refine Exists.intro none ?_); (conv => whnf))); first | ((with_reducible refine call_by (hr) ?_); conv => whnf))
        exact exit_plain rfl rfl
      · rw [decide_eq_false hw] at kw
        ((try ((refine Exists.intro none ?_); (conv => whnf))); first | ((with_reducible refine call_by (kw) ?_); conv => whnf))
        exact exit_plain rfl rfl
  · have e : putHE a i l = 6 := by unfold putHE; rw [if_neg hB]
    rw [e, (res_no (by decide)).2.2]
    simp only [Bool.not_eq_true] at hB
    rw [hB] at hck
    refine spec_of_body mixed Try.func157 rfl (by kernel_rfl) (by kernel_rfl) ?_; conv => whnf
    ((try ((refine Exists.intro none ?_); (conv => whnf))); first | ((with_reducible refine call_by (hck) ?_); conv => whnf))
    exact exit_plain rfl rfl
end Go.Proofs
