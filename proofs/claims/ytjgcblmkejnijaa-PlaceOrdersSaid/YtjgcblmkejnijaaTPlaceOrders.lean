/- PlaceOrders: the order has just the places that were handed in, by their scores, then by their nodes; it hangs on no order. -/
import Derived.Test.YtjgcblmkejnijaaE3
import Derived.Test.YtjgcblmkejnijaaPvZ2
set_option linter.unusedSimpArgs false
set_option linter.unusedVariables false
namespace Go.Proofs
open Go.Pv
set_option maxRecDepth 100000

/-- How many of the first j are x's node. -/
def cntN (o : List Pl) (v : Int) (j : Nat) : Nat := ((o.take j).filter fun x => decide (x.node = v)).length
theorem cntN_succ {o : List Pl} {v : Int} {j : Nat} (h : j < o.length) : cntN o v (j + 1) = cntN o v j + if (o[j]'h).node = v then 1 else 0 := by
  unfold cntN
  rw [List.take_succ_eq_append_getElem h, List.filter_append, List.length_append]
  congr 1
  by_cases e : (o[j]'h).node = v <;> simp [e]
theorem cntN_le (o : List Pl) (v : Int) (j : Nat) : cntN o v j ≤ j := by
  unfold cntN
  exact Nat.le_trans (List.length_filter_le _ _) (by rw [List.length_take]; omega)
theorem cntN_one {o : List Pl} {x : Pl} (hn : (o.map Pl.node).Nodup) (hx : x ∈ o) : cntN o x.node o.length = 1 := by
  unfold cntN
  rw [List.take_length]
  induction o with
  | nil => cases hx
  | cons y o ih =>
    rw [List.map_cons, List.nodup_cons] at hn
    have none : ∀ v, v ∉ o.map Pl.node → o.filter (fun x => decide (x.node = v)) = [] := fun v hv => by
      rw [List.filter_eq_nil_iff]
      intro z hz h
      exact hv (List.mem_map.2 ⟨z, hz, of_decide_eq_true h⟩)
    rcases List.mem_cons.1 hx with rfl | hx
    · rw [List.filter_cons, if_pos (by simp), none _ hn.1]; rfl
    · have hne : ¬ y.node = x.node := fun e => hn.1 (List.mem_map.2 ⟨x, hx, e.symm⟩)
      rw [List.filter_cons, if_neg (by simp [hne])]
      exact ih hn.2 hx
theorem row1 {l : List Pl} {i : Nat} (h : i < l.length) : ((l.map Pl.enc).drop i).take 1 = [l[i]'h].map Pl.enc := by
  rw [← List.map_drop, ← List.map_take, List.drop_eq_getElem_cons h]; rfl

set_option maxHeartbeats 4000000 in
theorem l_PlaceOrders (l : List Pl) (k : Int) : Ctr Try.prog 3 [.sl 4 (l.map Pl.enc), iv k] (bv true) [] := by
  refine spec_of_body mixed Try.func3 rfl (by kernel_rfl) (by kernel_rfl) ?_; conv => whnf
  ((first | (with_reducible refine split_dec (fun h => ?_) (fun h => ?_)) | (with_reducible refine split_beq (fun h => ?_) (fun h => ?_)) | (with_reducible refine split_bne (fun h => ?_) (fun h => ?_)) | (with_reducible refine split_not (fun h => ?_) (fun h => ?_)) | (with_reducible refine split_beqS (fun h => ?_) (fun h => ?_)) | (with_reducible refine split_intro (fun h => ?_) (fun h => ?_))) <;> conv => whnf)
  · exact exit_plain rfl rfl
  have hl : l.length ≤ 100 := by simp only [List.length_map] at h; omega
  clear h
  have hl2 : l.length ≤ 4294967 := by omega
  have kc := c_PCheck l hl2
  cases hok : plsB l with
  | false =>
    rw [hok, if_neg (by decide)] at kc
    ((try ((refine Exists.intro none ?_); (conv => whnf))); first | ((with_reducible refine call_by (kc) ?_); conv => whnf))
    exact exit_plain rfl rfl
  | true =>
  rw [if_pos hok] at kc
  have ko := c_Order l hl2 hok
  have hst := sortA_strict hok
  have hpm := sortA_perm l
  have hol := sortA_len l
  have hnd : ((sortA l).map Pl.node).Nodup := by
    have h := hok
    rw [plsB, chkP_iff] at h
    exact (hpm.map Pl.node).nodup_iff.2 h.2
  have hturn : ∀ a, sortA (l.drop a ++ l.take a) = sortA l := fun a => (sortA_eq (by
    have := (List.perm_append_comm (l₁ := l.take a) (l₂ := l.drop a))
    rw [List.take_append_drop] at this
    exact this) hok).symm
  have hturn2 : ∀ a, plsB (l.drop a ++ l.take a) = true := fun a => plsB_perm (by
    have := (List.perm_append_comm (l₁ := l.take a) (l₂ := l.drop a))
    rw [List.take_append_drop] at this
    exact this) hok
  ((try ((refine Exists.intro none ?_); (conv => whnf))); first | ((with_reducible refine call_by (kc) ?_); conv => whnf))
  ((try ((refine Exists.intro none ?_); (conv => whnf))); first | ((with_reducible refine call_by (ko) ?_); conv => whnf))
  (refine Exists.intro _ (And.intro rfl (And.intro (by intro q _; simp only [List.length_nil]; omega) (And.intro (by intro i hi; exact absurd hi (Nat.not_lt_zero i)) ?_))); conv => whnf)
  have hmem : ∀ x ∈ l, x ∈ sortA l := fun x hx => sortA_mem.2 hx
  have hmem2 : ∀ x ∈ sortA l, x ∈ l := fun x hx => sortA_mem.1 hx
  generalize hso : sortA l = o at *
  ((first | (with_reducible refine split_dec (fun h => ?_) (fun h => ?_)) | (with_reducible refine split_beq (fun h => ?_) (fun h => ?_)) | (with_reducible refine split_bne (fun h => ?_) (fun h => ?_)) | (with_reducible refine split_not (fun h => ?_) (fun h => ?_)) | (with_reducible refine split_beqS (fun h => ?_) (fun h => ?_)) | (with_reducible refine split_intro (fun h => ?_) (fun h => ?_))) <;> conv => whnf)
  · exfalso; simp only [List.length_map] at h; omega
  clear h
  refine tri_for0 mixed (by kernel_rfl) (fun i : Nat => 1 ≤ i ∧ i ≤ o.length + 1) (fun i => [(7, iv i)]) [] (fun i => o.length + 1 - i) 1 ⟨Nat.le_refl _, by omega⟩ ?_ ?_
  · conv => whnf
    (refine And.intro (And.intro (by with_unfolding_all rfl) (by intro q h; cases h)) ?_; refine And.intro ?_ (And.intro ?_ ?_) <;> (conv => whnf) <;> (repeat' (first | exact True.intro | (with_reducible exact rfl) | exact (rfl : List.replicate 0 PV.bad = []) | ((with_reducible refine And.intro ?_ ?_) <;> (first | (with_reducible exact wkV_same _ rfl) | exact wkV_pt rfl rfl | exact wkV_ow rfl rfl rfl | (refine wkV_ow rfl rfl ?_) | (refine wkV_sc (congrArg (Value.int .i64) ?_)) | (refine wkV_sc (congrArg Value.bool ?_)) | exact wkV_ls rfl | ((refine wkV_cl ?_); conv => whnf) | ((refine wkV_tu ?_); conv => whnf) | ((refine wkV_ag ?_); conv => whnf) | (conv => whnf))))))
    all_goals rfl
  rintro i ⟨hi, hi2⟩
  conv => whnf
  ((first | (with_reducible refine split_dec (fun h => ?_) (fun h => ?_)) | (with_reducible refine split_beq (fun h => ?_) (fun h => ?_)) | (with_reducible refine split_bne (fun h => ?_) (fun h => ?_)) | (with_reducible refine split_not (fun h => ?_) (fun h => ?_)) | (with_reducible refine split_beqS (fun h => ?_) (fun h => ?_)) | (with_reducible refine split_intro (fun h => ?_) (fun h => ?_))) <;> conv => whnf)
  · have hlt : i < o.length := by simp only [List.length_map] at h; omega
    clear h
    obtain ⟨q, rfl⟩ : ∃ q, i = q + 1 := ⟨i - 1, by omega⟩
    have hlt0 : q < o.length := by omega
    have e1 : IntKind.i64.wrap (((q + 1 : Nat) : Int) - 1) = (q : Int) := by rw [wrap_id (by omega) (by omega)]; omega
    have hkl : keyLt (o[q]'hlt0) (o[q + 1]'hlt) := List.pairwise_iff_getElem.1 hst q (q + 1) hlt0 hlt (by omega)
    have hkl2 := hkl
    unfold keyLt at hkl2
    have g1 := ord_gt (scoreW_num (o[q]'hlt0)) (scoreW_num (o[q + 1]'hlt))
    have g2 := ord_eq (scoreW_num (o[q]'hlt0)) (scoreW_num (o[q + 1]'hlt))
    have g3 : (FloatKind.f64.format.order (scoreW (o[q]'hlt0)) (scoreW (o[q]'hlt0)) != some .eq) = false := by
      rw [bne, ord_eq (scoreW_num _) (scoreW_num _)]; simp
    have next : ∀ c : CSt, True := fun _ => trivial
    rw [e1]
    (first | ((with_reducible refine And.intro (by omega) (Exists.intro _ (And.intro (row_at hlt0) ?_))); conv => whnf))
    ((try ((refine Exists.intro none ?_); (conv => whnf))); first | ((with_reducible refine call_by (c_Score (o[q]'hlt0)) ?_); conv => whnf))
    (first | ((with_reducible refine And.intro (by omega) (Exists.intro _ (And.intro (row_at hlt) ?_))); conv => whnf))
    ((try ((refine Exists.intro none ?_); (conv => whnf))); first | ((with_reducible refine call_by (c_Score (o[q + 1]'hlt)) ?_); conv => whnf))
    rw [g1, decide_eq_false (show ¬ fv (scoreW (o[q + 1]'hlt)) < fv (scoreW (o[q]'hlt0)) by omega)]
    conv => whnf
    rw [g2]
    by_cases he : fv (scoreW (o[q]'hlt0)) = fv (scoreW (o[q + 1]'hlt))
    · rw [decide_eq_true he]
      conv => whnf
      rw [e1]
      (first | ((with_reducible refine And.intro (by omega) (Exists.intro _ (And.intro (row_at hlt0) ?_))); conv => whnf))
      (first | ((with_reducible refine And.intro (by omega) (Exists.intro _ (And.intro (row_at hlt) ?_))); conv => whnf))
      rw [decide_eq_false (show ¬ (o[q + 1]'hlt).node ≤ (o[q]'hlt0).node by omega)]
      conv => whnf
      rw [g3]
      conv => whnf
      refine ⟨q + 1 + 1, ⟨⟨by omega, by omega⟩, by omega⟩, ?_⟩
      conv => whnf
      (refine And.intro (And.intro (by with_unfolding_all rfl) (by intro q h; cases h)) ?_; refine And.intro ?_ (And.intro ?_ ?_) <;> (conv => whnf) <;> (repeat' (first | exact True.intro | (with_reducible exact rfl) | exact (rfl : List.replicate 0 PV.bad = []) | ((with_reducible refine And.intro ?_ ?_) <;> (first | (with_reducible exact wkV_same _ rfl) | exact wkV_pt rfl rfl | exact wkV_ow rfl rfl rfl | (refine wkV_ow rfl rfl ?_) | (refine wkV_sc (congrArg (Value.int .i64) ?_)) | (refine wkV_sc (congrArg Value.bool ?_)) | exact wkV_ls rfl | ((refine wkV_cl ?_); conv => whnf) | ((refine wkV_tu ?_); conv => whnf) | ((refine wkV_ag ?_); conv => whnf) | (conv => whnf))))))
      all_goals first | exact w1 (by omega) | rfl | trace_state
    · rw [decide_eq_false he]
      conv => whnf
      rw [g3]
      conv => whnf
      refine ⟨q + 1 + 1, ⟨⟨by omega, by omega⟩, by omega⟩, ?_⟩
      conv => whnf
      (refine And.intro (And.intro (by with_unfolding_all rfl) (by intro q h; cases h)) ?_; refine And.intro ?_ (And.intro ?_ ?_) <;> (conv => whnf) <;> (repeat' (first | exact True.intro | (with_reducible exact rfl) | exact (rfl : List.replicate 0 PV.bad = []) | ((with_reducible refine And.intro ?_ ?_) <;> (first | (with_reducible exact wkV_same _ rfl) | exact wkV_pt rfl rfl | exact wkV_ow rfl rfl rfl | (refine wkV_ow rfl rfl ?_) | (refine wkV_sc (congrArg (Value.int .i64) ?_)) | (refine wkV_sc (congrArg Value.bool ?_)) | exact wkV_ls rfl | ((refine wkV_cl ?_); conv => whnf) | ((refine wkV_tu ?_); conv => whnf) | ((refine wkV_ag ?_); conv => whnf) | (conv => whnf))))))
      all_goals first | exact w1 (by omega) | rfl | trace_state
  clear h
  refine tri_for0 mixed (by kernel_rfl) (fun i : Nat => i ≤ l.length) (fun i => [(10, iv i)]) [] (fun i => l.length - i) 0 (Nat.zero_le _) ?_ ?_
  · conv => whnf
    (refine And.intro (And.intro (by with_unfolding_all rfl) (by intro q h; cases h)) ?_; refine And.intro ?_ (And.intro ?_ ?_) <;> (conv => whnf) <;> (repeat' (first | exact True.intro | (with_reducible exact rfl) | exact (rfl : List.replicate 0 PV.bad = []) | ((with_reducible refine And.intro ?_ ?_) <;> (first | (with_reducible exact wkV_same _ rfl) | exact wkV_pt rfl rfl | exact wkV_ow rfl rfl rfl | (refine wkV_ow rfl rfl ?_) | (refine wkV_sc (congrArg (Value.int .i64) ?_)) | (refine wkV_sc (congrArg Value.bool ?_)) | exact wkV_ls rfl | ((refine wkV_cl ?_); conv => whnf) | ((refine wkV_tu ?_); conv => whnf) | ((refine wkV_ag ?_); conv => whnf) | (conv => whnf))))))
    all_goals rfl
  intro i2 hi3
  conv => whnf
  ((first | (with_reducible refine split_dec (fun h => ?_) (fun h => ?_)) | (with_reducible refine split_beq (fun h => ?_) (fun h => ?_)) | (with_reducible refine split_bne (fun h => ?_) (fun h => ?_)) | (with_reducible refine split_not (fun h => ?_) (fun h => ?_)) | (with_reducible refine split_beqS (fun h => ?_) (fun h => ?_)) | (with_reducible refine split_intro (fun h => ?_) (fun h => ?_))) <;> conv => whnf)
  · have hlt : i2 < l.length := by simp only [List.length_map] at h; omega
    clear h
    refine tri_for0 mixed (by kernel_rfl) (fun j : Nat => j ≤ o.length) (fun j => [(12, iv j), (11, iv (cntN o (l[i2]'hlt).node j))]) [] (fun j => o.length - j) 0 (Nat.zero_le _) ?_ ?_
    · conv => whnf
      (refine And.intro (And.intro (by with_unfolding_all rfl) (by intro q h; cases h)) ?_; refine And.intro ?_ (And.intro ?_ ?_) <;> (conv => whnf) <;> (repeat' (first | exact True.intro | (with_reducible exact rfl) | exact (rfl : List.replicate 0 PV.bad = []) | ((with_reducible refine And.intro ?_ ?_) <;> (first | (with_reducible exact wkV_same _ rfl) | exact wkV_pt rfl rfl | exact wkV_ow rfl rfl rfl | (refine wkV_ow rfl rfl ?_) | (refine wkV_sc (congrArg (Value.int .i64) ?_)) | (refine wkV_sc (congrArg Value.bool ?_)) | exact wkV_ls rfl | ((refine wkV_cl ?_); conv => whnf) | ((refine wkV_tu ?_); conv => whnf) | ((refine wkV_ag ?_); conv => whnf) | (conv => whnf))))))
      all_goals rfl
    intro j hj
    have hcl := cntN_le o (l[i2]'hlt).node j
    conv => whnf
    ((first | (with_reducible refine split_dec (fun h => ?_) (fun h => ?_)) | (with_reducible refine split_beq (fun h => ?_) (fun h => ?_)) | (with_reducible refine split_bne (fun h => ?_) (fun h => ?_)) | (with_reducible refine split_not (fun h => ?_) (fun h => ?_)) | (with_reducible refine split_beqS (fun h => ?_) (fun h => ?_)) | (with_reducible refine split_intro (fun h => ?_) (fun h => ?_))) <;> conv => whnf)
    · have hjl : j < o.length := by simp only [List.length_map] at h; omega
      clear h
      have ej1 : IntKind.i64.wrap ((j : Int) + 1) = ((j + 1 : Nat) : Int) := w1 (by omega)
      have ei1 : IntKind.i64.wrap ((i2 : Int) + 1) = ((i2 + 1 : Nat) : Int) := w1 (by omega)
      have r1 : (List.drop (j : Int).toNat (List.take ((j + 1 : Nat) : Int).toNat (o.map Pl.enc))) = [o[j]'hjl].map Pl.enc := by
        rw [Int.toNat_natCast, Int.toNat_natCast, List.drop_take, show j + 1 - j = 1 by omega, row1 hjl]
      have r2 : (List.drop (i2 : Int).toNat (List.take ((i2 + 1 : Nat) : Int).toNat (l.map Pl.enc))) = [l[i2]'hlt].map Pl.enc := by
        rw [Int.toNat_natCast, Int.toNat_natCast, List.drop_take, show i2 + 1 - i2 = 1 by omega, row1 hlt]
      have hcs := cntN_succ (v := (l[i2]'hlt).node) hjl
      have hsame : ([o[j]'hjl].map Pl.nrm = [l[i2]'hlt].map Pl.nrm) ↔ (o[j]'hjl).node = (l[i2]'hlt).node := by
        simp only [List.map_cons, List.map_nil, List.cons.injEq, and_true]
        constructor
        · intro e; exact (Pl.nrm_eq.1 e).1
        · intro e
          rw [chkP_uniq l 0 hok _ (hmem2 _ (List.getElem_mem hjl)) _ (List.getElem_mem hlt) e]
      have kp := c_kPlaces [o[j]'hjl] [l[i2]'hlt] (by show 1 ≤ maxLen; decide)
      rw [ej1]
      refine ⟨⟨by omega, by omega, by rw [List.length_map]; omega⟩, ?_⟩
      conv => whnf
      rw [r1]
      rw [ei1]
      refine ⟨⟨by omega, by omega, by rw [List.length_map]; omega⟩, ?_⟩
      conv => whnf
      rw [r2]
      ((try ((refine Exists.intro none ?_); (conv => whnf))); first | ((with_reducible refine call_by (kp) ?_); conv => whnf))
      by_cases hs : (o[j]'hjl).node = (l[i2]'hlt).node
      · rw [decide_eq_true (hsame.2 hs)]
        rw [if_pos hs] at hcs
        conv => whnf
        refine ⟨j + 1, ⟨by omega, by omega⟩, ?_⟩
        rw [hcs]
        conv => whnf
        (refine And.intro (And.intro (by with_unfolding_all rfl) (by intro q h; cases h)) ?_; refine And.intro ?_ (And.intro ?_ ?_) <;> (conv => whnf) <;> (repeat' (first | exact True.intro | (with_reducible exact rfl) | exact (rfl : List.replicate 0 PV.bad = []) | ((with_reducible refine And.intro ?_ ?_) <;> (first | (with_reducible exact wkV_same _ rfl) | exact wkV_pt rfl rfl | exact wkV_ow rfl rfl rfl | (refine wkV_ow rfl rfl ?_) | (refine wkV_sc (congrArg (Value.int .i64) ?_)) | (refine wkV_sc (congrArg Value.bool ?_)) | exact wkV_ls rfl | ((refine wkV_cl ?_); conv => whnf) | ((refine wkV_tu ?_); conv => whnf) | ((refine wkV_ag ?_); conv => whnf) | (conv => whnf))))))
        all_goals first | exact ej1 | exact w1 (by omega) | rfl | trace_state
      · rw [decide_eq_false (fun h => hs (hsame.1 h))]
        rw [if_neg hs, Nat.add_zero] at hcs
        conv => whnf
        refine ⟨j + 1, ⟨by omega, by omega⟩, ?_⟩
        rw [hcs]
        conv => whnf
        (refine And.intro (And.intro (by with_unfolding_all rfl) (by intro q h; cases h)) ?_; refine And.intro ?_ (And.intro ?_ ?_) <;> (conv => whnf) <;> (repeat' (first | exact True.intro | (with_reducible exact rfl) | exact (rfl : List.replicate 0 PV.bad = []) | ((with_reducible refine And.intro ?_ ?_) <;> (first | (with_reducible exact wkV_same _ rfl) | exact wkV_pt rfl rfl | exact wkV_ow rfl rfl rfl | (refine wkV_ow rfl rfl ?_) | (refine wkV_sc (congrArg (Value.int .i64) ?_)) | (refine wkV_sc (congrArg Value.bool ?_)) | exact wkV_ls rfl | ((refine wkV_cl ?_); conv => whnf) | ((refine wkV_tu ?_); conv => whnf) | ((refine wkV_ag ?_); conv => whnf) | (conv => whnf))))))
        all_goals first | exact ej1 | exact w1 (by omega) | rfl | trace_state
    · have ej : j = o.length := by simp only [List.length_map] at h; omega
      subst ej
      rw [cntN_one hnd (hmem _ (List.getElem_mem hlt))]
      conv => whnf
      refine ⟨i2 + 1, ⟨by omega, by omega⟩, ?_⟩
      conv => whnf
      (refine And.intro (And.intro (by with_unfolding_all rfl) (by intro q h; cases h)) ?_; refine And.intro ?_ (And.intro ?_ ?_) <;> (conv => whnf) <;> (repeat' (first | exact True.intro | (with_reducible exact rfl) | exact (rfl : List.replicate 0 PV.bad = []) | ((with_reducible refine And.intro ?_ ?_) <;> (first | (with_reducible exact wkV_same _ rfl) | exact wkV_pt rfl rfl | exact wkV_ow rfl rfl rfl | (refine wkV_ow rfl rfl ?_) | (refine wkV_sc (congrArg (Value.int .i64) ?_)) | (refine wkV_sc (congrArg Value.bool ?_)) | exact wkV_ls rfl | ((refine wkV_cl ?_); conv => whnf) | ((refine wkV_tu ?_); conv => whnf) | ((refine wkV_ag ?_); conv => whnf) | (conv => whnf))))))
      all_goals first | exact w1 (by omega) | rfl | trace_state
  clear h
  have hd : IntKind.u64.wrap (IntKind.i64.wrap (((l.map Pl.enc).length : Int) + 1)) = ((l.length + 1 : Nat) : Int) := by
    rw [List.length_map, w1 (by omega)]
    simp [IntKind.wrap, IntKind.signed, IntKind.bits]
    omega
  obtain ⟨a, ha, hal⟩ : ∃ a : Nat, IntKind.i64.wrap ((IntKind.u64.wrap k).tmod ((l.length + 1 : Nat) : Int)) = (a : Int) ∧ a ≤ l.length := by
    have h0 : 0 ≤ IntKind.u64.wrap k := by
      simp [IntKind.wrap, IntKind.signed, IntKind.bits]
      omega
    generalize IntKind.u64.wrap k = u at *
    have h1 := Int.tmod_nonneg ((l.length + 1 : Nat) : Int) h0
    have h2 := Int.tmod_lt_of_pos u (show (0 : Int) < ((l.length + 1 : Nat) : Int) by omega)
    generalize u.tmod ((l.length + 1 : Nat) : Int) = v at *
    refine ⟨v.toNat, ?_, by omega⟩
    rw [wrap_id (by omega) (by omega)]
    omega
  rw [hd]
  refine ⟨⟨by omega, by decide⟩, ?_⟩
  conv => whnf
  rw [ha]
  refine ⟨⟨by omega, by rw [List.length_map]; omega, by simp only [List.length_map]; omega⟩, ?_⟩
  conv => whnf
  have r1 : List.drop (a : Int).toNat (List.take ((((l.map Pl.enc).length : Nat) : Int)).toNat (l.map Pl.enc)) = (l.drop a).map Pl.enc := by
    rw [Int.toNat_natCast, Int.toNat_natCast, List.take_length, List.map_drop]
  have hda : (l.drop a).length = l.length - a := List.length_drop
  have hta : (l.take a).length = a := by rw [List.length_take]; omega
  rw [r1]
  ((try ((refine Exists.intro none ?_); (conv => whnf))); first | ((with_reducible refine call_by (c_TwinPls (l.drop a) (by omega)) ?_); conv => whnf))
  (refine Exists.intro _ (And.intro rfl (And.intro (by intro q hq; first | (cases hq; done) | (simp only [List.mem_cons, List.not_mem_nil, or_false] at hq; rcases hq with rfl | rfl <;> (simp only [List.length_cons, List.length_nil]; omega)) | (simp only [List.mem_cons, List.not_mem_nil, or_false] at hq; subst hq; simp only [List.length_cons, List.length_nil]; omega)) (And.intro (by intro i hi; simp only [List.length_cons, List.length_nil, Nat.lt_one_iff, Nat.zero_add] at hi; subst hi; rfl) ?_))); conv => whnf)
  refine ⟨⟨by decide, by omega, by rw [List.length_map]; omega⟩, ?_⟩
  conv => whnf
  have r2 : List.drop (0 : Int).toNat (List.take (a : Int).toNat (l.map Pl.enc)) = (l.take a).map Pl.enc := by
    rw [Int.toNat_natCast, show (0 : Int).toNat = 0 from rfl, List.drop_zero, List.map_take]
  rw [r2]
  refine And.intro rfl ?_
  conv => whnf
  have hsum : ((l.drop a).map Pl.enc).length + ((l.take a).map Pl.enc).length ≤ 4294967296 := by rw [List.length_map, List.length_map]; omega
  refine And.intro (And.intro (And.intro (by kernel_rfl) (And.intro (Nat.le_refl _) (And.intro (small hsum (by kernel_rfl)) (And.intro (smallM hsum) (fun r hr => by obtain ⟨x, _, rfl⟩ := List.mem_map.1 hr; rfl))))) (And.intro (by decide) rfl)) ?_
  conv => whnf
  have k2 := c_Order (l.drop a ++ l.take a) (by rw [List.length_append]; omega) (hturn2 a)
  rw [hturn a] at k2
  refine Exists.intro none ?_
  conv => whnf
  refine And.intro (by simp) ?_
  conv => whnf
  refine call_eq k2 ?_ ?_
  · refine congrArg (fun r => [PV.sl 4 r]) ?_
    rw [List.map_append, List.take_of_length_le (Nat.le_refl ((l.drop a).map Pl.enc).length), List.drop_zero, List.take_of_length_le (by rw [List.length_append]; exact Nat.le_refl _)]
  conv => whnf
  (refine Exists.intro _ (And.intro rfl (And.intro (by intro q _; simp only [List.length_nil]; omega) (And.intro (by intro i hi; exact absurd hi (Nat.not_lt_zero i)) ?_))); conv => whnf)
  have kpp := c_kPlaces o o (smallM (by omega))
  rw [decide_eq_true rfl] at kpp
  ((try ((refine Exists.intro none ?_); (conv => whnf))); first | ((with_reducible refine call_by (kpp) ?_); conv => whnf))
  ((try ((refine Exists.intro none ?_); (conv => whnf))); first | ((with_reducible refine call_by (c_wakes14) ?_); conv => whnf))
  exact exit_plain rfl rfl
theorem told_PlaceOrders (qs : List PV) (h : ArgsOf Try.prog [22, 3] qs) : Ctr Try.prog 3 qs (bv true) [] := by
  obtain ⟨p1, qs, rfl, h1, h⟩ := argsOf_cons h
  obtain ⟨p2, qs, rfl, h2, h⟩ := argsOf_cons h
  obtain rfl := argsOf_nil h
  obtain ⟨l, rfl, _⟩ := arg_Pls h1
  obtain ⟨k, rfl, _⟩ := arg_i h2
  exact l_PlaceOrders l k
end Go.Proofs
