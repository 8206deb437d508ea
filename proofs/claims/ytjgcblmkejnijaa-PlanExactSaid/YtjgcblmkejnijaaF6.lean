/- Contracts of functions: the reference's order of places. -/
import Derived.Test.YtjgcblmkejnijaaF5
import Derived.Test.YtjgcblmkejnijaaPvQ2
set_option linter.unusedSimpArgs false
set_option linter.unusedVariables false
namespace Go.Proofs
open Go.Pv
set_option maxRecDepth 100000

theorem c_rInf : Ctr Try.prog 149 [] (.sc (.float .f64 infW)) [] := by
  refine spec_of_body mixed Try.func149 rfl (by kernel_rfl) (by kernel_rfl) ?_; conv => whnf
  ((try ((refine Exists.intro none ?_); (conv => whnf))); first | ((with_reducible refine call_by (c_Inf1) ?_); conv => whnf))
  exact exit_plain rfl rfl
theorem c_rScore (p : Pl) : Ctr Try.prog 138 [.ag p.enc] (.sc (.float .f64 (scoreW p))) [] := by
  refine spec_of_body mixed Try.func138 rfl (by kernel_rfl) (by kernel_rfl) ?_; conv => whnf
  refine split_opt (fun h => ?_) (fun r h => ?_)
  · conv => whnf
    ((try ((refine Exists.intro none ?_); (conv => whnf))); first | ((with_reducible refine call_by (c_rInf) ?_); conv => whnf))
    refine exit_plain rfl ?_
    unfold scoreW addW
    rw [h, if_pos (by kernel_rfl)]
  · conv => whnf
    cases hn : fnanB r with
    | true =>
      have hs : scoreW p = infW := by
        unfold scoreW addW canonW
        rw [h]
        simp only [hn, if_true]
        rw [if_pos (by kernel_rfl)]
      rw [show FloatKind.f64.format.order r r = none from order_nan (.inl hn)]
      conv => whnf
      ((try ((refine Exists.intro none ?_); (conv => whnf))); first | ((with_reducible refine call_by (c_rInf) ?_); conv => whnf))
      exact exit_plain rfl (by rw [hs])
    | false =>
      have hs : scoreW p = r := by
        unfold scoreW addW canonW
        rw [h]
        simp only [hn, Bool.false_eq_true, if_false]
      have ho := ord_eq hn hn
      rw [decide_eq_true rfl] at ho
      rw [beq_iff_eq.1 ho]
      conv => whnf
      exact exit_plain rfl (by rw [hs])
theorem c_rAhead (a b : Pl) : Ctr Try.prog 117 [.ag a.enc, .ag b.enc] (bv (decide (cmpP a b < 0))) [] := by
  have na := scoreW_num a
  have nb := scoreW_num b
  have e1 := ord_eq na nb
  have e2 := ord_lt na nb
  have key : decide (cmpP a b < 0) = if fv (scoreW a) = fv (scoreW b) then decide (a.node < b.node) else decide (fv (scoreW a) < fv (scoreW b)) := by
    by_cases e : fv (scoreW a) = fv (scoreW b)
    · rw [if_pos e]
      refine decide_eq_decide.2 ?_
      rw [cmpP_lt]; unfold keyLt; omega
    · rw [if_neg e]
      refine decide_eq_decide.2 ?_
      rw [cmpP_lt]; unfold keyLt; omega
  have ka := c_rScore a
  have kb := c_rScore b
  generalize scoreW a = x at *
  generalize scoreW b = y at *
  rw [key]
  rcases (by omega : fv x < fv y ∨ fv x = fv y ∨ fv y < fv x) with hl | hl | hl
  · have ho : FloatKind.f64.format.order x y = some .lt := by rw [decide_eq_true hl] at e2; exact beq_iff_eq.1 e2
    rw [if_neg (by omega), decide_eq_true hl]
    refine spec_of_body mixed Try.func117 rfl (by kernel_rfl) (by kernel_rfl) ?_; conv => whnf
    ((try ((refine Exists.intro none ?_); (conv => whnf))); first | ((with_reducible refine call_by (ka) ?_); conv => whnf))
    ((try ((refine Exists.intro none ?_); (conv => whnf))); first | ((with_reducible refine call_by (kb) ?_); conv => whnf))
    rw [ho]
    conv => whnf
    rw [ho]
    exact exit_plain rfl rfl
  · have ho : FloatKind.f64.format.order x y = some .eq := by rw [decide_eq_true hl] at e1; exact beq_iff_eq.1 e1
    rw [if_pos hl]
    refine spec_of_body mixed Try.func117 rfl (by kernel_rfl) (by kernel_rfl) ?_; conv => whnf
    ((try ((refine Exists.intro none ?_); (conv => whnf))); first | ((with_reducible refine call_by (ka) ?_); conv => whnf))
    ((try ((refine Exists.intro none ?_); (conv => whnf))); first | ((with_reducible refine call_by (kb) ?_); conv => whnf))
    rw [ho]
    conv => whnf
    exact exit_plain rfl rfl
  · have ho : FloatKind.f64.format.order x y = some .gt := by
      have e3 := ord_gt na nb
      rw [decide_eq_true hl] at e3; exact beq_iff_eq.1 e3
    rw [if_neg (by omega), decide_eq_false (show ¬ fv x < fv y by omega)]
    refine spec_of_body mixed Try.func117 rfl (by kernel_rfl) (by kernel_rfl) ?_; conv => whnf
    ((try ((refine Exists.intro none ?_); (conv => whnf))); first | ((with_reducible refine call_by (ka) ?_); conv => whnf))
    ((try ((refine Exists.intro none ?_); (conv => whnf))); first | ((with_reducible refine call_by (kb) ?_); conv => whnf))
    rw [ho]
    conv => whnf
    rw [ho]
    exact exit_plain rfl rfl

/-- The row while a place is put in: its own place is free. -/
def arrW (s : List Pl) (x : Pl) (j : Nat) : List Pl := s.take j ++ s.getD j x :: s.drop j
theorem arrW_len {s : List Pl} {x : Pl} {j : Nat} : (arrW s x j).length = s.length + 1 := by
  unfold arrW
  simp only [List.length_append, List.length_cons, List.length_take, List.length_drop]; omega
theorem arrW_top (s : List Pl) (x : Pl) : arrW s x s.length = s ++ [x] := by
  unfold arrW
  rw [List.take_length, List.drop_length, List.getD_eq_getElem?_getD, List.getElem?_eq_none (Nat.le_refl _)]; rfl
theorem arrW_pre {s : List Pl} {x : Pl} {j : Nat} (hj : j < s.length) : (arrW s x (j + 1))[j]? = some (s[j]'hj) := by
  unfold arrW
  rw [List.getElem?_append_left (by rw [List.length_take]; omega), List.getElem?_take_of_lt (by omega), List.getElem?_eq_getElem hj]
theorem arrW_at {s : List Pl} {x : Pl} {j : Nat} (hj : j ≤ s.length) : (arrW s x j)[j]? = some (s.getD j x) := by
  unfold arrW
  rw [List.getElem?_append_right (by rw [List.length_take]; omega), List.length_take, Nat.min_eq_left hj, Nat.sub_self]; rfl
theorem arrW_set {s : List Pl} {x : Pl} {j : Nat} (hj : j < s.length) : (arrW s x (j + 1)).set (j + 1) (s[j]'hj) = arrW s x j := by
  unfold arrW
  have e : s.take (j + 1) = s.take j ++ [s[j]'hj] := List.take_succ_eq_append_getElem hj
  have e2 : s.drop j = s[j]'hj :: s.drop (j + 1) := List.drop_eq_getElem_cons hj
  have e3 : s.getD j x = s[j]'hj := by rw [List.getD_eq_getElem?_getD, List.getElem?_eq_getElem hj]; rfl
  have hl : (s.take j).length = j := by rw [List.length_take]; omega
  rw [e3, e2, e, List.append_assoc, List.set_append_right _ _ (by omega), hl]
  simp
theorem arrW_fin {s : List Pl} {x : Pl} {j : Nat} (hj : j ≤ s.length) : (arrW s x j).set j x = s.take j ++ x :: s.drop j := by
  unfold arrW
  have hl : (s.take j).length = j := by rw [List.length_take]; omega
  rw [List.set_append_right _ _ (by omega), hl, Nat.sub_self]; rfl
theorem insK_stop {s : List Pl} {x : Pl} {j : Nat} (h : j = 0 ∨ ¬ cmpP x (s.getD (j - 1) pz) < 0) : insK s x j = s.take j ++ x :: s.drop j := by
  cases j with
  | zero => rfl
  | succ j =>
    rcases h with h | h
    · cases h
    · unfold insK; rw [if_neg (by simpa using h)]

theorem leMx {n : Nat} (h : n ≤ 140737488355328) : n ≤ maxLen := by
  unfold maxLen; omega
set_option maxHeartbeats 4000000 in
theorem c_rOrder (l : List Pl) (hl : l.length ≤ 4294967) : Ctr Try.prog 91 [.sl 4 (l.map Pl.enc)] (.ow 0 0 ((sortA l).map Pl.enc).length) [(4, (sortA l).map Pl.enc)] := by
  refine spec_of_body mixed Try.func91 rfl (by kernel_rfl) (by kernel_rfl) ?_; conv => whnf
  refine tri_born 3 1002 4 rfl rfl ?_
  conv => whnf
  refine tri_forO mixed (by kernel_rfl) (fun i : Nat => i ≤ l.length) (fun i => [(4, iv i), (3, .ow 1002 0 ((sortA (l.take i)).map Pl.enc).length)]) (fun _ => []) (fun i => [(1002, some (false, 4, (sortA (l.take i)).map Pl.enc))]) [(1002, 1002)] (fun i => l.length - i) 0 (Nat.zero_le _) ?_ ?_
  · conv => whnf
    (refine And.intro (And.intro (by with_unfolding_all rfl) (by intro q h; cases h)) ?_; refine And.intro ?_ (And.intro ?_ ?_) <;> (conv => whnf) <;> (repeat' (first | exact True.intro | (with_reducible exact rfl) | exact (rfl : List.replicate 0 PV.bad = []) | ((with_reducible refine And.intro ?_ ?_) <;> (first | (with_reducible exact wkV_same _ rfl) | exact wkV_pt rfl rfl | exact wkV_ow rfl rfl rfl | (refine wkV_ow rfl rfl ?_) | (refine wkV_sc (congrArg (Value.int .i64) ?_)) | (refine wkV_sc (congrArg Value.bool ?_)) | exact wkV_ls rfl | ((refine wkV_cl ?_); conv => whnf) | ((refine wkV_tu ?_); conv => whnf) | ((refine wkV_ag ?_); conv => whnf) | (conv => whnf))))))
    all_goals first | rfl | trace_state
  intro i hi
  conv => whnf
  ((first | (with_reducible refine split_dec (fun h => ?_) (fun h => ?_)) | (with_reducible refine split_beq (fun h => ?_) (fun h => ?_)) | (with_reducible refine split_bne (fun h => ?_) (fun h => ?_)) | (with_reducible refine split_not (fun h => ?_) (fun h => ?_)) | (with_reducible refine split_beqS (fun h => ?_) (fun h => ?_)) | (with_reducible refine split_intro (fun h => ?_) (fun h => ?_))) <;> conv => whnf)
  · have hlt : i < l.length := by simp only [List.length_map] at h; omega
    clear h
    have hs : (sortA (l.take i)).length = i := by rw [sortA_len, List.length_take]; omega
    have hsucc : sortA (l.take (i + 1)) = insK (sortA (l.take i)) (l[i]'hlt) i := by rw [sortA_succ hlt]; unfold insA; rw [hs]
    (first | ((with_reducible refine And.intro (by omega) (Exists.intro _ (And.intro (row_at hlt) ?_))); conv => whnf))
    have b1 : (((sortA (l.take i)).map Pl.enc).length + 1) * 32 ≤ 140737488355328 := by rw [List.length_map]; omega
    have b2 : ((sortA (l.take i)).map Pl.enc).length + 1 ≤ maxLen := leMx (by rw [List.length_map]; omega)
    (refine And.intro rfl ?_; (conv => whnf); refine And.intro (And.intro (And.intro (by kernel_rfl) (And.intro (Nat.le_refl _) (And.intro (b1) (And.intro (b2) (by intro r hr; rw [List.mem_singleton.1 hr]; rfl))))) (And.intro (by decide) rfl)) ?_; conv => whnf)
    have hlm : ((sortA (l.take i)).map Pl.enc).length = i := by rw [List.length_map, hs]
    have hx : (l.map Pl.enc)[((i : Nat) : Int).toNat]? = some (l[i]'hlt).enc := row_at hlt
    have hJ : (arrW (sortA (l.take i)) (l[i]'hlt) i).map Pl.enc = (sortA (l.take i)).map Pl.enc ++ [(l[i]'hlt).enc] := by
      have := arrW_top (sortA (l.take i)) (l[i]'hlt)
      rw [hs] at this
      rw [this, List.map_append]; rfl
    have hfin : ∀ j, j ≤ i → (j = 0 ∨ ¬ cmpP (l[i]'hlt) ((sortA (l.take i)).getD (j - 1) pz) < 0) → insK (sortA (l.take i)) (l[i]'hlt) i = insK (sortA (l.take i)) (l[i]'hlt) j → ((arrW (sortA (l.take i)) (l[i]'hlt) j).map Pl.enc).set j (l[i]'hlt).enc = (sortA (l.take (i + 1))).map Pl.enc := by
      intro j hj hst hins
      rw [hsucc, hins, insK_stop hst, ← arrW_fin (by omega), List.map_set]
    have hlen1 : ((sortA (l.take (i + 1))).map Pl.enc).length = ((sortA (l.take i)).map Pl.enc).length + 1 := by rw [List.length_map, sortA_len, List.length_take, hlm]; omega
    clear hsucc
    generalize sortA (l.take i) = s at *
    generalize hxx : l[i]'hlt = x at *
    refine tri_forO mixed (by kernel_rfl) (fun j : Nat => j ≤ i ∧ insK s x i = insK s x j) (fun j => [(5, iv j), (12, .bad), (14, .bad)]) (fun _ => []) (fun j => [(320, some (false, 4, (arrW s x j).map Pl.enc))]) [(320, 320)] (fun j => j) i ⟨Nat.le_refl _, rfl⟩ ?_ ?_
    · rw [hlm]
      conv => whnf
      (refine And.intro (And.intro (by with_unfolding_all rfl) (by intro q h; cases h)) ?_; refine And.intro ?_ (And.intro ?_ ?_) <;> (conv => whnf) <;> (repeat' (first | exact True.intro | (with_reducible exact rfl) | exact (rfl : List.replicate 0 PV.bad = []) | ((with_reducible refine And.intro ?_ ?_) <;> (first | (with_reducible exact wkV_same _ rfl) | exact wkV_pt rfl rfl | exact wkV_ow rfl rfl rfl | (refine wkV_ow rfl rfl ?_) | (refine wkV_sc (congrArg (Value.int .i64) ?_)) | (refine wkV_sc (congrArg Value.bool ?_)) | exact wkV_ls rfl | ((refine wkV_cl ?_); conv => whnf) | ((refine wkV_tu ?_); conv => whnf) | ((refine wkV_ag ?_); conv => whnf) | (conv => whnf))))))
      all_goals first | rfl | (refine obj_eq (by kernel_rfl) ?_; rw [hJ, List.take_of_length_le (by omega)]; done) | (refine obj_eq (by kernel_rfl) ?_; rw [hJ, List.take_of_length_le (by omega)]; rfl) | trace_state
    rintro j ⟨hj, hinv⟩
    have harr : ((arrW s x j).map Pl.enc).length = i + 1 := by rw [List.length_map, arrW_len]; omega
    have fin : ∀ (hst : j = 0 ∨ ¬ cmpP x (s.getD (j - 1) pz) < 0), ((arrW s x j).map Pl.enc).set (0 + ((j : Nat) : Int).toNat) x.enc = (sortA (l.take (i + 1))).map Pl.enc := fun hst => by
      rw [Nat.zero_add, Int.toNat_natCast]; exact hfin j hj hst hinv
    conv => whnf
    ((first | (with_reducible refine split_dec (fun h => ?_) (fun h => ?_)) | (with_reducible refine split_beq (fun h => ?_) (fun h => ?_)) | (with_reducible refine split_bne (fun h => ?_) (fun h => ?_)) | (with_reducible refine split_not (fun h => ?_) (fun h => ?_)) | (with_reducible refine split_beqS (fun h => ?_) (fun h => ?_)) | (with_reducible refine split_intro (fun h => ?_) (fun h => ?_))) <;> conv => whnf)
    · obtain ⟨q, rfl⟩ : ∃ q, j = q + 1 := ⟨j - 1, by omega⟩
      clear h
      have hql : q < s.length := by omega
      have e1 : IntKind.i64.wrap (((q + 1 : Nat) : Int) - 1) = (q : Int) := by rw [wrap_id (by omega) (by omega)]; omega
      have hy : ((arrW s x (q + 1)).map Pl.enc)[0 + ((q : Nat) : Int).toNat]? = some (s[q]'hql).enc := by
        rw [Nat.zero_add, Int.toNat_natCast, List.getElem?_map, arrW_pre hql]; rfl
      have hz : ((arrW s x (q + 1)).map Pl.enc)[0 + ((q + 1 : Nat) : Int).toNat]? = some (s.getD (q + 1) x).enc := by
        rw [Nat.zero_add, Int.toNat_natCast, List.getElem?_map, arrW_at (by omega)]; rfl
      have hset := arrW_set (x := x) hql
      have hgd : s.getD (q + 1 - 1) pz = s[q]'hql := by rw [Nat.add_sub_cancel, List.getD_eq_getElem?_getD, List.getElem?_eq_getElem hql]; rfl
      rw [hgd] at fin
      have hk : insK s x (q + 1) = if cmpP x (s[q]'hql) < 0 then insK s x q else s.take (q + 1) ++ x :: s.drop (q + 1) := by
        conv => lhs; unfold insK
        rw [List.getD_eq_getElem?_getD, List.getElem?_eq_getElem hql]; rfl
      have kc := c_rAhead x (s[q]'hql)
      generalize s[q]'hql = y at *
      refine ⟨by omega, _, hx, ?_⟩
      conv => whnf
      rw [e1]
      refine ⟨⟨by omega, by first | omega | (simp only [List.length_cons, List.length_nil]; omega)⟩, ?_⟩
      conv => whnf
      refine ⟨_, hy, ?_⟩
      conv => whnf
      ((try ((refine Exists.intro none ?_); (conv => whnf))); first | ((with_reducible refine call_by (kc) ?_); conv => whnf))
      ((first | (with_reducible refine split_dec (fun h => ?_) (fun h => ?_)) | (with_reducible refine split_beq (fun h => ?_) (fun h => ?_)) | (with_reducible refine split_bne (fun h => ?_) (fun h => ?_)) | (with_reducible refine split_not (fun h => ?_) (fun h => ?_)) | (with_reducible refine split_beqS (fun h => ?_) (fun h => ?_)) | (with_reducible refine split_intro (fun h => ?_) (fun h => ?_))) <;> conv => whnf)
      · rw [if_pos h] at hk
        rw [e1]
        refine ⟨⟨by omega, by first | omega | (simp only [List.length_cons, List.length_nil]; omega)⟩, ?_⟩
        conv => whnf
        refine ⟨_, hy, ?_⟩
        conv => whnf
        refine ⟨⟨by omega, by first | omega | (simp only [List.length_cons, List.length_nil]; omega)⟩, ?_⟩
        conv => whnf
        refine ⟨_, hz, ?_⟩
        conv => whnf
        refine ⟨q, [(320, 320)], ⟨⟨by omega, by rw [hinv, hk]⟩, by omega⟩, ?_⟩
        conv => whnf
        (refine And.intro (And.intro (by with_unfolding_all rfl) (by intro q h; cases h)) ?_; refine And.intro ?_ (And.intro ?_ ?_) <;> (conv => whnf) <;> (repeat' (first | exact True.intro | (with_reducible exact rfl) | exact (rfl : List.replicate 0 PV.bad = []) | ((with_reducible refine And.intro ?_ ?_) <;> (first | (with_reducible exact wkV_same _ rfl) | exact wkV_pt rfl rfl | exact wkV_ow rfl rfl rfl | (refine wkV_ow rfl rfl ?_) | (refine wkV_sc (congrArg (Value.int .i64) ?_)) | (refine wkV_sc (congrArg Value.bool ?_)) | exact wkV_ls rfl | ((refine wkV_cl ?_); conv => whnf) | ((refine wkV_tu ?_); conv => whnf) | ((refine wkV_ag ?_); conv => whnf) | (conv => whnf))))))
        all_goals first
          | exact e1
          | (refine obj_eq (by kernel_rfl) ?_; rw [Nat.zero_add, Int.toNat_natCast, ← hset, List.map_set]; done)
          | (refine obj_eq (by kernel_rfl) ?_; rw [Nat.zero_add, Int.toNat_natCast, ← hset, List.map_set]; rfl)
          | rfl | trace_state
      · have hf := fin (.inr h)
        refine ⟨by omega, _, hx, ?_⟩
        conv => whnf
        refine ⟨⟨by omega, by first | omega | (simp only [List.length_cons, List.length_nil]; omega)⟩, ?_⟩
        conv => whnf
        refine ⟨_, hz, ?_⟩
        conv => whnf
        refine ⟨i + 1, [(1002, 320)], ⟨by omega, by omega⟩, ?_⟩
        conv => whnf
        (refine And.intro (And.intro (by with_unfolding_all rfl) (by intro q h; cases h)) ?_; refine And.intro ?_ (And.intro ?_ ?_) <;> (conv => whnf) <;> (repeat' (first | exact True.intro | (with_reducible exact rfl) | exact (rfl : List.replicate 0 PV.bad = []) | ((with_reducible refine And.intro ?_ ?_) <;> (first | (with_reducible exact wkV_same _ rfl) | exact wkV_pt rfl rfl | exact wkV_ow rfl rfl rfl | (refine wkV_ow rfl rfl ?_) | (refine wkV_sc (congrArg (Value.int .i64) ?_)) | (refine wkV_sc (congrArg Value.bool ?_)) | exact wkV_ls rfl | ((refine wkV_cl ?_); conv => whnf) | ((refine wkV_tu ?_); conv => whnf) | ((refine wkV_ag ?_); conv => whnf) | (conv => whnf))))))
        all_goals first
          | exact w1 (by omega)
          | exact hlen1.symm
          | (refine obj_eq (by kernel_rfl) ?_; rw [← hf]; done)
          | (refine obj_eq (by kernel_rfl) ?_; rw [← hf]; rfl)
          | rfl | trace_state
    · obtain rfl : j = 0 := by omega
      have hf := fin (.inl rfl)
      have hz : ((arrW s x 0).map Pl.enc)[0 + ((0 : Nat) : Int).toNat]? = some (s.getD 0 x).enc := by
        rw [Nat.zero_add, Int.toNat_natCast, List.getElem?_map, arrW_at (by omega)]; rfl
      refine ⟨by omega, _, hx, ?_⟩
      conv => whnf
      refine ⟨⟨by omega, by first | omega | (simp only [List.length_cons, List.length_nil]; omega)⟩, ?_⟩
      conv => whnf
      refine ⟨_, hz, ?_⟩
      conv => whnf
      refine ⟨i + 1, [(1002, 320)], ⟨by omega, by omega⟩, ?_⟩
      conv => whnf
      (refine And.intro (And.intro (by with_unfolding_all rfl) (by intro q h; cases h)) ?_; refine And.intro ?_ (And.intro ?_ ?_) <;> (conv => whnf) <;> (repeat' (first | exact True.intro | (with_reducible exact rfl) | exact (rfl : List.replicate 0 PV.bad = []) | ((with_reducible refine And.intro ?_ ?_) <;> (first | (with_reducible exact wkV_same _ rfl) | exact wkV_pt rfl rfl | exact wkV_ow rfl rfl rfl | (refine wkV_ow rfl rfl ?_) | (refine wkV_sc (congrArg (Value.int .i64) ?_)) | (refine wkV_sc (congrArg Value.bool ?_)) | exact wkV_ls rfl | ((refine wkV_cl ?_); conv => whnf) | ((refine wkV_tu ?_); conv => whnf) | ((refine wkV_ag ?_); conv => whnf) | (conv => whnf))))))
      all_goals first
        | exact w1 (by omega)
          | exact hlen1.symm
        | (refine obj_eq (by kernel_rfl) ?_; rw [← hf]; done)
        | (refine obj_eq (by kernel_rfl) ?_; rw [← hf]; rfl)
        | rfl | trace_state
  · have ei : i = l.length := by simp only [List.length_map] at h; omega
    subst ei
    clear h
    rw [List.take_length]
    conv => whnf
    exact exit_own [(0, 1002)] rfl ⟨rfl, True.intro⟩ (wkV_ow rfl rfl rfl)
theorem c_rOrderV (l : List Pl) (hl : l.length ≤ 4294967) : Ctr Try.prog 91 [.sl 4 (l.map Pl.enc)] (.sl 4 ((sortA l).map Pl.enc)) [] :=
  (c_rOrder l hl).frz (wkV_fz2 (b := false) (List.Mem.head _) rfl)
set_option maxHeartbeats 1000000 in
theorem c_rBest (l : List Pl) (hl : l.length ≤ 4294967) (h : plsB l = true) (bits : Int) : Ctr Try.prog 48 [.sl 4 (l.map Pl.enc), iv (-1), iv bits] (iv (bestP l bits)) [] := by
  have k := c_rOrderV l hl
  have hin : ∀ p ∈ sortA l, PlIn p := fun p hp => chkP_in l 0 h p (sortA_mem.1 hp)
  have hlen : (sortA l).length ≤ 7 := by rw [sortA_len]; exact plsB_len h
  unfold bestP
  generalize sortA l = o at *
  refine spec_of_body mixed Try.func48 rfl (by kernel_rfl) (by kernel_rfl) ?_; conv => whnf
  ((try ((refine Exists.intro none ?_); (conv => whnf))); first | ((with_reducible refine call_by (k) ?_); conv => whnf))
  (refine Exists.intro _ (And.intro rfl (And.intro (by intro q _; simp only [List.length_nil]; omega) (And.intro (by intro i hi; exact absurd hi (Nat.not_lt_zero i)) ?_))); conv => whnf)
  refine tri_for0 mixed (by kernel_rfl) (fun i : Nat => i ≤ o.length ∧ ∀ j (hj : j < o.length), j < i → tb bits (o[j]'hj).node.toNat = false) (fun i => [(8, iv i)]) [] (fun i => o.length - i) 0 ⟨Nat.zero_le _, fun j _ h => absurd h (Nat.not_lt_zero j)⟩ ?_ ?_
  · conv => whnf
    (refine And.intro (And.intro (by with_unfolding_all rfl) (by intro q h; cases h)) ?_; refine And.intro ?_ (And.intro ?_ ?_) <;> (conv => whnf) <;> (repeat' (first | exact True.intro | (with_reducible exact rfl) | exact (rfl : List.replicate 0 PV.bad = []) | ((with_reducible refine And.intro ?_ ?_) <;> (first | (with_reducible exact wkV_same _ rfl) | exact wkV_pt rfl rfl | exact wkV_ow rfl rfl rfl | (refine wkV_ow rfl rfl ?_) | (refine wkV_sc (congrArg (Value.int .i64) ?_)) | (refine wkV_sc (congrArg Value.bool ?_)) | exact wkV_ls rfl | ((refine wkV_cl ?_); conv => whnf) | ((refine wkV_tu ?_); conv => whnf) | ((refine wkV_ag ?_); conv => whnf) | (conv => whnf))))))
    all_goals rfl
  rintro i ⟨hi, hal⟩
  conv => whnf
  ((first | (with_reducible refine split_dec (fun h => ?_) (fun h => ?_)) | (with_reducible refine split_beq (fun h => ?_) (fun h => ?_)) | (with_reducible refine split_bne (fun h => ?_) (fun h => ?_)) | (with_reducible refine split_not (fun h => ?_) (fun h => ?_)) | (with_reducible refine split_beqS (fun h => ?_) (fun h => ?_)) | (with_reducible refine split_intro (fun h => ?_) (fun h => ?_))) <;> conv => whnf)
  · have hlt : i < o.length := by simp only [List.length_map] at h; omega
    clear h
    obtain ⟨⟨p1, p2⟩, _⟩ := hin _ (List.getElem_mem hlt)
    obtain ⟨n, hn⟩ : ∃ n : Nat, (o[i]'hlt).node = n := ⟨(o[i]'hlt).node.toNat, by omega⟩
    have htn : (o[i]'hlt).node.toNat = n := by omega
    have kh := c_Has bits (o[i]'hlt).node
    rw [hn, hasB_nat _ _ (by omega)] at kh
    (first | ((with_reducible refine And.intro (by omega) (Exists.intro _ (And.intro (row_at hlt) ?_))); conv => whnf))
    rw [hn]
    ((try ((refine Exists.intro none ?_); (conv => whnf))); first | ((with_reducible refine call_by (kh) ?_); conv => whnf))
    cases ht : tb bits n with
    | true =>
      rw [ht] at kh
      conv => whnf
      (first | ((with_reducible refine And.intro (by omega) (Exists.intro _ (And.intro (row_at hlt) ?_))); conv => whnf))
      have hf : o.find? (fun p => tb bits p.node.toNat) = some (o[i]'hlt) := by
        rw [List.find?_eq_some_iff_getElem]
        exact ⟨by rw [htn]; exact ht, i, hlt, rfl, fun j hj => by rw [hal j (by omega) hj]; rfl⟩
      exact exit_plain rfl (by rw [hf])
    | false =>
      conv => whnf
      refine ⟨i + 1, ⟨⟨by omega, fun j hj hji => ?_⟩, by omega⟩, ?_⟩
      · by_cases e : j = i
        · subst e; rw [htn]; exact ht
        · exact hal j hj (by omega)
      conv => whnf
      (refine And.intro (And.intro (by with_unfolding_all rfl) (by intro q h; cases h)) ?_; refine And.intro ?_ (And.intro ?_ ?_) <;> (conv => whnf) <;> (repeat' (first | exact True.intro | (with_reducible exact rfl) | exact (rfl : List.replicate 0 PV.bad = []) | ((with_reducible refine And.intro ?_ ?_) <;> (first | (with_reducible exact wkV_same _ rfl) | exact wkV_pt rfl rfl | exact wkV_ow rfl rfl rfl | (refine wkV_ow rfl rfl ?_) | (refine wkV_sc (congrArg (Value.int .i64) ?_)) | (refine wkV_sc (congrArg Value.bool ?_)) | exact wkV_ls rfl | ((refine wkV_cl ?_); conv => whnf) | ((refine wkV_tu ?_); conv => whnf) | ((refine wkV_ag ?_); conv => whnf) | (conv => whnf))))))
      all_goals first | exact w1 (by omega) | rfl | trace_state
  · have hf : o.find? (fun p => tb bits p.node.toNat) = none := by
      rw [List.find?_eq_none]
      intro p hp
      obtain ⟨j, hj, rfl⟩ := List.getElem_of_mem hp
      rw [hal j hj (by simp only [List.length_map] at h; omega)]; simp
    exact exit_plain rfl (by rw [hf])
end Go.Proofs
