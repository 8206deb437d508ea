import Derived.Test.YtjgcblmkejnijaaD8
set_option linter.unusedSimpArgs false
set_option linter.unusedVariables false
namespace Go.Proofs
open Go.Pv
set_option maxRecDepth 100000

/-- The score of a node's place: the last one of that node; none: nought. -/
def scoreOf (l : List Pl) (a : Int) : Nat → Nat
  | 0 => 0
  | i + 1 => match l[i]? with
    | some p => if p.node = a then scoreW p else scoreOf l a i
    | none => scoreOf l a i
theorem scoreOf_num (l : List Pl) (a : Int) : ∀ i, fnanB (scoreOf l a i) = false
  | 0 => by show fnanB 0 = false; kernel_rfl
  | i + 1 => by
    unfold scoreOf
    split
    · split
      · exact scoreW_num _
      · exact scoreOf_num l a i
    · exact scoreOf_num l a i
theorem scoreOf_is {l : List Pl} {q : Pl} (hq : q ∈ l) (hu : ∀ a ∈ l, ∀ b ∈ l, a.node = b.node → a = b) : scoreOf l q.node l.length = scoreW q := by
  have key : ∀ i, i ≤ l.length → (∃ j, ∃ hj : j < l.length, j < i ∧ (l[j]'hj) = q) → scoreOf l q.node i = scoreW q := by
    intro i
    induction i with
    | zero => rintro _ ⟨j, _, h, _⟩; omega
    | succ i ih =>
      rintro hi ⟨j, hj, hji, e⟩
      unfold scoreOf
      rw [List.getElem?_eq_getElem (show i < l.length by omega)]
      simp only
      by_cases hn : (l[i]'(by omega)).node = q.node
      · rw [if_pos hn, hu _ (List.getElem_mem (by omega)) q hq hn]
      · rw [if_neg hn]
        refine ih (by omega) ⟨j, hj, ?_, e⟩
        by_cases ej : j = i
        · subst ej; rw [e] at hn; exact absurd rfl hn
        · omega
  obtain ⟨j, hj, e⟩ := List.getElem_of_mem hq
  exact key l.length (Nat.le_refl _) ⟨j, hj, hj, e⟩

theorem app_full (l : List Pl) (x : List PV) : List.take (l.length + 1) (List.take l.length (List.map Pl.enc l) ++ [x]) = List.map Pl.enc l ++ [x] := by
  rw [show List.take l.length (List.map Pl.enc l) = List.map Pl.enc l from List.take_of_length_le (by simp), List.take_of_length_le (by simp)]
theorem more_no {l : List Pl} {p : Pl} {bits : Int} (hu : ∀ a ∈ l ++ [p], ∀ b ∈ l ++ [p], a.node = b.node → a = b) (ht : tb bits p.node.toNat = false) : bestP (l ++ [p]) bits = bestP l bits := by
  by_cases hy : ∃ y ∈ l, tb bits y.node.toNat = true
  · obtain ⟨y, hy, hb⟩ := hy
    obtain ⟨q, hq, e⟩ := best_some hy hb
    rw [e]
    refine best_is ⟨by simp [hq.mem], hq.bit, fun z hz hzb => ?_⟩ hu
    rcases List.mem_append.1 hz with hz | hz
    · exact hq.least z hz hzb
    · rw [List.mem_singleton.1 hz, ht] at hzb; cases hzb
  · have no : ∀ y ∈ l, tb bits y.node.toNat = false := fun y hyl => by
      cases hb : tb bits y.node.toNat with
      | false => rfl
      | true => exact absurd ⟨y, hyl, hb⟩ hy
    rw [best_none no, best_none]
    intro y hyl
    rcases List.mem_append.1 hyl with h | h
    · exact no y h
    · rw [List.mem_singleton.1 h]; exact ht
theorem more_new {l : List Pl} {p : Pl} {bits : Int} (hin : ∀ q ∈ l, PlIn q) (hu : ∀ a ∈ l ++ [p], ∀ b ∈ l ++ [p], a.node = b.node → a = b) (ht : tb bits p.node.toNat = true) (ha : bestP l bits = -1) : bestP (l ++ [p]) bits = p.node := by
  refine best_is ⟨by simp, ht, fun z hz hzb => ?_⟩ hu
  rcases List.mem_append.1 hz with hz | hz
  · obtain ⟨q, hq, e⟩ := best_some hz hzb
    have := hin q hq.mem
    unfold PlIn at this
    omega
  · rw [List.mem_singleton.1 hz]
    exact fun hk => keyLt_asym hk hk
theorem more_old {l : List Pl} {p : Pl} {bits : Int} (hu : ∀ a ∈ l ++ [p], ∀ b ∈ l ++ [p], a.node = b.node → a = b) (ht : tb bits p.node.toNat = true) (ha : ¬ bestP l bits = -1) : ∃ q ∈ l, bestP l bits = q.node ∧ ((keyLt p q → bestP (l ++ [p]) bits = p.node) ∧ (¬ keyLt p q → bestP (l ++ [p]) bits = q.node)) := by
  by_cases hy : ∃ y ∈ l, tb bits y.node.toNat = true
  · obtain ⟨y, hy, hb⟩ := hy
    obtain ⟨q, hq, e⟩ := best_some hy hb
    refine ⟨q, hq.mem, e, fun hk => ?_, fun hk => ?_⟩
    · refine best_is ⟨by simp, ht, fun z hz hzb => ?_⟩ hu
      rcases List.mem_append.1 hz with hz | hz
      · have h1 := hq.least z hz hzb
        unfold keyLt at *; omega
      · rw [List.mem_singleton.1 hz]
        exact fun hk => keyLt_asym hk hk
    · refine best_is ⟨by simp [hq.mem], hq.bit, fun z hz hzb => ?_⟩ hu
      rcases List.mem_append.1 hz with hz | hz
      · exact hq.least z hz hzb
      · rw [List.mem_singleton.1 hz]; exact hk
  · exact absurd (best_none (fun y hyl => by
      cases hb : tb bits y.node.toNat with
      | false => rfl
      | true => exact absurd ⟨y, hyl, hb⟩ hy)) ha

set_option maxHeartbeats 4000000 in
theorem l_PlaceMore (l : List Pl) (p : Pl) (bits : Int) : Ctr Try.prog 4 [.sl 4 (l.map Pl.enc), .ag p.enc, iv bits] (bv true) [] := by
  refine spec_of_body mixed Try.func4 rfl (by kernel_rfl) (by kernel_rfl) ?_; conv => whnf
  ((first | (with_reducible refine split_dec (fun h => ?_) (fun h => ?_)) | (with_reducible refine split_beq (fun h => ?_) (fun h => ?_)) | (with_reducible refine split_bne (fun h => ?_) (fun h => ?_)) | (with_reducible refine split_not (fun h => ?_) (fun h => ?_)) | (with_reducible refine split_beqS (fun h => ?_) (fun h => ?_)) | (with_reducible refine split_intro (fun h => ?_) (fun h => ?_))) <;> conv => whnf)
  · exact exit_plain rfl rfl
  have hl : l.length ≤ 100 := by simp only [List.length_map] at h; omega
  clear h
  have h' : (l.map Pl.enc).length ≤ 4294967296 := by rw [List.length_map]; omega
  refine ⟨rfl, ?_⟩
  conv => whnf
  refine ⟨⟨⟨small h' (by kernel_rfl), smallM h'⟩, rfl⟩, ?_⟩
  conv => whnf
  have h3 : (l.map Pl.enc).length ≤ 100 := by rw [List.length_map]; omega
  (refine And.intro rfl ?_; (conv => whnf); refine And.intro (And.intro (And.intro (by kernel_rfl) (And.intro (by simp) (And.intro (small (by simp only [List.length_cons, List.length_nil]; omega) (by kernel_rfl)) (And.intro (smallM (by simp only [List.length_cons, List.length_nil]; omega)) (by intro r hr; rw [List.mem_singleton.1 hr]; rfl))))) (And.intro (by decide) rfl)) ?_; conv => whnf)
  have hl2 : (l ++ [p]).length ≤ 4294967 := by rw [List.length_append]; simp only [List.length_cons, List.length_nil]; omega
  cases h2 : plsB (l ++ [p]) with
  | false =>
    have k2 := c_BestN (l ++ [p]) hl2 h2 bits
    cases h1 : plsB l with
    | false =>
      have k1 := c_BestN l (by omega) h1 bits
      ((try ((refine Exists.intro none ?_); (conv => whnf))); first | ((with_reducible refine call_by (k1) ?_); conv => whnf))
      refine Exists.intro none ?_
      conv => whnf
      refine And.intro (by simp) ?_
      conv => whnf
      refine call_eq k2 ?_ ?_
      · refine congrArg (fun r => [PV.sl 4 r, iv bits]) ?_
        simp
        exact app_full l _
      conv => whnf
      ((try ((refine Exists.intro none ?_); (conv => whnf))); first | ((with_reducible refine call_by (c_wakes14) ?_); conv => whnf))
      exact exit_plain rfl rfl
    | true =>
      have k1 := c_Best l (by omega) h1 bits
      ((try ((refine Exists.intro none ?_); (conv => whnf))); first | ((with_reducible refine call_by (k1) ?_); conv => whnf))
      refine Exists.intro none ?_
      conv => whnf
      refine And.intro (by simp) ?_
      conv => whnf
      refine call_eq k2 ?_ ?_
      · refine congrArg (fun r => [PV.sl 4 r, iv bits]) ?_
        simp
        exact app_full l _
      conv => whnf
      ((try ((refine Exists.intro none ?_); (conv => whnf))); first | ((with_reducible refine call_by (c_wakes14) ?_); conv => whnf))
      exact exit_plain rfl rfl
  | true =>
    have h1 : plsB l = true := chkP_app l [p] 0 h2
    have k1 := c_Best l (by omega) h1 bits
    have k2 := c_Best (l ++ [p]) hl2 h2 bits
    have hu := chkP_uniq (l ++ [p]) 0 h2
    have hin := chkP_in (l ++ [p]) 0 h2
    have hul : ∀ a ∈ l, ∀ b ∈ l, a.node = b.node → a = b := fun a ha b hb => hu a (by simp [ha]) b (by simp [hb])
    obtain ⟨⟨p1, p2⟩, _⟩ := hin p (by simp)
    obtain ⟨n, hn⟩ : ∃ n : Nat, p.node = n := ⟨p.node.toNat, by omega⟩
    have htn : p.node.toNat = n := by omega
    have hb : iand .i64 (ishr .i64 bits (n : Int)) 1 = nb (tb bits n) := bit_shr bits n (by omega)
    ((try ((refine Exists.intro none ?_); (conv => whnf))); first | ((with_reducible refine call_by (k1) ?_); conv => whnf))
    refine Exists.intro none ?_
    conv => whnf
    refine And.intro (by simp) ?_
    conv => whnf
    refine call_eq k2 ?_ ?_
    · refine congrArg (fun r => [PV.sl 4 r, iv bits]) ?_
      simp
      exact app_full l _
    conv => whnf
    rw [hn, wrapu_id (by omega) (by omega)]
    ((with_reducible refine And.intro (And.intro (by first | decide | omega) (by first | decide | omega)) ?_); conv => whnf)
    rw [hb]
    cases ht : tb bits n with
    | false =>
      have e := more_no hu (by rw [htn]; exact ht)
      conv => whnf
      rw [e]
      ((first | (with_reducible refine split_et rfl ?_) | (with_reducible refine split_bf rfl ?_) | (with_reducible refine split_t (beq_self_eq_true _) ?_) | (with_reducible refine split_f (bne_self_eq_false _) ?_)); conv => whnf)
      ((try ((refine Exists.intro none ?_); (conv => whnf))); first | ((with_reducible refine call_by (c_wakes14) ?_); conv => whnf))
      exact exit_plain rfl rfl
    | true =>
      conv => whnf
      have ht' : tb bits p.node.toNat = true := by rw [htn]; exact ht
      ((first | (with_reducible refine split_dec (fun h => ?_) (fun h => ?_)) | (with_reducible refine split_beq (fun h => ?_) (fun h => ?_)) | (with_reducible refine split_bne (fun h => ?_) (fun h => ?_)) | (with_reducible refine split_not (fun h => ?_) (fun h => ?_)) | (with_reducible refine split_beqS (fun h => ?_) (fun h => ?_)) | (with_reducible refine split_intro (fun h => ?_) (fun h => ?_))) <;> conv => whnf)
      · have e := more_new (fun q hq => hin q (by simp [hq])) hu ht' h
        rw [e, hn]
        ((first | (with_reducible refine split_et rfl ?_) | (with_reducible refine split_bf rfl ?_) | (with_reducible refine split_t (beq_self_eq_true _) ?_) | (with_reducible refine split_f (bne_self_eq_false _) ?_)); conv => whnf)
        ((try ((refine Exists.intro none ?_); (conv => whnf))); first | ((with_reducible refine call_by (c_wakes14) ?_); conv => whnf))
        exact exit_plain rfl rfl
      · obtain ⟨q, hq, e1, e2, e3⟩ := more_old hu ht' h
        have hs := scoreOf_is hq hul
        rw [e1]
        refine tri_for0 mixed (by kernel_rfl) (fun i : Nat => i ≤ l.length) (fun i => [(12, .sc (.float .f64 (scoreOf l q.node i))), (13, iv i), (20, .bad)]) [(368, 368)] (fun i => l.length - i) 0 (Nat.zero_le _) ?_ ?_
        · conv => whnf
          (refine And.intro (And.intro (by with_unfolding_all rfl) (by intro q h; cases h)) ?_; refine And.intro ?_ (And.intro ?_ ?_) <;> (conv => whnf) <;> (repeat' (first | exact True.intro | (with_reducible exact rfl) | exact (rfl : List.replicate 0 PV.bad = []) | ((with_reducible refine And.intro ?_ ?_) <;> (first | (with_reducible exact wkV_same _ rfl) | exact wkV_pt rfl rfl | exact wkV_ow rfl rfl rfl | (refine wkV_ow rfl rfl ?_) | (refine wkV_sc (congrArg (Value.int .i64) ?_)) | (refine wkV_sc (congrArg Value.bool ?_)) | exact wkV_ls rfl | ((refine wkV_cl ?_); conv => whnf) | ((refine wkV_tu ?_); conv => whnf) | ((refine wkV_ag ?_); conv => whnf) | (conv => whnf))))))
          all_goals rfl
        intro i hi
        conv => whnf
        ((first | (with_reducible refine split_dec (fun h => ?_) (fun h => ?_)) | (with_reducible refine split_beq (fun h => ?_) (fun h => ?_)) | (with_reducible refine split_bne (fun h => ?_) (fun h => ?_)) | (with_reducible refine split_not (fun h => ?_) (fun h => ?_)) | (with_reducible refine split_beqS (fun h => ?_) (fun h => ?_)) | (with_reducible refine split_intro (fun h => ?_) (fun h => ?_))) <;> conv => whnf)
        · have hlt : i < l.length := by simp only [List.length_map] at h; omega
          have hsu : scoreOf l q.node (i + 1) = if (l[i]'hlt).node = q.node then scoreW (l[i]'hlt) else scoreOf l q.node i := by
            conv => lhs; unfold scoreOf
            rw [List.getElem?_eq_getElem hlt]
          (first | ((with_reducible refine And.intro (by omega) (Exists.intro _ (And.intro (row_at hlt) ?_))); conv => whnf))
          ((first | (with_reducible refine split_dec (fun h => ?_) (fun h => ?_)) | (with_reducible refine split_beq (fun h => ?_) (fun h => ?_)) | (with_reducible refine split_bne (fun h => ?_) (fun h => ?_)) | (with_reducible refine split_not (fun h => ?_) (fun h => ?_)) | (with_reducible refine split_beqS (fun h => ?_) (fun h => ?_)) | (with_reducible refine split_intro (fun h => ?_) (fun h => ?_))) <;> conv => whnf)
          · rw [if_pos h] at hsu
            (first | ((with_reducible refine And.intro (by omega) (Exists.intro _ (And.intro (row_at hlt) ?_))); conv => whnf))
            ((try ((refine Exists.intro none ?_); (conv => whnf))); first | ((with_reducible refine call_by (c_Score (l[i]'hlt)) ?_); conv => whnf))
            refine ⟨i + 1, ⟨by omega, by omega⟩, ?_⟩
            rw [hsu]
            conv => whnf
            (refine And.intro (And.intro (by with_unfolding_all rfl) (by intro q h; cases h)) ?_; refine And.intro ?_ (And.intro ?_ ?_) <;> (conv => whnf) <;> (repeat' (first | exact True.intro | (with_reducible exact rfl) | exact (rfl : List.replicate 0 PV.bad = []) | ((with_reducible refine And.intro ?_ ?_) <;> (first | (with_reducible exact wkV_same _ rfl) | exact wkV_pt rfl rfl | exact wkV_ow rfl rfl rfl | (refine wkV_ow rfl rfl ?_) | (refine wkV_sc (congrArg (Value.int .i64) ?_)) | (refine wkV_sc (congrArg Value.bool ?_)) | exact wkV_ls rfl | ((refine wkV_cl ?_); conv => whnf) | ((refine wkV_tu ?_); conv => whnf) | ((refine wkV_ag ?_); conv => whnf) | (conv => whnf))))))
            all_goals first | exact w1 (by omega) | rfl | trace_state
          · rw [if_neg h] at hsu
            refine ⟨i + 1, ⟨by omega, by omega⟩, ?_⟩
            rw [hsu]
            conv => whnf
            (refine And.intro (And.intro (by with_unfolding_all rfl) (by intro q h; cases h)) ?_; refine And.intro ?_ (And.intro ?_ ?_) <;> (conv => whnf) <;> (repeat' (first | exact True.intro | (with_reducible exact rfl) | exact (rfl : List.replicate 0 PV.bad = []) | ((with_reducible refine And.intro ?_ ?_) <;> (first | (with_reducible exact wkV_same _ rfl) | exact wkV_pt rfl rfl | exact wkV_ow rfl rfl rfl | (refine wkV_ow rfl rfl ?_) | (refine wkV_sc (congrArg (Value.int .i64) ?_)) | (refine wkV_sc (congrArg Value.bool ?_)) | exact wkV_ls rfl | ((refine wkV_cl ?_); conv => whnf) | ((refine wkV_tu ?_); conv => whnf) | ((refine wkV_ag ?_); conv => whnf) | (conv => whnf))))))
            all_goals first | exact w1 (by omega) | rfl | trace_state
        · have ei : i = l.length := by simp only [List.length_map] at h; omega
          subst ei
          rw [hs]
          ((try ((refine Exists.intro none ?_); (conv => whnf))); first | ((with_reducible refine call_by (c_Score p) ?_); conv => whnf))
          have o1 := ord_lt (scoreW_num p) (scoreW_num q)
          have o2 := ord_eq (scoreW_num p) (scoreW_num q)
          have yes := e2
          rw [o1]
          ((first | (with_reducible refine split_dec (fun h => ?_) (fun h => ?_)) | (with_reducible refine split_beq (fun h => ?_) (fun h => ?_)) | (with_reducible refine split_bne (fun h => ?_) (fun h => ?_)) | (with_reducible refine split_not (fun h => ?_) (fun h => ?_)) | (with_reducible refine split_beqS (fun h => ?_) (fun h => ?_)) | (with_reducible refine split_intro (fun h => ?_) (fun h => ?_))) <;> conv => whnf)
          · rw [yes (.inl h)]
            ((first | (with_reducible refine split_et rfl ?_) | (with_reducible refine split_bf rfl ?_) | (with_reducible refine split_t (beq_self_eq_true _) ?_) | (with_reducible refine split_f (bne_self_eq_false _) ?_)); conv => whnf)
            ((try ((refine Exists.intro none ?_); (conv => whnf))); first | ((with_reducible refine call_by (c_wakes14) ?_); conv => whnf))
            exact exit_plain rfl rfl
          · have g1 := h
            rw [o2]
            ((first | (with_reducible refine split_dec (fun h => ?_) (fun h => ?_)) | (with_reducible refine split_beq (fun h => ?_) (fun h => ?_)) | (with_reducible refine split_bne (fun h => ?_) (fun h => ?_)) | (with_reducible refine split_not (fun h => ?_) (fun h => ?_)) | (with_reducible refine split_beqS (fun h => ?_) (fun h => ?_)) | (with_reducible refine split_intro (fun h => ?_) (fun h => ?_))) <;> conv => whnf)
            · have g2 := h
              ((first | (with_reducible refine split_dec (fun h => ?_) (fun h => ?_)) | (with_reducible refine split_beq (fun h => ?_) (fun h => ?_)) | (with_reducible refine split_bne (fun h => ?_) (fun h => ?_)) | (with_reducible refine split_not (fun h => ?_) (fun h => ?_)) | (with_reducible refine split_beqS (fun h => ?_) (fun h => ?_)) | (with_reducible refine split_intro (fun h => ?_) (fun h => ?_))) <;> conv => whnf)
              · rw [yes (.inr ⟨g2, by omega⟩)]
                ((first | (with_reducible refine split_et rfl ?_) | (with_reducible refine split_bf rfl ?_) | (with_reducible refine split_t (beq_self_eq_true _) ?_) | (with_reducible refine split_f (bne_self_eq_false _) ?_)); conv => whnf)
                ((try ((refine Exists.intro none ?_); (conv => whnf))); first | ((with_reducible refine call_by (c_wakes14) ?_); conv => whnf))
                exact exit_plain rfl rfl
              · rw [e3 (by unfold keyLt; omega)]
                ((first | (with_reducible refine split_et rfl ?_) | (with_reducible refine split_bf rfl ?_) | (with_reducible refine split_t (beq_self_eq_true _) ?_) | (with_reducible refine split_f (bne_self_eq_false _) ?_)); conv => whnf)
                ((try ((refine Exists.intro none ?_); (conv => whnf))); first | ((with_reducible refine call_by (c_wakes14) ?_); conv => whnf))
                exact exit_plain rfl rfl
            · rw [e3 (by unfold keyLt; omega)]
              ((first | (with_reducible refine split_et rfl ?_) | (with_reducible refine split_bf rfl ?_) | (with_reducible refine split_t (beq_self_eq_true _) ?_) | (with_reducible refine split_f (bne_self_eq_false _) ?_)); conv => whnf)
              ((try ((refine Exists.intro none ?_); (conv => whnf))); first | ((with_reducible refine call_by (c_wakes14) ?_); conv => whnf))
              exact exit_plain rfl rfl

theorem told_PlaceMore (qs : List PV) (h : ArgsOf Try.prog [22, 30, 3] qs) : Ctr Try.prog 4 qs (bv true) [] := by
  obtain ⟨p1, qs, rfl, h1, h⟩ := argsOf_cons h
  obtain ⟨p2, qs, rfl, h2, h⟩ := argsOf_cons h
  obtain ⟨p3, qs, rfl, h3, h⟩ := argsOf_cons h
  obtain rfl := argsOf_nil h
  obtain ⟨l, rfl, _⟩ := arg_Pls h1
  obtain ⟨p, rfl, _⟩ := arg_Pl h2
  obtain ⟨bits, rfl, _⟩ := arg_i h3
  exact l_PlaceMore l p bits
end Go.Proofs
