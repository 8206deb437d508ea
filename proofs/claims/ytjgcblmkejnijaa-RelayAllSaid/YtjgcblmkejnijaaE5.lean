/- Contracts of functions: what a proxy opens. -/
import Derived.Test.YtjgcblmkejnijaaE4
set_option linter.unusedSimpArgs false
set_option linter.unusedVariables false
namespace Go.Proofs
open Go.Pv
set_option maxRecDepth 100000

theorem MgS.ok {x : Mg} (h : MgS x) : ∃ zs : List Mg, x.inner = zs.map Mg.enc ∧ zs.length * 176 ≤ 140737488351232 ∧ ∀ z ∈ zs, MgS z := by
  obtain ⟨n, hn⟩ := h
  cases n with
  | zero => exact hn.elim
  | succ n =>
    obtain ⟨y, hy, hok, hz, hin⟩ := typedS_Mg hn
    have e : x.inner = y.inner := (PV.sl.inj (Option.some.inj (congrArg (fun l : List PV => l[15]?) hy))).2
    obtain ⟨zs, h1, h2⟩ := rows_map (f := Mg.enc) (ok := MgS) (rows := y.inner) fun r hr => by
      obtain ⟨k, hk, ht⟩ := hin r hr
      cases k with
      | zero => exact ht.elim
      | succ k =>
        obtain ⟨z, hz, _⟩ := typedS_Mg ht
        exact ⟨z, hz, ⟨k + 1, hz ▸ ht⟩⟩
    have := hz.inn
    rw [h1, List.length_map] at this
    exact ⟨zs, e.trans h1, this, h2⟩
theorem MgS.ok2 {x : Mg} (h : MgS x) : MgSz x ∧ ∃ y : Mg, x.enc = y.enc ∧ y.ok := by
  obtain ⟨n, hn⟩ := h
  cases n with
  | zero => exact hn.elim
  | succ n =>
    obtain ⟨y, hy, hok, hz, hin⟩ := typedS_Mg hn
    have l1 : x.entries.length = y.entries.length := by
      have := congrArg List.length (PV.sl.inj (Option.some.inj (congrArg (fun l : List PV => l[9]?) hy))).2
      rwa [List.length_map, List.length_map] at this
    have l2 : x.snap.length = y.snap.length := by
      have := congrArg List.length (PV.sl.inj (Option.some.inj (congrArg (fun l : List PV => l[14]?) hy))).2
      rwa [List.length_map, List.length_map] at this
    have l3 : x.inner = y.inner := (PV.sl.inj (Option.some.inj (congrArg (fun l : List PV => l[15]?) hy))).2
    exact ⟨⟨by rw [l1]; exact hz.es, by rw [l2]; exact hz.sn, by rw [l3]; exact hz.inn⟩, y, hy, hok⟩

def isOwn (id : Int) (x : Mg) : Bool := if x.kind = 9 then false else decide (x.to = id)
def isOn (id : Int) (x : Mg) : Bool := if x.kind = 9 then false else !decide (x.to = id)
def fl (p : Mg → Bool) (l : List Mg) (i : Nat) : List (List PV) := ((l.take i).filter p).map Mg.enc
theorem fl_len (p : Mg → Bool) (l : List Mg) (i : Nat) : (fl p l i).length ≤ i := by
  unfold fl
  rw [List.length_map]
  exact Nat.le_trans (List.length_filter_le _ _) (by rw [List.length_take]; omega)
theorem fl_yes {p : Mg → Bool} {l : List Mg} {i : Nat} (h : i < l.length) (hp : p (l[i]'h) = true) : fl p l (i + 1) = fl p l i ++ [(l[i]'h).enc] := by
  unfold fl
  rw [List.take_succ_eq_append_getElem h, List.filter_append, List.map_append, List.filter_cons, if_pos hp]; rfl
theorem fl_no {p : Mg → Bool} {l : List Mg} {i : Nat} (h : i < l.length) (hp : p (l[i]'h) = false) : fl p l (i + 1) = fl p l i := by
  unfold fl
  rw [List.take_succ_eq_append_getElem h, List.filter_append, List.map_append, List.filter_cons, if_neg (by rw [hp]; decide)]; simp
theorem fl_all (p : Mg → Bool) (l : List Mg) : fl p l l.length = (l.filter p).map Mg.enc := by unfold fl; rw [List.take_length]

theorem c_OpenN (m : Mg) (id : Int) (h : ¬ (m.kind = 9 ∧ m.to = id)) : Ctr Try.prog 34 [.ag m.enc, iv id] (.tu [.nl, .nl]) [] := by
  refine spec_of_body mixed Try.func34 rfl (by kernel_rfl) (by kernel_rfl) ?_; conv => whnf
  ((first | (with_reducible refine split_dec (fun h => ?_) (fun h => ?_)) | (with_reducible refine split_beq (fun h => ?_) (fun h => ?_)) | (with_reducible refine split_bne (fun h => ?_) (fun h => ?_)) | (with_reducible refine split_not (fun h => ?_) (fun h => ?_)) | (with_reducible refine split_beqS (fun h => ?_) (fun h => ?_)) | (with_reducible refine split_intro (fun h => ?_) (fun h => ?_))) <;> conv => whnf)
  · exact exit_plain rfl rfl
  · have h1 := h
    ((first | (with_reducible refine split_dec (fun h => ?_) (fun h => ?_)) | (with_reducible refine split_beq (fun h => ?_) (fun h => ?_)) | (with_reducible refine split_bne (fun h => ?_) (fun h => ?_)) | (with_reducible refine split_not (fun h => ?_) (fun h => ?_)) | (with_reducible refine split_beqS (fun h => ?_) (fun h => ?_)) | (with_reducible refine split_intro (fun h => ?_) (fun h => ?_))) <;> conv => whnf)
    · exact exit_plain rfl rfl
    · exfalso; exact ‹¬ (m.kind = 9 ∧ m.to = id)› ⟨by first | exact h1 | exact Classical.byContradiction h1, by first | exact h | exact Classical.byContradiction h⟩
set_option maxHeartbeats 1000000 in
theorem c_OpenO (m : Mg) (zs : List Mg) (e : m.inner = zs.map Mg.enc) (hz : zs.length * 176 ≤ 140737488351232) (hs : ∀ z ∈ zs, MgS z) (h9 : m.kind = 9) : Ctr Try.prog 34 [.ag m.enc, iv m.to] (.tu [.ow 0 0 (fl (isOwn m.to) zs zs.length).length, .ow 1 0 (fl (isOn m.to) zs zs.length).length]) [(16, fl (isOwn m.to) zs zs.length), (16, fl (isOn m.to) zs zs.length)] := by
  have hlen : m.inner.length = zs.length := by rw [e, List.length_map]
  refine spec_of_body mixed Try.func34 rfl (by kernel_rfl) (by kernel_rfl) ?_; conv => whnf
  ((first | (with_reducible refine split_dec (fun h => ?_) (fun h => ?_)) | (with_reducible refine split_beq (fun h => ?_) (fun h => ?_)) | (with_reducible refine split_bne (fun h => ?_) (fun h => ?_)) | (with_reducible refine split_not (fun h => ?_) (fun h => ?_)) | (with_reducible refine split_beqS (fun h => ?_) (fun h => ?_)) | (with_reducible refine split_intro (fun h => ?_) (fun h => ?_))) <;> conv => whnf)
  · exact absurd h9 h
  clear h
  ((first | (with_reducible refine split_dec (fun h => ?_) (fun h => ?_)) | (with_reducible refine split_beq (fun h => ?_) (fun h => ?_)) | (with_reducible refine split_bne (fun h => ?_) (fun h => ?_)) | (with_reducible refine split_not (fun h => ?_) (fun h => ?_)) | (with_reducible refine split_beqS (fun h => ?_) (fun h => ?_)) | (with_reducible refine split_intro (fun h => ?_) (fun h => ?_))) <;> conv => whnf)
  · exact absurd rfl h
  clear h
  refine tri_born 4 1002 16 rfl rfl ?_
  conv => whnf
  refine tri_born 5 1003 16 rfl rfl ?_
  conv => whnf
  refine tri_forO mixed (by kernel_rfl) (fun i : Nat => i ≤ zs.length) (fun i => [(20, iv i), (4, .ow 1002 0 (fl (isOwn m.to) zs i).length), (5, .ow 1003 0 (fl (isOn m.to) zs i).length)]) (fun _ => [(2, m.enc)]) (fun i => [(1002, some (false, 16, fl (isOwn m.to) zs i)), (1003, some (false, 16, fl (isOn m.to) zs i))]) [(1002, 1002), (1003, 1003)] (fun i => zs.length - i) 0 (Nat.zero_le _) ?_ ?_
  · conv => whnf
    (refine And.intro (And.intro (by with_unfolding_all rfl) (by intro q h; cases h)) ?_; refine And.intro ?_ (And.intro ?_ ?_) <;> (conv => whnf) <;> (repeat' (first | exact True.intro | (with_reducible exact rfl) | exact (rfl : List.replicate 0 PV.bad = []) | ((with_reducible refine And.intro ?_ ?_) <;> (first | (with_reducible exact wkV_same _ rfl) | exact wkV_pt rfl rfl | exact wkV_ow rfl rfl rfl | (refine wkV_ow rfl rfl ?_) | (refine wkV_sc (congrArg (Value.int .i64) ?_)) | (refine wkV_sc (congrArg Value.bool ?_)) | exact wkV_ls rfl | ((refine wkV_cl ?_); conv => whnf) | ((refine wkV_tu ?_); conv => whnf) | ((refine wkV_ag ?_); conv => whnf) | (conv => whnf))))))
    all_goals first | rfl | trace_state
  intro i hi
  have l1 := fl_len (isOwn m.to) zs i
  have l2 := fl_len (isOn m.to) zs i
  conv => whnf
  ((first | (with_reducible refine split_dec (fun h => ?_) (fun h => ?_)) | (with_reducible refine split_beq (fun h => ?_) (fun h => ?_)) | (with_reducible refine split_bne (fun h => ?_) (fun h => ?_)) | (with_reducible refine split_not (fun h => ?_) (fun h => ?_)) | (with_reducible refine split_beqS (fun h => ?_) (fun h => ?_)) | (with_reducible refine split_intro (fun h => ?_) (fun h => ?_))) <;> conv => whnf)
  · have hlt : i < zs.length := by rw [hlen] at h; omega
    clear h
    have hrow : m.inner[((i : Nat) : Int).toNat]? = some (zs[i]'hlt).enc := by rw [e]; exact row_at hlt
    have hc := c_rtwin _ (hs _ (List.getElem_mem hlt))
    have y1 := fl_yes (p := isOwn m.to) hlt
    have n1 := fl_no (p := isOwn m.to) hlt
    have y2 := fl_yes (p := isOn m.to) hlt
    have n2 := fl_no (p := isOn m.to) hlt
    generalize zs[i]'hlt = x at *
    refine ⟨by omega, _, hrow, ?_⟩
    conv => whnf
    ((first | (with_reducible refine split_dec (fun h => ?_) (fun h => ?_)) | (with_reducible refine split_beq (fun h => ?_) (fun h => ?_)) | (with_reducible refine split_bne (fun h => ?_) (fun h => ?_)) | (with_reducible refine split_not (fun h => ?_) (fun h => ?_)) | (with_reducible refine split_beqS (fun h => ?_) (fun h => ?_)) | (with_reducible refine split_intro (fun h => ?_) (fun h => ?_))) <;> conv => whnf)
    · have a1 := n1 (by unfold isOwn; rw [if_pos h])
      have a2 := n2 (by unfold isOn; rw [if_pos h])
      refine ⟨i + 1, [(1002, 1002), (1003, 1003)], ⟨by omega, by omega⟩, ?_⟩
      rw [a1, a2]
      conv => whnf
      (refine And.intro (And.intro (by with_unfolding_all rfl) (by intro q h; cases h)) ?_; refine And.intro ?_ (And.intro ?_ ?_) <;> (conv => whnf) <;> (repeat' (first | exact True.intro | (with_reducible exact rfl) | exact (rfl : List.replicate 0 PV.bad = []) | ((with_reducible refine And.intro ?_ ?_) <;> (first | (with_reducible exact wkV_same _ rfl) | exact wkV_pt rfl rfl | exact wkV_ow rfl rfl rfl | (refine wkV_ow rfl rfl ?_) | (refine wkV_sc (congrArg (Value.int .i64) ?_)) | (refine wkV_sc (congrArg Value.bool ?_)) | exact wkV_ls rfl | ((refine wkV_cl ?_); conv => whnf) | ((refine wkV_tu ?_); conv => whnf) | ((refine wkV_ag ?_); conv => whnf) | (conv => whnf))))))
      all_goals first | (show IntKind.i64.wrap ((i : Int) + 1) = ((i + 1 : Nat) : Int); exact w1 (by omega)) | rfl | trace_state
    have h9x : ¬ x.kind = 9 := h
    ((first | (with_reducible refine split_dec (fun h => ?_) (fun h => ?_)) | (with_reducible refine split_beq (fun h => ?_) (fun h => ?_)) | (with_reducible refine split_bne (fun h => ?_) (fun h => ?_)) | (with_reducible refine split_not (fun h => ?_) (fun h => ?_)) | (with_reducible refine split_beqS (fun h => ?_) (fun h => ?_)) | (with_reducible refine split_intro (fun h => ?_) (fun h => ?_))) <;> conv => whnf)
    · have a1 := y1 (by unfold isOwn; rw [if_neg h9x, decide_eq_true h])
      have a2 := n2 (by unfold isOn; rw [if_neg h9x, decide_eq_true h]; rfl)
      ((try ((refine Exists.intro none ?_); (conv => whnf))); first | ((with_reducible refine call_by (hc) ?_); conv => whnf))
      (refine Exists.intro _ (And.intro rfl (And.intro (by intro q _; simp only [List.length_nil]; omega) (And.intro (by intro i hi; exact absurd hi (Nat.not_lt_zero i)) ?_))); conv => whnf)
      have b1 : ((fl (isOwn m.to) zs i).length + 1) * 176 ≤ 140737488355328 := by omega
      have b2 : (fl (isOwn m.to) zs i).length + 1 ≤ maxLen := leMax (by omega)
      (refine And.intro rfl ?_; (conv => whnf); refine And.intro (And.intro (And.intro (by kernel_rfl) (And.intro (Nat.le_refl _) (And.intro (b1) (And.intro (b2) (by intro r hr; rw [List.mem_singleton.1 hr]; rfl))))) (And.intro (by decide) rfl)) ?_; conv => whnf)
      refine ⟨i + 1, [(1002, 672), (1003, 1003)], ⟨by omega, by omega⟩, ?_⟩
      rw [a1, a2]
      conv => whnf
      (refine And.intro (And.intro (by with_unfolding_all rfl) (by intro q h; cases h)) ?_; refine And.intro ?_ (And.intro ?_ ?_) <;> (conv => whnf) <;> (repeat' (first | exact True.intro | (with_reducible exact rfl) | exact (rfl : List.replicate 0 PV.bad = []) | ((with_reducible refine And.intro ?_ ?_) <;> (first | (with_reducible exact wkV_same _ rfl) | exact wkV_pt rfl rfl | exact wkV_ow rfl rfl rfl | (refine wkV_ow rfl rfl ?_) | (refine wkV_sc (congrArg (Value.int .i64) ?_)) | (refine wkV_sc (congrArg Value.bool ?_)) | exact wkV_ls rfl | ((refine wkV_cl ?_); conv => whnf) | ((refine wkV_tu ?_); conv => whnf) | ((refine wkV_ag ?_); conv => whnf) | (conv => whnf))))))
      all_goals first | (show IntKind.i64.wrap ((i : Int) + 1) = ((i + 1 : Nat) : Int); exact w1 (by omega)) | (refine obj_eq (by kernel_rfl) ?_; rw [List.take_of_length_le (Nat.le_refl _)]; done) | (refine obj_eq (by kernel_rfl) ?_; rw [List.take_of_length_le (Nat.le_refl _)]; rfl) | (rw [List.length_append]; done) | (rw [List.length_append]; rfl) | rfl | trace_state
    · have a1 := n1 (by unfold isOwn; rw [if_neg h9x, decide_eq_false h])
      have a2 := y2 (by unfold isOn; rw [if_neg h9x, decide_eq_false h]; rfl)
      ((try ((refine Exists.intro none ?_); (conv => whnf))); first | ((with_reducible refine call_by (hc) ?_); conv => whnf))
      (refine Exists.intro _ (And.intro rfl (And.intro (by intro q _; simp only [List.length_nil]; omega) (And.intro (by intro i hi; exact absurd hi (Nat.not_lt_zero i)) ?_))); conv => whnf)
      have b1 : ((fl (isOn m.to) zs i).length + 1) * 176 ≤ 140737488355328 := by omega
      have b2 : (fl (isOn m.to) zs i).length + 1 ≤ maxLen := leMax (by omega)
      (refine And.intro rfl ?_; (conv => whnf); refine And.intro (And.intro (And.intro (by kernel_rfl) (And.intro (Nat.le_refl _) (And.intro (b1) (And.intro (b2) (by intro r hr; rw [List.mem_singleton.1 hr]; rfl))))) (And.intro (by decide) rfl)) ?_; conv => whnf)
      refine ⟨i + 1, [(1002, 1002), (1003, 448)], ⟨by omega, by omega⟩, ?_⟩
      rw [a1, a2]
      conv => whnf
      (refine And.intro (And.intro (by with_unfolding_all rfl) (by intro q h; cases h)) ?_; refine And.intro ?_ (And.intro ?_ ?_) <;> (conv => whnf) <;> (repeat' (first | exact True.intro | (with_reducible exact rfl) | exact (rfl : List.replicate 0 PV.bad = []) | ((with_reducible refine And.intro ?_ ?_) <;> (first | (with_reducible exact wkV_same _ rfl) | exact wkV_pt rfl rfl | exact wkV_ow rfl rfl rfl | (refine wkV_ow rfl rfl ?_) | (refine wkV_sc (congrArg (Value.int .i64) ?_)) | (refine wkV_sc (congrArg Value.bool ?_)) | exact wkV_ls rfl | ((refine wkV_cl ?_); conv => whnf) | ((refine wkV_tu ?_); conv => whnf) | ((refine wkV_ag ?_); conv => whnf) | (conv => whnf))))))
      all_goals first | (show IntKind.i64.wrap ((i : Int) + 1) = ((i + 1 : Nat) : Int); exact w1 (by omega)) | (refine obj_eq (by kernel_rfl) ?_; rw [List.take_of_length_le (Nat.le_refl _)]; done) | (refine obj_eq (by kernel_rfl) ?_; rw [List.take_of_length_le (Nat.le_refl _)]; rfl) | (rw [List.length_append]; done) | (rw [List.length_append]; rfl) | rfl | trace_state
  · have ei : i = zs.length := by rw [hlen] at h; omega
    subst ei
    exact exit_own [(0, 1002), (1, 1003)] rfl ⟨rfl, rfl, True.intro⟩ (wkV_tu ⟨wkV_ow rfl rfl rfl, wkV_ow rfl rfl rfl, rfl⟩)
end Go.Proofs
