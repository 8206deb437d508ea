/- RelayOpens: of a relayed message just what is for the proxy is its own, all else goes on. -/
import Derived.Test.YtjgcblmkejnijaaE9
set_option linter.unusedSimpArgs false
set_option linter.unusedVariables false
namespace Go.Proofs
open Go.Pv
set_option maxRecDepth 100000

theorem fl_at {p : Mg → Bool} {l : List Mg} {i : Nat} (h : i < l.length) (hp : p (l[i]'h) = true) : (fl p l l.length)[(fl p l i).length]? = some (l[i]'h).enc ∧ (fl p l i).length < (fl p l l.length).length := by
  have e : fl p l l.length = fl p l i ++ (l[i]'h).enc :: ((l.drop (i + 1)).filter p).map Mg.enc := by
    unfold fl
    rw [List.take_length]
    conv => lhs; rw [← List.take_append_drop i l, List.drop_eq_getElem_cons h]
    rw [List.filter_append, List.filter_cons, if_pos hp, List.map_append]; rfl
  rw [e]
  refine ⟨?_, by rw [List.length_append, List.length_cons]; omega⟩
  rw [List.getElem?_append_right (Nat.le_refl _), Nat.sub_self]; rfl

set_option maxHeartbeats 1000000 in
theorem l_RelayOpens (m : Mg) (hm : MgS m) (id : Int) : Ctr Try.prog 10 [.ag m.enc, iv id] (bv true) [] := by
  obtain ⟨b, hb⟩ := c_heavyS m hm
  cases b with
  | true =>
    refine spec_of_body mixed Try.func10 rfl (by kernel_rfl) (by kernel_rfl) ?_; conv => whnf
    ((try ((refine Exists.intro none ?_); (conv => whnf))); first | ((with_reducible refine call_by (hb) ?_); conv => whnf))
    exact exit_plain rfl rfl
  | false =>
  by_cases hk : m.kind = 9 ∧ m.to = id
  · obtain ⟨h9, rfl⟩ := hk
    obtain ⟨zs, e, hz, hs⟩ := hm.ok
    have hlen : m.inner.length = zs.length := by rw [e, List.length_map]
    have ko : Ctr Try.prog 34 [.ag m.enc, iv m.to] (.tu [.sl 16 (fl (isOwn m.to) zs zs.length), .sl 16 (fl (isOn m.to) zs zs.length)]) [] :=
      (c_OpenO m zs e hz hs h9).frz (wkV_tu ⟨wkV_fz (b := false) (List.Mem.head _) rfl, wkV_fz (b := false) (List.Mem.tail _ (List.Mem.head _)) rfl, rfl⟩)
    have hf1 := fl_len (isOwn m.to) zs zs.length
    have hf2 := fl_len (isOn m.to) zs zs.length
    refine spec_of_body mixed Try.func10 rfl (by kernel_rfl) (by kernel_rfl) ?_; conv => whnf
    ((try ((refine Exists.intro none ?_); (conv => whnf))); first | ((with_reducible refine call_by (hb) ?_); conv => whnf))
    ((try ((refine Exists.intro none ?_); (conv => whnf))); first | ((with_reducible refine call_by (ko) ?_); conv => whnf))
    (refine Exists.intro _ (And.intro rfl (And.intro (by intro q _; simp only [List.length_nil]; omega) (And.intro (by intro i hi; exact absurd hi (Nat.not_lt_zero i)) ?_))); conv => whnf)
    ((first | (first | (with_reducible refine split_dt (by assumption) ?_) | (with_reducible refine split_df (by assumption) ?_) | (with_reducible refine split_et (by assumption) ?_) | (with_reducible refine split_ef (by assumption) ?_) | (with_reducible refine split_bt (by assumption) ?_) | (with_reducible refine split_bf (by assumption) ?_) | (with_reducible refine split_nt (by assumption) ?_) | (with_reducible refine split_nf (by assumption) ?_) | (with_reducible refine split_t (by assumption) ?_) | (with_reducible refine split_f (by assumption) ?_)) | (first | (with_reducible refine split_dec (fun h => ?_) (fun h => ?_)) | (with_reducible refine split_beq (fun h => ?_) (fun h => ?_)) | (with_reducible refine split_bne (fun h => ?_) (fun h => ?_)) | (with_reducible refine split_not (fun h => ?_) (fun h => ?_)) | (with_reducible refine split_beqS (fun h => ?_) (fun h => ?_)) | (with_reducible refine split_intro (fun h => ?_) (fun h => ?_)))) <;> conv => whnf)
    ((first | (with_reducible refine split_et rfl ?_) | (with_reducible refine split_bf rfl ?_) | (with_reducible refine split_t (beq_self_eq_true _) ?_) | (with_reducible refine split_f (bne_self_eq_false _) ?_)); conv => whnf)
    refine tri_for0 mixed (by kernel_rfl) (fun i : Nat => i ≤ zs.length) (fun i => [(9, iv i), (7, iv (fl (isOwn m.to) zs i).length), (8, iv (fl (isOn m.to) zs i).length)]) [] (fun i => zs.length - i) 0 (Nat.zero_le _) ?_ ?_
    · conv => whnf
      (refine And.intro (And.intro (by with_unfolding_all rfl) (by intro q h; cases h)) ?_; refine And.intro ?_ (And.intro ?_ ?_) <;> (conv => whnf) <;> (repeat' (first | exact True.intro | (with_reducible exact rfl) | exact (rfl : List.replicate 0 PV.bad = []) | ((with_reducible refine And.intro ?_ ?_) <;> (first | (with_reducible exact wkV_same _ rfl) | exact wkV_pt rfl rfl | exact wkV_ow rfl rfl rfl | (refine wkV_ow rfl rfl ?_) | (refine wkV_sc (congrArg (Value.int .i64) ?_)) | (refine wkV_sc (congrArg Value.bool ?_)) | exact wkV_ls rfl | ((refine wkV_cl ?_); conv => whnf) | ((refine wkV_tu ?_); conv => whnf) | ((refine wkV_ag ?_); conv => whnf) | (conv => whnf))))))
      all_goals rfl
    intro i hi
    have l1 := fl_len (isOwn m.to) zs i
    have l2 := fl_len (isOn m.to) zs i
    conv => whnf
    ((first | (with_reducible refine split_dec (fun h => ?_) (fun h => ?_)) | (with_reducible refine split_beq (fun h => ?_) (fun h => ?_)) | (with_reducible refine split_bne (fun h => ?_) (fun h => ?_)) | (with_reducible refine split_not (fun h => ?_) (fun h => ?_)) | (with_reducible refine split_beqS (fun h => ?_) (fun h => ?_)) | (with_reducible refine split_intro (fun h => ?_) (fun h => ?_))) <;> conv => whnf)
    · have hlt : i < zs.length := by rw [hlen] at h; omega
      clear h
      have hrow : m.inner[((i : Nat) : Int).toNat]? = some (zs[i]'hlt).enc := by rw [e]; exact row_at hlt
      have kc := s_MsgS _ (hs _ (List.getElem_mem hlt))
      have y1 := fl_yes (p := isOwn m.to) hlt
      have n1 := fl_no (p := isOwn m.to) hlt
      have y2 := fl_yes (p := isOn m.to) hlt
      have n2 := fl_no (p := isOn m.to) hlt
      have t1 := fl_at (p := isOwn m.to) hlt
      have t2 := fl_at (p := isOn m.to) hlt
      generalize zs[i]'hlt = x at *
      refine ⟨by omega, _, hrow, ?_⟩
      conv => whnf
      ((first | (with_reducible refine split_dec (fun h => ?_) (fun h => ?_)) | (with_reducible refine split_beq (fun h => ?_) (fun h => ?_)) | (with_reducible refine split_bne (fun h => ?_) (fun h => ?_)) | (with_reducible refine split_not (fun h => ?_) (fun h => ?_)) | (with_reducible refine split_beqS (fun h => ?_) (fun h => ?_)) | (with_reducible refine split_intro (fun h => ?_) (fun h => ?_))) <;> conv => whnf)
      · have a1 := n1 (by unfold isOwn; rw [if_pos h])
        have a2 := n2 (by unfold isOn; rw [if_pos h])
        refine ⟨i + 1, ⟨by omega, by omega⟩, ?_⟩
        rw [a1, a2]
        conv => whnf
        (refine And.intro (And.intro (by with_unfolding_all rfl) (by intro q h; cases h)) ?_; refine And.intro ?_ (And.intro ?_ ?_) <;> (conv => whnf) <;> (repeat' (first | exact True.intro | (with_reducible exact rfl) | exact (rfl : List.replicate 0 PV.bad = []) | ((with_reducible refine And.intro ?_ ?_) <;> (first | (with_reducible exact wkV_same _ rfl) | exact wkV_pt rfl rfl | exact wkV_ow rfl rfl rfl | (refine wkV_ow rfl rfl ?_) | (refine wkV_sc (congrArg (Value.int .i64) ?_)) | (refine wkV_sc (congrArg Value.bool ?_)) | exact wkV_ls rfl | ((refine wkV_cl ?_); conv => whnf) | ((refine wkV_tu ?_); conv => whnf) | ((refine wkV_ag ?_); conv => whnf) | (conv => whnf))))))
        all_goals first | exact w1 (by omega) | rfl
      have h9x : ¬ x.kind = 9 := h
      clear h
      ((first | (with_reducible refine split_dec (fun h => ?_) (fun h => ?_)) | (with_reducible refine split_beq (fun h => ?_) (fun h => ?_)) | (with_reducible refine split_bne (fun h => ?_) (fun h => ?_)) | (with_reducible refine split_not (fun h => ?_) (fun h => ?_)) | (with_reducible refine split_beqS (fun h => ?_) (fun h => ?_)) | (with_reducible refine split_intro (fun h => ?_) (fun h => ?_))) <;> conv => whnf)
      · have hp : isOwn m.to x = true := by unfold isOwn; rw [if_neg h9x, decide_eq_true h]
        have a1 := y1 hp
        have a2 := n2 (by unfold isOn; rw [if_neg h9x, decide_eq_true h]; rfl)
        obtain ⟨g1, g2⟩ := t1 hp
        clear h
        rw [decide_eq_false (show ¬ ((fl (isOwn m.to) zs zs.length).length : Int) ≤ ((fl (isOwn m.to) zs i).length : Int) by omega)]
        conv => whnf
        refine ⟨by omega, _, (by rw [Int.toNat_natCast]; exact g1), ?_⟩
        conv => whnf
        ((try ((refine Exists.intro none ?_); (conv => whnf))); first | ((with_reducible refine call_by (kc) ?_); conv => whnf))
        refine ⟨i + 1, ⟨by omega, by omega⟩, ?_⟩
        rw [a1, a2]
        conv => whnf
        (refine And.intro (And.intro (by with_unfolding_all rfl) (by intro q h; cases h)) ?_; refine And.intro ?_ (And.intro ?_ ?_) <;> (conv => whnf) <;> (repeat' (first | exact True.intro | (with_reducible exact rfl) | exact (rfl : List.replicate 0 PV.bad = []) | ((with_reducible refine And.intro ?_ ?_) <;> (first | (with_reducible exact wkV_same _ rfl) | exact wkV_pt rfl rfl | exact wkV_ow rfl rfl rfl | (refine wkV_ow rfl rfl ?_) | (refine wkV_sc (congrArg (Value.int .i64) ?_)) | (refine wkV_sc (congrArg Value.bool ?_)) | exact wkV_ls rfl | ((refine wkV_cl ?_); conv => whnf) | ((refine wkV_tu ?_); conv => whnf) | ((refine wkV_ag ?_); conv => whnf) | (conv => whnf))))))
        all_goals first | exact w1 (by omega) | (rw [List.length_append]; exact w1 (by omega)) | rfl
      · have hp : isOn m.to x = true := by unfold isOn; rw [if_neg h9x, decide_eq_false h]; rfl
        have a1 := n1 (by unfold isOwn; rw [if_neg h9x, decide_eq_false h])
        have a2 := y2 hp
        obtain ⟨g1, g2⟩ := t2 hp
        clear h
        rw [decide_eq_false (show ¬ ((fl (isOn m.to) zs zs.length).length : Int) ≤ ((fl (isOn m.to) zs i).length : Int) by omega)]
        conv => whnf
        refine ⟨by omega, _, (by rw [Int.toNat_natCast]; exact g1), ?_⟩
        conv => whnf
        ((try ((refine Exists.intro none ?_); (conv => whnf))); first | ((with_reducible refine call_by (kc) ?_); conv => whnf))
        refine ⟨i + 1, ⟨by omega, by omega⟩, ?_⟩
        rw [a1, a2]
        conv => whnf
        (refine And.intro (And.intro (by with_unfolding_all rfl) (by intro q h; cases h)) ?_; refine And.intro ?_ (And.intro ?_ ?_) <;> (conv => whnf) <;> (repeat' (first | exact True.intro | (with_reducible exact rfl) | exact (rfl : List.replicate 0 PV.bad = []) | ((with_reducible refine And.intro ?_ ?_) <;> (first | (with_reducible exact wkV_same _ rfl) | exact wkV_pt rfl rfl | exact wkV_ow rfl rfl rfl | (refine wkV_ow rfl rfl ?_) | (refine wkV_sc (congrArg (Value.int .i64) ?_)) | (refine wkV_sc (congrArg Value.bool ?_)) | exact wkV_ls rfl | ((refine wkV_cl ?_); conv => whnf) | ((refine wkV_tu ?_); conv => whnf) | ((refine wkV_ag ?_); conv => whnf) | (conv => whnf))))))
        all_goals first | exact w1 (by omega) | (rw [List.length_append]; exact w1 (by omega)) | rfl
    · have ei : i = zs.length := by rw [hlen] at h; omega
      subst ei
      clear h
      ((first | (with_reducible refine split_et rfl ?_) | (with_reducible refine split_bf rfl ?_) | (with_reducible refine split_t (beq_self_eq_true _) ?_) | (with_reducible refine split_f (bne_self_eq_false _) ?_)); conv => whnf)
      ((first | (with_reducible refine split_et rfl ?_) | (with_reducible refine split_bf rfl ?_) | (with_reducible refine split_t (beq_self_eq_true _) ?_) | (with_reducible refine split_f (bne_self_eq_false _) ?_)); conv => whnf)
      ((try ((refine Exists.intro none ?_); (conv => whnf))); first | ((with_reducible refine call_by (c_wakes19) ?_); conv => whnf))
      exact exit_plain rfl rfl
  · have ko := c_OpenN m id hk
    refine spec_of_body mixed Try.func10 rfl (by kernel_rfl) (by kernel_rfl) ?_; conv => whnf
    ((try ((refine Exists.intro none ?_); (conv => whnf))); first | ((with_reducible refine call_by (hb) ?_); conv => whnf))
    ((try ((refine Exists.intro none ?_); (conv => whnf))); first | ((with_reducible refine call_by (ko) ?_); conv => whnf))
    ((first | (with_reducible refine split_dec (fun h => ?_) (fun h => ?_)) | (with_reducible refine split_beq (fun h => ?_) (fun h => ?_)) | (with_reducible refine split_bne (fun h => ?_) (fun h => ?_)) | (with_reducible refine split_not (fun h => ?_) (fun h => ?_)) | (with_reducible refine split_beqS (fun h => ?_) (fun h => ?_)) | (with_reducible refine split_intro (fun h => ?_) (fun h => ?_))) <;> conv => whnf)
    · ((try ((refine Exists.intro none ?_); (conv => whnf))); first | ((with_reducible refine call_by (c_wakes19) ?_); conv => whnf))
      exact exit_plain rfl rfl
    · have h1 : m.kind = 9 := by first | exact h | exact Classical.byContradiction h
      clear h
      ((first | (with_reducible refine split_dec (fun h => ?_) (fun h => ?_)) | (with_reducible refine split_beq (fun h => ?_) (fun h => ?_)) | (with_reducible refine split_bne (fun h => ?_) (fun h => ?_)) | (with_reducible refine split_not (fun h => ?_) (fun h => ?_)) | (with_reducible refine split_beqS (fun h => ?_) (fun h => ?_)) | (with_reducible refine split_intro (fun h => ?_) (fun h => ?_))) <;> conv => whnf)
      · ((try ((refine Exists.intro none ?_); (conv => whnf))); first | ((with_reducible refine call_by (c_wakes19) ?_); conv => whnf))
        exact exit_plain rfl rfl
      · exact absurd ⟨h1, by first | exact h | exact Classical.byContradiction h⟩ hk
theorem argS_Mg {p : PV} (h : ArgOfS Try.prog 58 p) : ∃ x : Mg, p = .ag x.enc ∧ MgS x := by
  obtain ⟨ls, rfl, n, hn⟩ := argOfS_agg (by kernel_rfl) h
  cases n with
  | zero => exact hn.elim
  | succ n =>
    obtain ⟨x, rfl, _⟩ := typedS_Mg hn
    exact ⟨x, rfl, n + 1, hn⟩
theorem told_RelayOpens (qs : List PV) (h : ArgsOfS Try.prog [58, 3] qs) : Ctr Try.prog 10 qs (bv true) [] := by
  obtain ⟨p1, qs, rfl, h1, h⟩ := argsOfS_cons h
  obtain ⟨p2, qs, rfl, h2, h⟩ := argsOfS_cons h
  obtain rfl := argsOfS_nil h
  obtain ⟨m, rfl, hm⟩ := argS_Mg h1
  obtain ⟨id, rfl, _⟩ := arg_i h2.arg
  exact l_RelayOpens m hm id
end Go.Proofs
