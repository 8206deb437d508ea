/- RelayAll: what is bundled, and opened by the proxies, is what was to be sent: each message once, to each node. -/
import Derived.Test.YtjgcblmkejnijaaG3
import Derived.Test.YtjgcblmkejnijaaG4
import Derived.Test.YtjgcblmkejnijaaE9
import Derived.Test.YtjgcblmkejnijaaTRelayOpens
set_option linter.unusedSimpArgs false
set_option linter.unusedVariables false
namespace Go.Proofs
open Go.Pv
set_option maxRecDepth 100000

abbrev relM (frm px : Int) (g : List Mg) : Mg := ⟨9, frm, px, 0, 0, 0, 0, 0, false, [], ⟨0, 0, 0, 0⟩, [], g.map Mg.enc⟩
def pfx (to : Int) (T : List (Mg ⊕ Int × List Mg)) (i : Nat) : List Mg := (T.take i).flatMap (gotT to)
theorem pfx_succ (to : Int) {T : List (Mg ⊕ Int × List Mg)} {i : Nat} (h : i < T.length) : pfx to T (i + 1) = pfx to T i ++ gotT to (T[i]'h) := by
  unfold pfx
  rw [List.take_succ_eq_append_getElem h, List.flatMap_append]; simp
theorem pfx_len (to : Int) (T : List (Mg ⊕ Int × List Mg)) (i : Nat) : (pfx to T i).length ≤ (T.flatMap (gotT to)).length := by
  unfold pfx
  conv => rhs; rw [← List.take_append_drop i T, List.flatMap_append, List.length_append]
  omega
theorem fl_len2 (p : Mg → Bool) (l : List Mg) (i : Nat) : (fl p l i).length ≤ l.length := by
  unfold fl
  rw [List.length_map]
  have := List.length_filter_le p (l.take i)
  rw [List.length_take] at this
  omega

set_option maxHeartbeats 8000000 in
theorem l_RelayAll (l : List Mg) (hs : ∀ m ∈ l, MgS m) (p : List Pl) (frm up : Int) : Ctr Try.prog 9 [.sl 16 (l.map Mg.enc), .sl 4 (p.map Pl.enc), iv frm, iv up] (bv true) [] := by
  rcases c_heavy19 l hs with kh | ⟨kh, hl60⟩
  · refine spec_of_body mixed Try.func9 rfl (by kernel_rfl) (by kernel_rfl) ?_; conv => whnf
    ((try ((refine Exists.intro none ?_); (conv => whnf))); first | ((with_reducible refine call_by (kh) ?_); conv => whnf))
    exact exit_plain rfl rfl
  by_cases hp60 : 60 < p.length
  · refine spec_of_body mixed Try.func9 rfl (by kernel_rfl) (by kernel_rfl) ?_; conv => whnf
    ((try ((refine Exists.intro none ?_); (conv => whnf))); first | ((with_reducible refine call_by (kh) ?_); conv => whnf))
    ((first | (with_reducible refine split_dec (fun h => ?_) (fun h => ?_)) | (with_reducible refine split_beq (fun h => ?_) (fun h => ?_)) | (with_reducible refine split_bne (fun h => ?_) (fun h => ?_)) | (with_reducible refine split_not (fun h => ?_) (fun h => ?_)) | (with_reducible refine split_beqS (fun h => ?_) (fun h => ?_)) | (with_reducible refine split_intro (fun h => ?_) (fun h => ?_))) <;> conv => whnf)
    · exact exit_plain rfl rfl
    · exfalso; simp only [List.length_map] at h; omega
  refine spec_of_body mixed Try.func9 rfl (by kernel_rfl) (by kernel_rfl) ?_; conv => whnf
  ((try ((refine Exists.intro none ?_); (conv => whnf))); first | ((with_reducible refine call_by (kh) ?_); conv => whnf))
  ((first | (with_reducible refine split_dec (fun h => ?_) (fun h => ?_)) | (with_reducible refine split_beq (fun h => ?_) (fun h => ?_)) | (with_reducible refine split_bne (fun h => ?_) (fun h => ?_)) | (with_reducible refine split_not (fun h => ?_) (fun h => ?_)) | (with_reducible refine split_beqS (fun h => ?_) (fun h => ?_)) | (with_reducible refine split_intro (fun h => ?_) (fun h => ?_))) <;> conv => whnf)
  · exfalso; simp only [List.length_map] at h; omega
  clear h
  have hlm : (l.map Mg.enc).length = l.length := List.length_map ..
  -- all are to be sent to nodes; none is a relay
  refine tri_for0 mixed (by kernel_rfl) (fun i : Nat => i ≤ l.length ∧ ∀ j (hj : j < l.length), j < i → ¬ (l[j]'hj).kind = 9 ∧ 0 ≤ (l[j]'hj).to ∧ (l[j]'hj).to < 7) (fun i => [(9, iv i)]) [] (fun i => l.length - i) 0 ⟨Nat.zero_le _, fun j _ h => absurd h (Nat.not_lt_zero _)⟩ ?_ ?_
  · conv => whnf
    (refine And.intro (And.intro (by with_unfolding_all rfl) (by intro q h; cases h)) ?_; refine And.intro ?_ (And.intro ?_ ?_) <;> (conv => whnf) <;> (repeat' (first | exact True.intro | (with_reducible exact rfl) | exact (rfl : List.replicate 0 PV.bad = []) | ((with_reducible refine And.intro ?_ ?_) <;> (first | (with_reducible exact wkV_same _ rfl) | exact wkV_pt rfl rfl | exact wkV_ow rfl rfl rfl | (refine wkV_ow rfl rfl ?_) | (refine wkV_sc (congrArg (Value.int .i64) ?_)) | (refine wkV_sc (congrArg Value.bool ?_)) | exact wkV_ls rfl | ((refine wkV_cl ?_); conv => whnf) | ((refine wkV_tu ?_); conv => whnf) | ((refine wkV_ag ?_); conv => whnf) | (conv => whnf))))))
    all_goals first | rfl | trace_state
  rintro i ⟨hi, hall⟩
  conv => whnf
  ((first | (with_reducible refine split_dec (fun h => ?_) (fun h => ?_)) | (with_reducible refine split_beq (fun h => ?_) (fun h => ?_)) | (with_reducible refine split_bne (fun h => ?_) (fun h => ?_)) | (with_reducible refine split_not (fun h => ?_) (fun h => ?_)) | (with_reducible refine split_beqS (fun h => ?_) (fun h => ?_)) | (with_reducible refine split_intro (fun h => ?_) (fun h => ?_))) <;> conv => whnf)
  · have hlt : i < l.length := by omega
    clear h
    (first | ((with_reducible refine And.intro (by omega) (Exists.intro _ (And.intro (row_at hlt) ?_))); conv => whnf))
    ((first | (with_reducible refine split_dec (fun h => ?_) (fun h => ?_)) | (with_reducible refine split_beq (fun h => ?_) (fun h => ?_)) | (with_reducible refine split_bne (fun h => ?_) (fun h => ?_)) | (with_reducible refine split_not (fun h => ?_) (fun h => ?_)) | (with_reducible refine split_beqS (fun h => ?_) (fun h => ?_)) | (with_reducible refine split_intro (fun h => ?_) (fun h => ?_))) <;> conv => whnf)
    · exact exit_plain rfl rfl
    have h9 : ¬ (l[i]'hlt).kind = 9 := h
    clear h
    (first | ((with_reducible refine And.intro (by omega) (Exists.intro _ (And.intro (row_at hlt) ?_))); conv => whnf))
    ((try ((refine Exists.intro none ?_); (conv => whnf))); first | ((with_reducible refine call_by (c_Node (l[i]'hlt).to) ?_); conv => whnf))
    ((first | (with_reducible refine split_dec (fun h => ?_) (fun h => ?_)) | (with_reducible refine split_beq (fun h => ?_) (fun h => ?_)) | (with_reducible refine split_bne (fun h => ?_) (fun h => ?_)) | (with_reducible refine split_not (fun h => ?_) (fun h => ?_)) | (with_reducible refine split_beqS (fun h => ?_) (fun h => ?_)) | (with_reducible refine split_intro (fun h => ?_) (fun h => ?_))) <;> conv => whnf)
    · exact exit_plain rfl rfl
    have hto : 0 ≤ (l[i]'hlt).to ∧ (l[i]'hlt).to < 7 := by simp [withinB] at h; omega
    clear h
    refine ⟨i + 1, ⟨⟨by omega, fun j hj hji => ?_⟩, by omega⟩, ?_⟩
    · by_cases e : j = i
      · subst e; exact ⟨h9, hto⟩
      · exact hall j hj (by omega)
    conv => whnf
    (refine And.intro (And.intro (by with_unfolding_all rfl) (by intro q h; cases h)) ?_; refine And.intro ?_ (And.intro ?_ ?_) <;> (conv => whnf) <;> (repeat' (first | exact True.intro | (with_reducible exact rfl) | exact (rfl : List.replicate 0 PV.bad = []) | ((with_reducible refine And.intro ?_ ?_) <;> (first | (with_reducible exact wkV_same _ rfl) | exact wkV_pt rfl rfl | exact wkV_ow rfl rfl rfl | (refine wkV_ow rfl rfl ?_) | (refine wkV_sc (congrArg (Value.int .i64) ?_)) | (refine wkV_sc (congrArg Value.bool ?_)) | exact wkV_ls rfl | ((refine wkV_cl ?_); conv => whnf) | ((refine wkV_tu ?_); conv => whnf) | ((refine wkV_ag ?_); conv => whnf) | (conv => whnf))))))
    all_goals first | exact w1 (by omega) | rfl | trace_state
  have ei : i = l.length := by omega
  subst ei
  clear h hi
  have hall : ∀ m ∈ l, ¬ m.kind = 9 ∧ 0 ≤ m.to ∧ m.to < 7 := fun m hm => by
    obtain ⟨j, hj, rfl⟩ := List.getElem_of_mem hm
    exact hall j hj hj
  have htw : ∀ m ∈ l, Ctr Try.prog 73 [.ag m.enc] (.ag m.enc) [] := fun m hm => c_rtwin m (hs m hm)
  by_cases hok : plsB p = true ∧ 0 ≤ frm ∧ frm < 7
  · obtain ⟨hp, hf⟩ := hok
    have kb := c_Bundle l (by omega) htw p (by omega) hp frm up hf
    rw [outT_enc p frm up l l.length (Nat.le_refl _)] at kb
    have hTl : (outT p frm up l l.length).length ≤ l.length := by
      have := outR_len p frm up l l.length
      rw [outT_enc p frm up l l.length (Nat.le_refl _), List.length_map] at this
      exact this
    have hgp := fun to => got_perm p hp frm up l (fun m hm => (hall m hm).1) to
    have hrel := fun px g h => rel_ok p hp frm up l (px := px) (g := g) l.length (Nat.le_refl _) h
    have hstr := fun m h => str_ok p frm up l (m := m) l.length (Nat.le_refl _) h
    generalize outT p frm up l l.length = T at *
    have hgl : ∀ to i, (pfx to T i).length ≤ l.length := fun to i => by
      have h1 := pfx_len to T i
      have h2 := (hgp to).length_eq
      have h3 := List.length_filter_le (fun m : Mg => decide (m.to = to)) l
      omega
    have hTm : (T.map (encT frm)).length = T.length := List.length_map ..
    ((try ((refine Exists.intro none ?_); (conv => whnf))); first | ((with_reducible refine call_by (kb) ?_); conv => whnf))
    (refine Exists.intro _ (And.intro rfl (And.intro (by intro q _; simp only [List.length_nil]; omega) (And.intro (by intro i hi; exact absurd hi (Nat.not_lt_zero i)) ?_))); conv => whnf)
    refine tri_for0 mixed (by kernel_rfl) (fun t : Nat => t ≤ 7) (fun t => [(12, iv t)]) [] (fun t => 7 - t) 0 (Nat.zero_le _) ?_ ?_
    · conv => whnf
      (refine And.intro (And.intro (by with_unfolding_all rfl) (by intro q h; cases h)) ?_; refine And.intro ?_ (And.intro ?_ ?_) <;> (conv => whnf) <;> (repeat' (first | exact True.intro | (with_reducible exact rfl) | exact (rfl : List.replicate 0 PV.bad = []) | ((with_reducible refine And.intro ?_ ?_) <;> (first | (with_reducible exact wkV_same _ rfl) | exact wkV_pt rfl rfl | exact wkV_ow rfl rfl rfl | (refine wkV_ow rfl rfl ?_) | (refine wkV_sc (congrArg (Value.int .i64) ?_)) | (refine wkV_sc (congrArg Value.bool ?_)) | exact wkV_ls rfl | ((refine wkV_cl ?_); conv => whnf) | ((refine wkV_tu ?_); conv => whnf) | ((refine wkV_ag ?_); conv => whnf) | (conv => whnf))))))
      all_goals first | rfl | trace_state
    intro t ht
    conv => whnf
    ((first | (with_reducible refine split_dec (fun h => ?_) (fun h => ?_)) | (with_reducible refine split_beq (fun h => ?_) (fun h => ?_)) | (with_reducible refine split_bne (fun h => ?_) (fun h => ?_)) | (with_reducible refine split_not (fun h => ?_) (fun h => ?_)) | (with_reducible refine split_beqS (fun h => ?_) (fun h => ?_)) | (with_reducible refine split_intro (fun h => ?_) (fun h => ?_))) <;> conv => whnf)
    · have ht7 : t < 7 := by omega
      clear h
      refine tri_born 13 1002 16 rfl rfl ?_
      conv => whnf
      refine tri_born 14 1003 16 rfl rfl ?_
      conv => whnf
      -- what was to be sent to a node
      refine tri_forO mixed (by kernel_rfl) (fun i : Nat => i ≤ l.length) (fun i => [(15, iv i), (13, .ow 1002 0 (fl (fun m => decide (m.to = (t : Int))) l i).length)]) (fun _ => []) (fun i => [(1002, some (false, 16, fl (fun m => decide (m.to = (t : Int))) l i)), (1003, some (false, 16, []))]) [(1002, 1002), (1003, 1003)] (fun i => l.length - i) 0 (Nat.zero_le _) ?_ ?_
      · conv => whnf
        (refine And.intro (And.intro (by with_unfolding_all rfl) (by intro q h; cases h)) ?_; refine And.intro ?_ (And.intro ?_ ?_) <;> (conv => whnf) <;> (repeat' (first | exact True.intro | (with_reducible exact rfl) | exact (rfl : List.replicate 0 PV.bad = []) | ((with_reducible refine And.intro ?_ ?_) <;> (first | (with_reducible exact wkV_same _ rfl) | exact wkV_pt rfl rfl | exact wkV_ow rfl rfl rfl | (refine wkV_ow rfl rfl ?_) | (refine wkV_sc (congrArg (Value.int .i64) ?_)) | (refine wkV_sc (congrArg Value.bool ?_)) | exact wkV_ls rfl | ((refine wkV_cl ?_); conv => whnf) | ((refine wkV_tu ?_); conv => whnf) | ((refine wkV_ag ?_); conv => whnf) | (conv => whnf))))))
        all_goals first | rfl | trace_state
      intro i hi
      have hfl := fl_len2 (fun m => decide (m.to = (t : Int))) l i
      conv => whnf
      ((first | (with_reducible refine split_dec (fun h => ?_) (fun h => ?_)) | (with_reducible refine split_beq (fun h => ?_) (fun h => ?_)) | (with_reducible refine split_bne (fun h => ?_) (fun h => ?_)) | (with_reducible refine split_not (fun h => ?_) (fun h => ?_)) | (with_reducible refine split_beqS (fun h => ?_) (fun h => ?_)) | (with_reducible refine split_intro (fun h => ?_) (fun h => ?_))) <;> conv => whnf)
      · have hlt : i < l.length := by omega
        clear h
        (first | ((with_reducible refine And.intro (by omega) (Exists.intro _ (And.intro (row_at hlt) ?_))); conv => whnf))
        ((first | (with_reducible refine split_dec (fun h => ?_) (fun h => ?_)) | (with_reducible refine split_beq (fun h => ?_) (fun h => ?_)) | (with_reducible refine split_bne (fun h => ?_) (fun h => ?_)) | (with_reducible refine split_not (fun h => ?_) (fun h => ?_)) | (with_reducible refine split_beqS (fun h => ?_) (fun h => ?_)) | (with_reducible refine split_intro (fun h => ?_) (fun h => ?_))) <;> conv => whnf)
        · have hy := fl_yes (p := fun m => decide (m.to = (t : Int))) hlt (decide_eq_true h)
          (first | ((with_reducible refine And.intro (by omega) (Exists.intro _ (And.intro (row_at hlt) ?_))); conv => whnf))
          have b1 : ((fl (fun m => decide (m.to = (t : Int))) l i).length + 1) * 176 ≤ 140737488355328 := by omega
          have b2 : (fl (fun m => decide (m.to = (t : Int))) l i).length + 1 ≤ maxLen := leMax (by omega)
          (refine And.intro rfl ?_; (conv => whnf); refine And.intro (And.intro (And.intro (by kernel_rfl) (And.intro (Nat.le_refl _) (And.intro (b1) (And.intro (b2) (by intro r hr; rw [List.mem_singleton.1 hr]; rfl))))) (And.intro (by decide) rfl)) ?_; conv => whnf)
          refine ⟨i + 1, [(1002, 1408), (1003, 1003)], ⟨by omega, by omega⟩, ?_⟩
          rw [hy]
          conv => whnf
          (refine And.intro (And.intro (by with_unfolding_all rfl) (by intro q h; cases h)) ?_; refine And.intro ?_ (And.intro ?_ ?_) <;> (conv => whnf) <;> (repeat' (first | exact True.intro | (with_reducible exact rfl) | exact (rfl : List.replicate 0 PV.bad = []) | ((with_reducible refine And.intro ?_ ?_) <;> (first | (with_reducible exact wkV_same _ rfl) | exact wkV_pt rfl rfl | exact wkV_ow rfl rfl rfl | (refine wkV_ow rfl rfl ?_) | (refine wkV_sc (congrArg (Value.int .i64) ?_)) | (refine wkV_sc (congrArg Value.bool ?_)) | exact wkV_ls rfl | ((refine wkV_cl ?_); conv => whnf) | ((refine wkV_tu ?_); conv => whnf) | ((refine wkV_ag ?_); conv => whnf) | (conv => whnf))))))
          all_goals first | exact w1 (by omega) | (refine obj_eq (by kernel_rfl) ?_; rw [List.take_of_length_le (Nat.le_refl _)]; done) | (refine obj_eq (by kernel_rfl) ?_; rw [List.take_of_length_le (Nat.le_refl _)]; rfl) | (rw [List.length_append]; done) | (rw [List.length_append]; rfl) | rfl | trace_state
        · have hn := fl_no (p := fun m => decide (m.to = (t : Int))) hlt (decide_eq_false h)
          refine ⟨i + 1, [(1002, 1002), (1003, 1003)], ⟨by omega, by omega⟩, ?_⟩
          rw [hn]
          conv => whnf
          (refine And.intro (And.intro (by with_unfolding_all rfl) (by intro q h; cases h)) ?_; refine And.intro ?_ (And.intro ?_ ?_) <;> (conv => whnf) <;> (repeat' (first | exact True.intro | (with_reducible exact rfl) | exact (rfl : List.replicate 0 PV.bad = []) | ((with_reducible refine And.intro ?_ ?_) <;> (first | (with_reducible exact wkV_same _ rfl) | exact wkV_pt rfl rfl | exact wkV_ow rfl rfl rfl | (refine wkV_ow rfl rfl ?_) | (refine wkV_sc (congrArg (Value.int .i64) ?_)) | (refine wkV_sc (congrArg Value.bool ?_)) | exact wkV_ls rfl | ((refine wkV_cl ?_); conv => whnf) | ((refine wkV_tu ?_); conv => whnf) | ((refine wkV_ag ?_); conv => whnf) | (conv => whnf))))))
          all_goals first | exact w1 (by omega) | rfl | trace_state
      have ei : i = l.length := by omega
      subst ei
      clear h hi
      rw [fl_all]
      have hwl : (l.filter fun m => decide (m.to = (t : Int))).length ≤ l.length := List.length_filter_le _ _
      generalize hW : (l.filter fun m => decide (m.to = (t : Int))) = W at *
      have hWm : (W.map Mg.enc).length = W.length := List.length_map ..
      refine tri_forO mixed (by kernel_rfl) (fun i : Nat => i ≤ T.length) (fun i => [(16, iv i), (14, .ow 1003 0 ((pfx (t : Int) T i).map Mg.enc).length)]) (fun _ => []) (fun i => [(1002, some (false, 16, W.map Mg.enc)), (1003, some (false, 16, (pfx (t : Int) T i).map Mg.enc))]) [(1002, 1002), (1003, 1003)] (fun i => T.length - i) 0 (Nat.zero_le _) ?_ ?_
      · conv => whnf
        (refine And.intro (And.intro (by with_unfolding_all rfl) (by intro q h; cases h)) ?_; refine And.intro ?_ (And.intro ?_ ?_) <;> (conv => whnf) <;> (repeat' (first | exact True.intro | (with_reducible exact rfl) | exact (rfl : List.replicate 0 PV.bad = []) | ((with_reducible refine And.intro ?_ ?_) <;> (first | (with_reducible exact wkV_same _ rfl) | exact wkV_pt rfl rfl | exact wkV_ow rfl rfl rfl | (refine wkV_ow rfl rfl ?_) | (refine wkV_sc (congrArg (Value.int .i64) ?_)) | (refine wkV_sc (congrArg Value.bool ?_)) | exact wkV_ls rfl | ((refine wkV_cl ?_); conv => whnf) | ((refine wkV_tu ?_); conv => whnf) | ((refine wkV_ag ?_); conv => whnf) | (conv => whnf))))))
        all_goals first | rfl | trace_state
      intro i hi
      have hgli := hgl (t : Int) i
      have hPm : ((pfx (t : Int) T i).map Mg.enc).length = (pfx (t : Int) T i).length := List.length_map ..
      conv => whnf
      ((first | (with_reducible refine split_dec (fun h => ?_) (fun h => ?_)) | (with_reducible refine split_beq (fun h => ?_) (fun h => ?_)) | (with_reducible refine split_bne (fun h => ?_) (fun h => ?_)) | (with_reducible refine split_not (fun h => ?_) (fun h => ?_)) | (with_reducible refine split_beqS (fun h => ?_) (fun h => ?_)) | (with_reducible refine split_intro (fun h => ?_) (fun h => ?_))) <;> conv => whnf)
      · have hlt : i < T.length := by omega
        clear h
        have hsucc := pfx_succ (t : Int) hlt
        have hmem := List.getElem_mem hlt
        have hrow : (T.map (encT frm))[((i : Nat) : Int).toNat]? = some (encT frm (T[i]'hlt)) := row_at hlt
        rcases hx : T[i]'hlt with m | ⟨px, g⟩
        · rw [hx] at hsucc hmem hrow
          have hrow : (T.map (encT frm))[((i : Nat) : Int).toNat]? = some m.enc := hrow
          have hm := hall m (hstr m hmem)
          refine ⟨by omega, _, hrow, ?_⟩
          conv => whnf
          ((first | (with_reducible refine split_dec (fun h => ?_) (fun h => ?_)) | (with_reducible refine split_beq (fun h => ?_) (fun h => ?_)) | (with_reducible refine split_bne (fun h => ?_) (fun h => ?_)) | (with_reducible refine split_not (fun h => ?_) (fun h => ?_)) | (with_reducible refine split_beqS (fun h => ?_) (fun h => ?_)) | (with_reducible refine split_intro (fun h => ?_) (fun h => ?_))) <;> conv => whnf)
          · clear h
            refine ⟨by omega, _, hrow, ?_⟩
            conv => whnf
            ((first | (with_reducible refine split_dec (fun h => ?_) (fun h => ?_)) | (with_reducible refine split_beq (fun h => ?_) (fun h => ?_)) | (with_reducible refine split_bne (fun h => ?_) (fun h => ?_)) | (with_reducible refine split_not (fun h => ?_) (fun h => ?_)) | (with_reducible refine split_beqS (fun h => ?_) (fun h => ?_)) | (with_reducible refine split_intro (fun h => ?_) (fun h => ?_))) <;> conv => whnf)
            · have hg : gotT (t : Int) (.inl m) = [m] := if_pos h
              rw [hg] at hsucc
              have hsucc : (pfx (t : Int) T (i + 1)).map Mg.enc = (pfx (t : Int) T i).map Mg.enc ++ [m.enc] := by rw [hsucc, List.map_append]; rfl
              refine ⟨by omega, _, hrow, ?_⟩
              conv => whnf
              have b1 : (((pfx (t : Int) T i).map Mg.enc).length + 1) * 176 ≤ 140737488355328 := by omega
              have b2 : ((pfx (t : Int) T i).map Mg.enc).length + 1 ≤ maxLen := leMax (by omega)
              (refine And.intro rfl ?_; (conv => whnf); refine And.intro (And.intro (And.intro (by kernel_rfl) (And.intro (Nat.le_refl _) (And.intro (b1) (And.intro (b2) (by intro r hr; rw [List.mem_singleton.1 hr]; rfl))))) (And.intro (by decide) rfl)) ?_; conv => whnf)
              refine ⟨i + 1, [(1002, 1002), (1003, 1824)], ⟨by omega, by omega⟩, ?_⟩
              rw [hsucc]
              conv => whnf
              (refine And.intro (And.intro (by with_unfolding_all rfl) (by intro q h; cases h)) ?_; refine And.intro ?_ (And.intro ?_ ?_) <;> (conv => whnf) <;> (repeat' (first | exact True.intro | (with_reducible exact rfl) | exact (rfl : List.replicate 0 PV.bad = []) | ((with_reducible refine And.intro ?_ ?_) <;> (first | (with_reducible exact wkV_same _ rfl) | exact wkV_pt rfl rfl | exact wkV_ow rfl rfl rfl | (refine wkV_ow rfl rfl ?_) | (refine wkV_sc (congrArg (Value.int .i64) ?_)) | (refine wkV_sc (congrArg Value.bool ?_)) | exact wkV_ls rfl | ((refine wkV_cl ?_); conv => whnf) | ((refine wkV_tu ?_); conv => whnf) | ((refine wkV_ag ?_); conv => whnf) | (conv => whnf))))))
              all_goals first | exact w1 (by omega) | (refine obj_eq (by kernel_rfl) ?_; rw [List.take_of_length_le (Nat.le_refl _)]; done) | (refine obj_eq (by kernel_rfl) ?_; rw [List.take_of_length_le (Nat.le_refl _)]; rfl) | (rw [List.length_append]; done) | (rw [List.length_append]; rfl) | rfl | trace_state
            · have hg : gotT (t : Int) (.inl m) = [] := if_neg h
              rw [hg, List.append_nil] at hsucc
              refine ⟨i + 1, [(1002, 1002), (1003, 1003)], ⟨by omega, by omega⟩, ?_⟩
              rw [hsucc]
              conv => whnf
              (refine And.intro (And.intro (by with_unfolding_all rfl) (by intro q h; cases h)) ?_; refine And.intro ?_ (And.intro ?_ ?_) <;> (conv => whnf) <;> (repeat' (first | exact True.intro | (with_reducible exact rfl) | exact (rfl : List.replicate 0 PV.bad = []) | ((with_reducible refine And.intro ?_ ?_) <;> (first | (with_reducible exact wkV_same _ rfl) | exact wkV_pt rfl rfl | exact wkV_ow rfl rfl rfl | (refine wkV_ow rfl rfl ?_) | (refine wkV_sc (congrArg (Value.int .i64) ?_)) | (refine wkV_sc (congrArg Value.bool ?_)) | exact wkV_ls rfl | ((refine wkV_cl ?_); conv => whnf) | ((refine wkV_tu ?_); conv => whnf) | ((refine wkV_ag ?_); conv => whnf) | (conv => whnf))))))
              all_goals first | exact w1 (by omega) | rfl | trace_state
          · exact absurd (by first | exact h | exact Classical.byContradiction h) hm.1
        · rw [hx] at hsucc hmem hrow
          have hrow : (T.map (encT frm))[((i : Nat) : Int).toNat]? = some (relV frm px (g.map Mg.enc)) := hrow
          obtain ⟨⟨n, hn, hn7, hup⟩, ⟨m0, hm0, hm0t⟩, hgll, hgsub⟩ := hrel px g hmem
          have ko : Ctr Try.prog 34 [.ag (relM frm px g).enc, iv px] (.tu [.ow 0 0 ((g.filter (isOwn px)).map Mg.enc).length, .ow 1 0 ((g.filter (isOn px)).map Mg.enc).length]) [(16, (g.filter (isOwn px)).map Mg.enc), (16, (g.filter (isOn px)).map Mg.enc)] := by
            have k := c_OpenO (relM frm px g) g rfl (by omega) (fun z hz => hs z (hgsub z hz)) rfl
            rw [fl_all, fl_all] at k
            exact k
          have hop := (open_perm (fun m hm => (hall m (hgsub m hm)).1) px).length_eq
          rw [List.length_append] at hop
          have hown : 0 < (g.filter (isOwn px)).length := List.length_pos_of_mem (List.mem_filter.2 ⟨hm0, by unfold isOwn; rw [if_neg (hall m0 (hgsub m0 hm0)).1]; exact decide_eq_true hm0t⟩)
          have hgot : gotT (t : Int) (.inr (px, g)) = (g.filter (isOwn px) ++ g.filter (isOn px)).filter fun m => decide (m.to = (t : Int)) := rfl
          rw [hgot] at hsucc
          have halls : ∀ m ∈ g.filter (isOwn px) ++ g.filter (isOn px), m ∈ l := fun m hm => by
            rcases List.mem_append.1 hm with hm | hm
            · exact hgsub m (List.mem_filter.1 hm).1
            · exact hgsub m (List.mem_filter.1 hm).1
          have eA : ((g.filter (isOwn px)).map Mg.enc).length = (g.filter (isOwn px)).length := List.length_map ..
          have eB : ((g.filter (isOn px)).map Mg.enc).length = (g.filter (isOn px)).length := List.length_map ..
          have eg : (g.map Mg.enc).length = g.length := List.length_map ..
          have hbit : iand .i64 (ishr .i64 up (n : Int)) 1 = nb (tb up n) := bit_shr up n (by omega)
          rw [hup] at hbit
          have hwu : IntKind.u64.wrap px = (n : Int) := by rw [hn]; exact wrapu_id (by omega) (by omega)
          generalize g.filter (isOwn px) = A0 at *
          generalize g.filter (isOn px) = B0 at *
          have eR : (List.take (B0.map Mg.enc).length (List.drop 0 (B0.map Mg.enc))).length = B0.length := by rw [List.drop_zero, List.take_length, eB]
          have eRR : List.take (A0.map Mg.enc).length (A0.map Mg.enc) ++ List.take (B0.map Mg.enc).length (List.drop 0 (B0.map Mg.enc)) = (A0 ++ B0).map Mg.enc := by rw [List.drop_zero, List.take_length, List.take_length, List.map_append]
          refine ⟨by omega, _, hrow, ?_⟩
          conv => whnf
          refine ⟨by omega, _, hrow, ?_⟩
          conv => whnf
          refine ⟨by omega, _, hrow, ?_⟩
          conv => whnf
          ((try ((refine Exists.intro none ?_); (conv => whnf))); refine call_deep (ko) (by (repeat' (first | exact subVL_nil | exact subVR_nil | refine subVL_cons ?_ ?_ | refine subVR_cons ?_ ?_ | exact SubV.refl _ | exact subV_nl | (with_reducible exact subV_tk rfl) | refine subV_ag ?_ | refine subV_sl ?_ | refine subV_ep ?_))) ?_; conv => whnf)
          (refine Exists.intro _ (And.intro rfl (And.intro (by intro q hq; first | (cases hq; done) | (simp only [List.mem_cons, List.not_mem_nil, or_false] at hq; rcases hq with rfl | rfl <;> (simp only [List.length_cons, List.length_nil]; omega)) | (simp only [List.mem_cons, List.not_mem_nil, or_false] at hq; subst hq; simp only [List.length_cons, List.length_nil]; omega)) (And.intro (by intro i hi; rcases i with _ | _ | i; rfl; rfl; exact absurd hi (by simp)) ?_))); conv => whnf)
          refine ⟨⟨by kernel_rfl, Nat.le_of_eq (Nat.zero_add _)⟩, ?_⟩
          conv => whnf
          have b1 : ((A0.map Mg.enc).length + (List.take (B0.map Mg.enc).length (List.drop 0 (B0.map Mg.enc))).length) * 176 ≤ 140737488355328 := by omega
          have b2 : (A0.map Mg.enc).length + (List.take (B0.map Mg.enc).length (List.drop 0 (B0.map Mg.enc))).length ≤ maxLen := leMax (by omega)
          refine ⟨⟨⟨by kernel_rfl, Nat.le_refl _, b1, b2, fun r hr => by obtain ⟨m, _, rfl⟩ := List.mem_map.1 (List.mem_of_mem_drop (List.mem_of_mem_take hr)); rfl⟩, by decide, rfl⟩, ?_⟩
          conv => whnf
          refine ⟨by omega, _, hrow, ?_⟩
          conv => whnf
          ((first | (with_reducible refine split_dec (fun h => ?_) (fun h => ?_)) | (with_reducible refine split_beq (fun h => ?_) (fun h => ?_)) | (with_reducible refine split_bne (fun h => ?_) (fun h => ?_)) | (with_reducible refine split_not (fun h => ?_) (fun h => ?_)) | (with_reducible refine split_beqS (fun h => ?_) (fun h => ?_)) | (with_reducible refine split_intro (fun h => ?_) (fun h => ?_))) <;> conv => whnf)
          · exfalso; omega
          clear h
          ((first | (with_reducible refine split_dec (fun h => ?_) (fun h => ?_)) | (with_reducible refine split_beq (fun h => ?_) (fun h => ?_)) | (with_reducible refine split_bne (fun h => ?_) (fun h => ?_)) | (with_reducible refine split_not (fun h => ?_) (fun h => ?_)) | (with_reducible refine split_beqS (fun h => ?_) (fun h => ?_)) | (with_reducible refine split_intro (fun h => ?_) (fun h => ?_))) <;> conv => whnf)
          · exfalso; omega
          clear h
          refine ⟨by omega, _, hrow, ?_⟩
          conv => whnf
          refine ⟨⟨by decide, u64_nonneg _⟩, ?_⟩
          conv => whnf
          rw [hwu, hbit]
          conv => whnf
          refine ⟨by omega, _, hrow, ?_⟩
          conv => whnf
          ((first | (with_reducible refine split_et rfl ?_) | (with_reducible refine split_bf rfl ?_) | (with_reducible refine split_t (beq_self_eq_true _) ?_) | (with_reducible refine split_f (bne_self_eq_false _) ?_)); conv => whnf)
          generalize hALL : A0 ++ B0 = ALL at *
          have hAl : ALL.length ≤ l.length := by rw [← hALL, List.length_append]; omega
          have hAL : ALL.length = A0.length + B0.length := by rw [← hALL, List.length_append]
          have hAm : (ALL.map Mg.enc).length = ALL.length := List.length_map ..
          refine tri_forO mixed (by kernel_rfl) (fun k : Nat => k ≤ ALL.length) (fun k => [(20, iv k), (14, .ow 1003 0 ((pfx (t : Int) T i).map Mg.enc ++ fl (fun m => decide (m.to = (t : Int))) ALL k).length), (17, .bad), (18, .bad), (115, .bad), (125, .bad), (126, .bad), (127, .bad), (128, .bad), (129, .bad), (141, .bad)]) (fun _ => []) (fun k => [(1002, some (false, 16, W.map Mg.enc)), (1003, some (false, 16, (pfx (t : Int) T i).map Mg.enc ++ fl (fun m => decide (m.to = (t : Int))) ALL k)), (2080, some (false, 16, ALL.map Mg.enc))]) [(1002, 1002), (1003, 1003), (2080, 2080)] (fun k => ALL.length - k) 0 (Nat.zero_le _) ?_ ?_
          · conv => whnf
            (refine And.intro (And.intro (by with_unfolding_all rfl) (by intro q h; cases h)) ?_; refine And.intro ?_ (And.intro ?_ ?_) <;> (conv => whnf) <;> (repeat' (first | exact True.intro | (with_reducible exact rfl) | exact (rfl : List.replicate 0 PV.bad = []) | ((with_reducible refine And.intro ?_ ?_) <;> (first | (with_reducible exact wkV_same _ rfl) | exact wkV_pt rfl rfl | exact wkV_ow rfl rfl rfl | (refine wkV_ow rfl rfl ?_) | (refine wkV_sc (congrArg (Value.int .i64) ?_)) | (refine wkV_sc (congrArg Value.bool ?_)) | exact wkV_ls rfl | ((refine wkV_cl ?_); conv => whnf) | ((refine wkV_tu ?_); conv => whnf) | ((refine wkV_ag ?_); conv => whnf) | (conv => whnf))))))
            all_goals first | rfl | (refine obj_eq (by kernel_rfl) ?_; rw [eRR]; done) | (refine obj_eq (by kernel_rfl) ?_; exact (List.append_nil _).symm) | exact (congrArg List.length (List.append_nil _)).symm | trace_state
          intro k hk
          have hflk := fl_len2 (fun m => decide (m.to = (t : Int))) ALL k
          conv => whnf
          ((first | (with_reducible refine split_dec (fun h => ?_) (fun h => ?_)) | (with_reducible refine split_beq (fun h => ?_) (fun h => ?_)) | (with_reducible refine split_bne (fun h => ?_) (fun h => ?_)) | (with_reducible refine split_not (fun h => ?_) (fun h => ?_)) | (with_reducible refine split_beqS (fun h => ?_) (fun h => ?_)) | (with_reducible refine split_intro (fun h => ?_) (fun h => ?_))) <;> conv => whnf)
          · have hkl : k < ALL.length := by omega
            clear h
            have hrk : (ALL.map Mg.enc)[0 + ((k : Nat) : Int).toNat]? = some (ALL[k]'hkl).enc := by
              rw [Nat.zero_add, Int.toNat_natCast, List.getElem?_map, List.getElem?_eq_getElem hkl]; rfl
            have hy := fl_yes (p := fun m => decide (m.to = (t : Int))) hkl
            have hno := fl_no (p := fun m => decide (m.to = (t : Int))) hkl
            generalize ALL[k]'hkl = m at *
            refine ⟨⟨by omega, by omega⟩, ?_⟩
            conv => whnf
            refine ⟨_, hrk, ?_⟩
            conv => whnf
            ((first | (with_reducible refine split_dec (fun h => ?_) (fun h => ?_)) | (with_reducible refine split_beq (fun h => ?_) (fun h => ?_)) | (with_reducible refine split_bne (fun h => ?_) (fun h => ?_)) | (with_reducible refine split_not (fun h => ?_) (fun h => ?_)) | (with_reducible refine split_beqS (fun h => ?_) (fun h => ?_)) | (with_reducible refine split_intro (fun h => ?_) (fun h => ?_))) <;> conv => whnf)
            · have hy := hy (decide_eq_true h)
              refine ⟨⟨by omega, by omega⟩, ?_⟩
              conv => whnf
              refine ⟨_, hrk, ?_⟩
              conv => whnf
              have hgl2 : ((pfx (t : Int) T i).map Mg.enc ++ fl (fun m => decide (m.to = (t : Int))) ALL k).length ≤ 200 := by rw [List.length_append]; omega
              have b3 : (((pfx (t : Int) T i).map Mg.enc ++ fl (fun m => decide (m.to = (t : Int))) ALL k).length + 1) * 176 ≤ 140737488355328 := by omega
              have b4 : ((pfx (t : Int) T i).map Mg.enc ++ fl (fun m => decide (m.to = (t : Int))) ALL k).length + 1 ≤ maxLen := leMax (by omega)
              (refine And.intro rfl ?_; (conv => whnf); refine And.intro (And.intro (And.intro (by kernel_rfl) (And.intro (Nat.le_refl _) (And.intro (b3) (And.intro (b4) (by intro r hr; rw [List.mem_singleton.1 hr]; rfl))))) (And.intro (by decide) rfl)) ?_; conv => whnf)
              refine ⟨k + 1, [(1002, 1002), (1003, 2960), (2080, 2080)], ⟨by omega, by omega⟩, ?_⟩
              rw [hy, ← List.append_assoc]
              conv => whnf
              (refine And.intro (And.intro (by with_unfolding_all rfl) (by intro q h; cases h)) ?_; refine And.intro ?_ (And.intro ?_ ?_) <;> (conv => whnf) <;> (repeat' (first | exact True.intro | (with_reducible exact rfl) | exact (rfl : List.replicate 0 PV.bad = []) | ((with_reducible refine And.intro ?_ ?_) <;> (first | (with_reducible exact wkV_same _ rfl) | exact wkV_pt rfl rfl | exact wkV_ow rfl rfl rfl | (refine wkV_ow rfl rfl ?_) | (refine wkV_sc (congrArg (Value.int .i64) ?_)) | (refine wkV_sc (congrArg Value.bool ?_)) | exact wkV_ls rfl | ((refine wkV_cl ?_); conv => whnf) | ((refine wkV_tu ?_); conv => whnf) | ((refine wkV_ag ?_); conv => whnf) | (conv => whnf))))))
              all_goals first | exact w1 (by omega) | (refine obj_eq (by kernel_rfl) ?_; rw [List.take_of_length_le (Nat.le_refl _)]; done) | (refine obj_eq (by kernel_rfl) ?_; rw [List.take_of_length_le (Nat.le_refl _)]; rfl) | exact List.length_append.symm | rfl | trace_state
            · have hno := hno (decide_eq_false h)
              refine ⟨k + 1, [(1002, 1002), (1003, 1003), (2080, 2080)], ⟨by omega, by omega⟩, ?_⟩
              rw [hno]
              conv => whnf
              (refine And.intro (And.intro (by with_unfolding_all rfl) (by intro q h; cases h)) ?_; refine And.intro ?_ (And.intro ?_ ?_) <;> (conv => whnf) <;> (repeat' (first | exact True.intro | (with_reducible exact rfl) | exact (rfl : List.replicate 0 PV.bad = []) | ((with_reducible refine And.intro ?_ ?_) <;> (first | (with_reducible exact wkV_same _ rfl) | exact wkV_pt rfl rfl | exact wkV_ow rfl rfl rfl | (refine wkV_ow rfl rfl ?_) | (refine wkV_sc (congrArg (Value.int .i64) ?_)) | (refine wkV_sc (congrArg Value.bool ?_)) | exact wkV_ls rfl | ((refine wkV_cl ?_); conv => whnf) | ((refine wkV_tu ?_); conv => whnf) | ((refine wkV_ag ?_); conv => whnf) | (conv => whnf))))))
              all_goals first | exact w1 (by omega) | rfl | trace_state
          · have ek : k = ALL.length := by omega
            subst ek
            clear h
            have hsucc : (pfx (t : Int) T (i + 1)).map Mg.enc = (pfx (t : Int) T i).map Mg.enc ++ fl (fun m => decide (m.to = (t : Int))) ALL ALL.length := by rw [hsucc, List.map_append, fl_all]
            refine ⟨i + 1, [(1002, 1002), (1003, 1003)], ⟨by omega, by omega⟩, ?_⟩
            rw [hsucc]
            conv => whnf
            (refine And.intro (And.intro (by with_unfolding_all rfl) (by intro q h; cases h)) ?_; refine And.intro ?_ (And.intro ?_ ?_) <;> (conv => whnf) <;> (repeat' (first | exact True.intro | (with_reducible exact rfl) | exact (rfl : List.replicate 0 PV.bad = []) | ((with_reducible refine And.intro ?_ ?_) <;> (first | (with_reducible exact wkV_same _ rfl) | exact wkV_pt rfl rfl | exact wkV_ow rfl rfl rfl | (refine wkV_ow rfl rfl ?_) | (refine wkV_sc (congrArg (Value.int .i64) ?_)) | (refine wkV_sc (congrArg Value.bool ?_)) | exact wkV_ls rfl | ((refine wkV_cl ?_); conv => whnf) | ((refine wkV_tu ?_); conv => whnf) | ((refine wkV_ag ?_); conv => whnf) | (conv => whnf))))))
            all_goals first | exact w1 (by omega) | rfl | trace_state
      have ei : i = T.length := by omega
      subst ei
      clear h hi
      have hfull : pfx (t : Int) T T.length = T.flatMap (gotT (t : Int)) := by unfold pfx; rw [List.take_length]
      have hperm := (hgp (t : Int)).symm
      rw [hW, ← hfull] at hperm
      have hGs : ∀ y ∈ pfx (t : Int) T T.length, y ∈ l := fun y hy => by
        have := hperm.mem_iff.2 hy
        rw [← hW] at this
        exact (List.mem_filter.1 this).1
      have hWs : ∀ y ∈ W, y ∈ l := fun y hy => by rw [← hW] at hy; exact (List.mem_filter.1 hy).1
      have kc := c_same msgK W (pfx (t : Int) T T.length) (by omega) (hperm.map msgK) (fun x hx y hy => c_kMsg x y (hs x (hWs x hx)) (hs y (hGs y hy)))
      generalize pfx (t : Int) T T.length = G at *
      ((try ((refine Exists.intro none ?_); (conv => whnf))); (first | (with_reducible refine And.intro (Nat.le_of_eq (Nat.zero_add _)) ?_) | (refine And.intro (by simp only [List.length_map, List.length_set, Nat.zero_add]; omega) ?_)); conv => whnf)
      ((try ((refine Exists.intro none ?_); (conv => whnf))); (first | (with_reducible refine And.intro (Nat.le_of_eq (Nat.zero_add _)) ?_) | (refine And.intro (by simp only [List.length_map, List.length_set, Nat.zero_add]; omega) ?_)); conv => whnf)
      ((try ((refine Exists.intro none ?_); (conv => whnf))); first | (refine call_eq (kc) (by simp only [List.drop_zero, List.take_length]) ?_; conv => whnf))
      refine ⟨t + 1, ⟨by omega, by omega⟩, ?_⟩
      conv => whnf
      (refine And.intro (And.intro (by with_unfolding_all rfl) (by intro q h; cases h)) ?_; refine And.intro ?_ (And.intro ?_ ?_) <;> (conv => whnf) <;> (repeat' (first | exact True.intro | (with_reducible exact rfl) | exact (rfl : List.replicate 0 PV.bad = []) | ((with_reducible refine And.intro ?_ ?_) <;> (first | (with_reducible exact wkV_same _ rfl) | exact wkV_pt rfl rfl | exact wkV_ow rfl rfl rfl | (refine wkV_ow rfl rfl ?_) | (refine wkV_sc (congrArg (Value.int .i64) ?_)) | (refine wkV_sc (congrArg Value.bool ?_)) | exact wkV_ls rfl | ((refine wkV_cl ?_); conv => whnf) | ((refine wkV_tu ?_); conv => whnf) | ((refine wkV_ag ?_); conv => whnf) | (conv => whnf))))))
      all_goals first | exact w1 (by omega) | rfl | trace_state
    · have : t = 7 := by omega
      ((try ((refine Exists.intro none ?_); (conv => whnf))); first | ((with_reducible refine call_by (c_wakes19) ?_); conv => whnf))
      exact exit_plain rfl rfl
  · have kb : Ctr Try.prog 30 [.sl 16 (l.map Mg.enc), .sl 4 (p.map Pl.enc), iv frm, iv up] (.tu [.nl, iv 1]) [] := by
      cases hp : plsB p with
      | false => exact c_BundleE l p (by omega) hp frm up
      | true => exact c_BundleF l p (by omega) hp frm up (fun hf => hok ⟨hp, hf⟩)
    ((try ((refine Exists.intro none ?_); (conv => whnf))); first | ((with_reducible refine call_by (kb) ?_); conv => whnf))
    ((try ((refine Exists.intro none ?_); (conv => whnf))); first | ((with_reducible refine call_by (c_wakes19) ?_); conv => whnf))
    exact exit_plain rfl rfl
theorem argS_Mgs3 {p : PV} (h : ArgOfS Try.prog 47 p) : ∃ xs : List Mg, p = .sl 16 (xs.map Mg.enc) ∧ ∀ x ∈ xs, MgS x := by
  obtain ⟨rows, e, _, hr⟩ := tyS_slice (e := 58) 16 (by kernel_rfl) (by kernel_rfl) (by decide) (argOfS_one (by kernel_rfl) h)
  cases e
  obtain ⟨xs, rfl, hx⟩ := rows_map (f := Mg.enc) (ok := MgS) (rows := rows) fun r hr' => by
    obtain ⟨n, hn⟩ := hr r hr'
    cases n with
    | zero => exact hn.elim
    | succ n =>
      obtain ⟨x, rfl, _⟩ := typedS_Mg hn
      exact ⟨x, rfl, n + 1, hn⟩
  exact ⟨xs, rfl, hx⟩
theorem told_RelayAll (qs : List PV) (h : ArgsOfS Try.prog [47, 22, 3, 3] qs) : Ctr Try.prog 9 qs (bv true) [] := by
  obtain ⟨p1, qs, rfl, h1, h⟩ := argsOfS_cons h
  obtain ⟨p2, qs, rfl, h2, h⟩ := argsOfS_cons h
  obtain ⟨p3, qs, rfl, h3, h⟩ := argsOfS_cons h
  obtain ⟨p4, qs, rfl, h4, h⟩ := argsOfS_cons h
  obtain rfl := argsOfS_nil h
  obtain ⟨l, rfl, hl⟩ := argS_Mgs3 h1
  obtain ⟨p, rfl, _⟩ := arg_Pls h2.arg
  obtain ⟨frm, rfl, _⟩ := arg_i h3.arg
  obtain ⟨up, rfl, _⟩ := arg_i h4.arg
  exact l_RelayAll l hl p frm up
end Go.Proofs
