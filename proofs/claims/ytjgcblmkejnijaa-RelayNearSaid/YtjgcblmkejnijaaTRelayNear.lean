/- RelayNear: what goes to nodes of the own region goes straight; with nobody up, all goes straight, as it was. -/
import Derived.Test.YtjgcblmkejnijaaE9
set_option linter.unusedSimpArgs false
set_option linter.unusedVariables false
namespace Go.Proofs
open Go.Pv
set_option maxRecDepth 100000

theorem out_straight {p : List Pl} {frm up : Int} {l : List Mg} (h : ∀ m ∈ l, pxR p frm up l (rgM p frm (regP p frm) m) < 0) : outR p frm up l l.length = l.map Mg.enc := by
  have key : ∀ i, i ≤ l.length → outR p frm up l i = (l.take i).map Mg.enc := by
    intro i
    induction i with
    | zero => intro _; rfl
    | succ i ih =>
      intro hi
      have hlt : i < l.length := by omega
      rw [outR_succ hlt, ih (by omega), List.take_succ_eq_append_getElem hlt, List.map_append]
      congr 1
      unfold emitR
      rw [if_pos (h _ (List.getElem_mem hlt))]; rfl
  rw [key l.length (Nat.le_refl _), List.take_length]
theorem px_down (p : List Pl) (frm : Int) (l : List Mg) (r : Int) : pxR p frm 0 l r < 0 := by
  unfold pxR
  have h : bestP (regL p r) (iand .i64 (bitsG (grp p frm l r)) 0) = -1 := best_none fun y _ => by
    rw [show iand .i64 (bitsG (grp p frm l r)) 0 = band (bitsG (grp p frm l r)) 0 from rfl, tb_and, tb_zero, Bool.and_false]
  rw [h]
  split
  · split
    · split <;> decide
    · decide
  · decide
def reg1 (q : Pl) : Pl := { q with region := 1 }
def missP (p : List Pl) (k : Nat) : Bool := !p.any fun q => decide (q.node = (k : Int))
def nearL (p : List Pl) (i : Nat) : List Pl := p.map reg1 ++ ((List.range i).filter (missP p)).map fun k : Nat => (⟨(k : Int), 1, 0, 0⟩ : Pl)
theorem nearL_yes {p : List Pl} {i : Nat} (h : missP p i = true) : nearL p (i + 1) = nearL p i ++ [⟨(i : Int), 1, 0, 0⟩] := by
  unfold nearL
  rw [List.range_succ, List.filter_append, List.map_append, ← List.append_assoc, List.filter_cons, if_pos h]; rfl
theorem nearL_no {p : List Pl} {i : Nat} (h : missP p i = false) : nearL p (i + 1) = nearL p i := by
  unfold nearL
  rw [List.range_succ, List.filter_append, List.map_append, List.filter_cons, if_neg (by rw [h]; decide)]; simp
theorem nearL_len (p : List Pl) (i : Nat) : (nearL p i).length ≤ p.length + i := by
  unfold nearL
  rw [List.length_append, List.length_map, List.length_map]
  have := List.length_filter_le (missP p) (List.range i)
  rw [List.length_range] at this
  omega
theorem near_reg {p : List Pl} {i : Int} (h : 0 ≤ i ∧ i < 7) : regP (nearL p 7) i = 1 := by
  have all1 : ∀ q ∈ nearL p 7, q.region = 1 := fun q hq => by
    unfold nearL at hq
    rcases List.mem_append.1 hq with hq | hq
    · obtain ⟨x, _, rfl⟩ := List.mem_map.1 hq; rfl
    · obtain ⟨x, _, rfl⟩ := List.mem_map.1 hq; rfl
  have hex : ∃ q ∈ nearL p 7, q.node = i := by
    by_cases hm : missP p i.toNat = true
    · refine ⟨⟨((i.toNat : Nat) : Int), 1, 0, 0⟩, ?_, by show ((i.toNat : Nat) : Int) = i; omega⟩
      unfold nearL
      refine List.mem_append_right _ (List.mem_map.2 ⟨i.toNat, ?_, rfl⟩)
      exact List.mem_filter.2 ⟨List.mem_range.2 (by omega), hm⟩
    · unfold missP at hm
      have hm : (p.any fun q => decide (q.node = ((i.toNat : Nat) : Int))) = true := by simpa using hm
      obtain ⟨q, hq, hn⟩ := List.any_eq_true.1 hm
      refine ⟨reg1 q, ?_, ?_⟩
      · unfold nearL
        exact List.mem_append_left _ (List.mem_map.2 ⟨q, hq, rfl⟩)
      · have := of_decide_eq_true hn
        show q.node = i
        omega
  unfold regP
  split
  · rename_i q hq
    exact all1 q (List.mem_of_find?_eq_some hq)
  · rename_i hn
    obtain ⟨q, hq, e⟩ := hex
    rw [List.find?_eq_none] at hn
    exact absurd (decide_eq_true e) (hn q hq)
theorem px_near {p : List Pl} {frm up : Int} (hf : 0 ≤ frm ∧ frm < 7) (l : List Mg) (m : Mg) : pxR (nearL p 7) frm up l (rgM (nearL p 7) frm (regP (nearL p 7) frm) m) < 0 := by
  have e : rgM (nearL p 7) frm (regP (nearL p 7) frm) m = 1 := by
    unfold rgM
    split
    · rename_i ha
      refine near_reg ?_
      unfold awayM at ha
      split at ha
      · cases ha
      · rename_i hc; exact Classical.byContradiction hc
    · exact near_reg hf
  rw [e]
  unfold pxR
  rw [near_reg hf, if_neg (by decide)]
  decide

set_option maxHeartbeats 4000000 in
theorem l_RelayNear (l : List Mg) (hs : ∀ m ∈ l, MgS m) (p : List Pl) (frm : Int) : Ctr Try.prog 8 [.sl 16 (l.map Mg.enc), .sl 4 (p.map Pl.enc), iv frm] (bv true) [] := by
  rcases c_heavy19 l hs with kh | ⟨kh, hl60⟩
  · refine spec_of_body mixed Try.func8 rfl (by kernel_rfl) (by kernel_rfl) ?_; conv => whnf
    ((try ((refine Exists.intro none ?_); (conv => whnf))); first | ((with_reducible refine call_by (kh) ?_); conv => whnf))
    exact exit_plain rfl rfl
  refine spec_of_body mixed Try.func8 rfl (by kernel_rfl) (by kernel_rfl) ?_; conv => whnf
  ((try ((refine Exists.intro none ?_); (conv => whnf))); first | ((with_reducible refine call_by (kh) ?_); conv => whnf))
  ((first | (with_reducible refine split_dec (fun h => ?_) (fun h => ?_)) | (with_reducible refine split_beq (fun h => ?_) (fun h => ?_)) | (with_reducible refine split_bne (fun h => ?_) (fun h => ?_)) | (with_reducible refine split_not (fun h => ?_) (fun h => ?_)) | (with_reducible refine split_beqS (fun h => ?_) (fun h => ?_)) | (with_reducible refine split_intro (fun h => ?_) (fun h => ?_))) <;> conv => whnf)
  · exact exit_plain rfl rfl
  have hp : p.length ≤ 60 := by simp only [List.length_map] at h; omega
  clear h
  have hp2 : p.length ≤ 4294967 := by omega
  have htw : ∀ m ∈ l, Ctr Try.prog 73 [.ag m.enc] (.ag m.enc) [] := fun m hm => c_rtwin m (hs m hm)
  have ksame : Ctr Try.prog 31 [.sl 16 (l.map Mg.enc), .sl 16 (l.map Mg.enc)] (bv true) [] := s_MsgsR (l.map Mg.enc) (by rw [List.length_map]; omega) fun r hr => by
    obtain ⟨m, hm, rfl⟩ := List.mem_map.1 hr
    exact ⟨s_MsgS m (hs m hm), m, rfl⟩
  have hnl := nearL_len p
  -- behind the first call
  have rest : ∀ (r : PV), r = .tu [.nl, iv 1] ∨ r = .tu [.sl 16 (l.map Mg.enc), iv 0] → True := fun _ _ => trivial
  have kb : Ctr Try.prog 30 [.sl 16 (l.map Mg.enc), .sl 4 (p.map Pl.enc), iv frm, iv 0] (.tu [.nl, iv 1]) [] ∨ Ctr Try.prog 30 [.sl 16 (l.map Mg.enc), .sl 4 (p.map Pl.enc), iv frm, iv 0] (.tu [.sl 16 (l.map Mg.enc), iv 0]) [] := by
    cases hok : plsB p with
    | false => exact .inl (c_BundleE l p hp2 hok frm 0)
    | true =>
      by_cases hf : 0 ≤ frm ∧ frm < 7
      · have k := c_Bundle l (by omega) htw p hp2 hok frm 0 hf
        rw [out_straight (fun m _ => px_down p frm l _)] at k
        exact .inr k
      · exact .inl (c_BundleF l p hp2 hok frm 0 hf)
  have kn : Ctr Try.prog 30 [.sl 16 (l.map Mg.enc), .sl 4 ((nearL p 7).map Pl.enc), iv frm, iv 127] (.tu [.nl, iv 1]) [] ∨ Ctr Try.prog 30 [.sl 16 (l.map Mg.enc), .sl 4 ((nearL p 7).map Pl.enc), iv frm, iv 127] (.tu [.sl 16 (l.map Mg.enc), iv 0]) [] := by
    have hn2 : (nearL p 7).length ≤ 4294967 := by have := hnl 7; omega
    cases hok : plsB (nearL p 7) with
    | false => exact .inl (c_BundleE l _ hn2 hok frm 127)
    | true =>
      by_cases hf : 0 ≤ frm ∧ frm < 7
      · have k := c_Bundle l (by omega) htw _ hn2 hok frm 127 hf
        rw [out_straight (fun m _ => px_near hf l m)] at k
        exact .inr k
      · exact .inl (c_BundleF l _ hn2 hok frm 127 hf)
  clear rest
  rcases kb with kb | kb
  · ((try ((refine Exists.intro none ?_); (conv => whnf))); first | ((with_reducible refine call_by (kb) ?_); conv => whnf))
    refine tri_born 9 1002 4 rfl rfl ?_
    conv => whnf
    refine tri_forO mixed (by kernel_rfl) (fun i : Nat => i ≤ p.length) (fun i => [(10, iv i), (9, .ow 1002 0 (((p.take i).map reg1).map Pl.enc).length)]) (fun _ => []) (fun i => [(1002, some (false, 4, ((p.take i).map reg1).map Pl.enc))]) [(1002, 1002)] (fun i => p.length - i) 0 (Nat.zero_le _) ?_ ?_
    · conv => whnf
      (refine And.intro (And.intro (by with_unfolding_all rfl) (by intro q h; cases h)) ?_; refine And.intro ?_ (And.intro ?_ ?_) <;> (conv => whnf) <;> (repeat' (first | exact True.intro | (with_reducible exact rfl) | exact (rfl : List.replicate 0 PV.bad = []) | ((with_reducible refine And.intro ?_ ?_) <;> (first | (with_reducible exact wkV_same _ rfl) | exact wkV_pt rfl rfl | exact wkV_ow rfl rfl rfl | (refine wkV_ow rfl rfl ?_) | (refine wkV_sc (congrArg (Value.int .i64) ?_)) | (refine wkV_sc (congrArg Value.bool ?_)) | exact wkV_ls rfl | ((refine wkV_cl ?_); conv => whnf) | ((refine wkV_tu ?_); conv => whnf) | ((refine wkV_ag ?_); conv => whnf) | (conv => whnf))))))
      all_goals first | rfl | trace_state
    intro i hi
    conv => whnf
    ((first | (with_reducible refine split_dec (fun h => ?_) (fun h => ?_)) | (with_reducible refine split_beq (fun h => ?_) (fun h => ?_)) | (with_reducible refine split_bne (fun h => ?_) (fun h => ?_)) | (with_reducible refine split_not (fun h => ?_) (fun h => ?_)) | (with_reducible refine split_beqS (fun h => ?_) (fun h => ?_)) | (with_reducible refine split_intro (fun h => ?_) (fun h => ?_))) <;> conv => whnf)
    · have hlt : i < p.length := by simp only [List.length_map] at h; omega
      clear h
      have hsucc : ((p.take (i + 1)).map reg1).map Pl.enc = ((p.take i).map reg1).map Pl.enc ++ [(reg1 (p[i]'hlt)).enc] := by
        rw [List.take_succ_eq_append_getElem hlt, List.map_append, List.map_append]; rfl
      have hlen : (((p.take i).map reg1).map Pl.enc).length = i := by rw [List.length_map, List.length_map, List.length_take]; omega
      (first | ((with_reducible refine And.intro (by omega) (Exists.intro _ (And.intro (row_at hlt) ?_))); conv => whnf))
      have b1 : ((((p.take i).map reg1).map Pl.enc).length + 1) * 32 ≤ 140737488355328 := by omega
      have b2 : (((p.take i).map reg1).map Pl.enc).length + 1 ≤ maxLen := leMax (by omega)
      (refine And.intro rfl ?_; (conv => whnf); refine And.intro (And.intro (And.intro (by kernel_rfl) (And.intro (Nat.le_refl _) (And.intro (b1) (And.intro (b2) (by intro r hr; rw [List.mem_singleton.1 hr]; rfl))))) (And.intro (by decide) rfl)) ?_; conv => whnf)
      refine ⟨i + 1, [(1002, 848)], ⟨by omega, by omega⟩, ?_⟩
      rw [hsucc]
      conv => whnf
      (refine And.intro (And.intro (by with_unfolding_all rfl) (by intro q h; cases h)) ?_; refine And.intro ?_ (And.intro ?_ ?_) <;> (conv => whnf) <;> (repeat' (first | exact True.intro | (with_reducible exact rfl) | exact (rfl : List.replicate 0 PV.bad = []) | ((with_reducible refine And.intro ?_ ?_) <;> (first | (with_reducible exact wkV_same _ rfl) | exact wkV_pt rfl rfl | exact wkV_ow rfl rfl rfl | (refine wkV_ow rfl rfl ?_) | (refine wkV_sc (congrArg (Value.int .i64) ?_)) | (refine wkV_sc (congrArg Value.bool ?_)) | exact wkV_ls rfl | ((refine wkV_cl ?_); conv => whnf) | ((refine wkV_tu ?_); conv => whnf) | ((refine wkV_ag ?_); conv => whnf) | (conv => whnf))))))
      all_goals first | exact w1 (by omega) | (refine obj_eq (by kernel_rfl) ?_; rw [List.take_of_length_le (Nat.le_refl _)]; done) | (refine obj_eq (by kernel_rfl) ?_; rw [List.take_of_length_le (Nat.le_refl _)]; rfl) | (rw [List.length_append]; done) | (rw [List.length_append]; rfl) | rfl | trace_state
    have ei : i = p.length := by simp only [List.length_map] at h; omega
    subst ei
    clear h
    have e0 : (p.take p.length).map reg1 = nearL p 0 := by rw [List.take_length]; unfold nearL; simp
    rw [e0]
    refine tri_forO mixed (by kernel_rfl) (fun i : Nat => i ≤ 7) (fun i => [(12, iv i), (9, .ow 1002 0 ((nearL p i).map Pl.enc).length)]) (fun _ => []) (fun i => [(1002, some (false, 4, (nearL p i).map Pl.enc))]) [(1002, 1002)] (fun i => 7 - i) 0 (by decide) ?_ ?_
    · conv => whnf
      (refine And.intro (And.intro (by with_unfolding_all rfl) (by intro q h; cases h)) ?_; refine And.intro ?_ (And.intro ?_ ?_) <;> (conv => whnf) <;> (repeat' (first | exact True.intro | (with_reducible exact rfl) | exact (rfl : List.replicate 0 PV.bad = []) | ((with_reducible refine And.intro ?_ ?_) <;> (first | (with_reducible exact wkV_same _ rfl) | exact wkV_pt rfl rfl | exact wkV_ow rfl rfl rfl | (refine wkV_ow rfl rfl ?_) | (refine wkV_sc (congrArg (Value.int .i64) ?_)) | (refine wkV_sc (congrArg Value.bool ?_)) | exact wkV_ls rfl | ((refine wkV_cl ?_); conv => whnf) | ((refine wkV_tu ?_); conv => whnf) | ((refine wkV_ag ?_); conv => whnf) | (conv => whnf))))))
      all_goals first | rfl | trace_state
    intro i hi7
    conv => whnf
    ((first | (with_reducible refine split_dec (fun h => ?_) (fun h => ?_)) | (with_reducible refine split_beq (fun h => ?_) (fun h => ?_)) | (with_reducible refine split_bne (fun h => ?_) (fun h => ?_)) | (with_reducible refine split_not (fun h => ?_) (fun h => ?_)) | (with_reducible refine split_beqS (fun h => ?_) (fun h => ?_)) | (with_reducible refine split_intro (fun h => ?_) (fun h => ?_))) <;> conv => whnf)
    · have hlt7 : i < 7 := by omega
      clear h
      refine tri_for0 mixed (by kernel_rfl) (fun j : Nat => j ≤ p.length) (fun j => [(14, iv j), (13, bv ((p.take j).any fun q => decide (q.node = (i : Int))))]) [(1002, 1002)] (fun j => p.length - j) 0 (Nat.zero_le _) ?_ ?_
      · conv => whnf
        (refine And.intro (And.intro (by with_unfolding_all rfl) (by intro q h; cases h)) ?_; refine And.intro ?_ (And.intro ?_ ?_) <;> (conv => whnf) <;> (repeat' (first | exact True.intro | (with_reducible exact rfl) | exact (rfl : List.replicate 0 PV.bad = []) | ((with_reducible refine And.intro ?_ ?_) <;> (first | (with_reducible exact wkV_same _ rfl) | exact wkV_pt rfl rfl | exact wkV_ow rfl rfl rfl | (refine wkV_ow rfl rfl ?_) | (refine wkV_sc (congrArg (Value.int .i64) ?_)) | (refine wkV_sc (congrArg Value.bool ?_)) | exact wkV_ls rfl | ((refine wkV_cl ?_); conv => whnf) | ((refine wkV_tu ?_); conv => whnf) | ((refine wkV_ag ?_); conv => whnf) | (conv => whnf))))))
        all_goals first | rfl | trace_state
      intro j hj
      conv => whnf
      ((first | (with_reducible refine split_dec (fun h => ?_) (fun h => ?_)) | (with_reducible refine split_beq (fun h => ?_) (fun h => ?_)) | (with_reducible refine split_bne (fun h => ?_) (fun h => ?_)) | (with_reducible refine split_not (fun h => ?_) (fun h => ?_)) | (with_reducible refine split_beqS (fun h => ?_) (fun h => ?_)) | (with_reducible refine split_intro (fun h => ?_) (fun h => ?_))) <;> conv => whnf)
      · have hlt : j < p.length := by simp only [List.length_map] at h; omega
        clear h
        have hany : ((p.take (j + 1)).any fun q => decide (q.node = (i : Int))) = (((p.take j).any fun q => decide (q.node = (i : Int))) || decide ((p[j]'hlt).node = (i : Int))) := by
          rw [List.take_succ_eq_append_getElem hlt, List.any_append]; simp
        generalize ((p.take j).any fun q => decide (q.node = (i : Int))) = a0 at *
        cases a0 with
        | true =>
          conv => whnf
          refine ⟨j + 1, ⟨by omega, by omega⟩, ?_⟩
          rw [hany]
          conv => whnf
          (refine And.intro (And.intro (by with_unfolding_all rfl) (by intro q h; cases h)) ?_; refine And.intro ?_ (And.intro ?_ ?_) <;> (conv => whnf) <;> (repeat' (first | exact True.intro | (with_reducible exact rfl) | exact (rfl : List.replicate 0 PV.bad = []) | ((with_reducible refine And.intro ?_ ?_) <;> (first | (with_reducible exact wkV_same _ rfl) | exact wkV_pt rfl rfl | exact wkV_ow rfl rfl rfl | (refine wkV_ow rfl rfl ?_) | (refine wkV_sc (congrArg (Value.int .i64) ?_)) | (refine wkV_sc (congrArg Value.bool ?_)) | exact wkV_ls rfl | ((refine wkV_cl ?_); conv => whnf) | ((refine wkV_tu ?_); conv => whnf) | ((refine wkV_ag ?_); conv => whnf) | (conv => whnf))))))
          all_goals first | exact w1 (by omega) | rfl | trace_state
        | false =>
          conv => whnf
          (first | ((with_reducible refine And.intro (by omega) (Exists.intro _ (And.intro (row_at hlt) ?_))); conv => whnf))
          refine ⟨j + 1, ⟨by omega, by omega⟩, ?_⟩
          rw [hany]
          conv => whnf
          (refine And.intro (And.intro (by with_unfolding_all rfl) (by intro q h; cases h)) ?_; refine And.intro ?_ (And.intro ?_ ?_) <;> (conv => whnf) <;> (repeat' (first | exact True.intro | (with_reducible exact rfl) | exact (rfl : List.replicate 0 PV.bad = []) | ((with_reducible refine And.intro ?_ ?_) <;> (first | (with_reducible exact wkV_same _ rfl) | exact wkV_pt rfl rfl | exact wkV_ow rfl rfl rfl | (refine wkV_ow rfl rfl ?_) | (refine wkV_sc (congrArg (Value.int .i64) ?_)) | (refine wkV_sc (congrArg Value.bool ?_)) | exact wkV_ls rfl | ((refine wkV_cl ?_); conv => whnf) | ((refine wkV_tu ?_); conv => whnf) | ((refine wkV_ag ?_); conv => whnf) | (conv => whnf))))))
          all_goals first | exact w1 (by omega) | rfl | trace_state
      have ej : j = p.length := by simp only [List.length_map] at h; omega
      subst ej
      clear h
      rw [List.take_length]
      have hyes := nearL_yes (p := p) (i := i)
      have hno := nearL_no (p := p) (i := i)
      have hni := hnl i
      unfold missP at hyes hno
      generalize (p.any fun q => decide (q.node = (i : Int))) = a0 at *
      cases a0 with
      | true =>
        have e1 := hno rfl
        conv => whnf
        refine ⟨i + 1, [(1002, 1002)], ⟨by omega, by omega⟩, ?_⟩
        rw [e1]
        conv => whnf
        (refine And.intro (And.intro (by with_unfolding_all rfl) (by intro q h; cases h)) ?_; refine And.intro ?_ (And.intro ?_ ?_) <;> (conv => whnf) <;> (repeat' (first | exact True.intro | (with_reducible exact rfl) | exact (rfl : List.replicate 0 PV.bad = []) | ((with_reducible refine And.intro ?_ ?_) <;> (first | (with_reducible exact wkV_same _ rfl) | exact wkV_pt rfl rfl | exact wkV_ow rfl rfl rfl | (refine wkV_ow rfl rfl ?_) | (refine wkV_sc (congrArg (Value.int .i64) ?_)) | (refine wkV_sc (congrArg Value.bool ?_)) | exact wkV_ls rfl | ((refine wkV_cl ?_); conv => whnf) | ((refine wkV_tu ?_); conv => whnf) | ((refine wkV_ag ?_); conv => whnf) | (conv => whnf))))))
        all_goals first | exact w1 (by omega) | rfl | trace_state
      | false =>
        have e1 : (nearL p (i + 1)).map Pl.enc = (nearL p i).map Pl.enc ++ [(⟨(i : Int), 1, 0, 0⟩ : Pl).enc] := by rw [hyes rfl, List.map_append]; rfl
        have hlm : ((nearL p i).map Pl.enc).length = (nearL p i).length := List.length_map ..
        conv => whnf
        have b1 : (((nearL p i).map Pl.enc).length + 1) * 32 ≤ 140737488355328 := by omega
        have b2 : ((nearL p i).map Pl.enc).length + 1 ≤ maxLen := leMax (by omega)
        (refine And.intro rfl ?_; (conv => whnf); refine And.intro (And.intro (And.intro (by kernel_rfl) (And.intro (Nat.le_refl _) (And.intro (b1) (And.intro (b2) (by intro r hr; rw [List.mem_singleton.1 hr]; rfl))))) (And.intro (by decide) rfl)) ?_; conv => whnf)
        refine ⟨i + 1, [(1002, 1280)], ⟨by omega, by omega⟩, ?_⟩
        rw [e1]
        conv => whnf
        (refine And.intro (And.intro (by with_unfolding_all rfl) (by intro q h; cases h)) ?_; refine And.intro ?_ (And.intro ?_ ?_) <;> (conv => whnf) <;> (repeat' (first | exact True.intro | (with_reducible exact rfl) | exact (rfl : List.replicate 0 PV.bad = []) | ((with_reducible refine And.intro ?_ ?_) <;> (first | (with_reducible exact wkV_same _ rfl) | exact wkV_pt rfl rfl | exact wkV_ow rfl rfl rfl | (refine wkV_ow rfl rfl ?_) | (refine wkV_sc (congrArg (Value.int .i64) ?_)) | (refine wkV_sc (congrArg Value.bool ?_)) | exact wkV_ls rfl | ((refine wkV_cl ?_); conv => whnf) | ((refine wkV_tu ?_); conv => whnf) | ((refine wkV_ag ?_); conv => whnf) | (conv => whnf))))))
        all_goals first | exact w1 (by omega) | (refine obj_eq (by kernel_rfl) ?_; rw [List.take_of_length_le (Nat.le_refl _)]; done) | (refine obj_eq (by kernel_rfl) ?_; rw [List.take_of_length_le (Nat.le_refl _)]; rfl) | (rw [List.length_append]; done) | (rw [List.length_append]; rfl) | rfl | trace_state
    have ei : i = 7 := by omega
    subst ei
    clear h
    rcases kn with kn | kn
    · conv => whnf
      ((try ((refine Exists.intro none ?_); (conv => whnf))); (first | (with_reducible refine And.intro (Nat.le_of_eq (Nat.zero_add _)) ?_) | (refine And.intro (by simp only [List.length_map, List.length_set, Nat.zero_add]; omega) ?_)); conv => whnf)
      ((try ((refine Exists.intro none ?_); (conv => whnf))); first | (refine call_eq (kn) (by simp only [List.drop_zero, List.take_length]) ?_; conv => whnf))
      ((try ((refine Exists.intro none ?_); (conv => whnf))); first | ((with_reducible refine call_by (c_wakes19) ?_); conv => whnf))
      exact exit_plain rfl rfl
    · conv => whnf
      ((try ((refine Exists.intro none ?_); (conv => whnf))); (first | (with_reducible refine And.intro (Nat.le_of_eq (Nat.zero_add _)) ?_) | (refine And.intro (by simp only [List.length_map, List.length_set, Nat.zero_add]; omega) ?_)); conv => whnf)
      ((try ((refine Exists.intro none ?_); (conv => whnf))); first | (refine call_eq (kn) (by simp only [List.drop_zero, List.take_length]) ?_; conv => whnf))
      (refine Exists.intro _ (And.intro rfl (And.intro (by intro q _; simp only [List.length_nil]; omega) (And.intro (by intro i hi; exact absurd hi (Nat.not_lt_zero i)) ?_))); conv => whnf)
      ((try ((refine Exists.intro none ?_); (conv => whnf))); first | ((with_reducible refine call_by (ksame) ?_); conv => whnf))
      ((try ((refine Exists.intro none ?_); (conv => whnf))); first | ((with_reducible refine call_by (c_wakes19) ?_); conv => whnf))
      exact exit_plain rfl rfl
  · ((try ((refine Exists.intro none ?_); (conv => whnf))); first | ((with_reducible refine call_by (kb) ?_); conv => whnf))
    (refine Exists.intro _ (And.intro rfl (And.intro (by intro q _; simp only [List.length_nil]; omega) (And.intro (by intro i hi; exact absurd hi (Nat.not_lt_zero i)) ?_))); conv => whnf)
    ((try ((refine Exists.intro none ?_); (conv => whnf))); first | ((with_reducible refine call_by (ksame) ?_); conv => whnf))
    refine tri_born 9 1002 4 rfl rfl ?_
    conv => whnf
    refine tri_forO mixed (by kernel_rfl) (fun i : Nat => i ≤ p.length) (fun i => [(10, iv i), (9, .ow 1002 0 (((p.take i).map reg1).map Pl.enc).length)]) (fun _ => []) (fun i => [(1002, some (false, 4, ((p.take i).map reg1).map Pl.enc))]) [(1002, 1002)] (fun i => p.length - i) 0 (Nat.zero_le _) ?_ ?_
    · conv => whnf
      (refine And.intro (And.intro (by with_unfolding_all rfl) (by intro q h; cases h)) ?_; refine And.intro ?_ (And.intro ?_ ?_) <;> (conv => whnf) <;> (repeat' (first | exact True.intro | (with_reducible exact rfl) | exact (rfl : List.replicate 0 PV.bad = []) | ((with_reducible refine And.intro ?_ ?_) <;> (first | (with_reducible exact wkV_same _ rfl) | exact wkV_pt rfl rfl | exact wkV_ow rfl rfl rfl | (refine wkV_ow rfl rfl ?_) | (refine wkV_sc (congrArg (Value.int .i64) ?_)) | (refine wkV_sc (congrArg Value.bool ?_)) | exact wkV_ls rfl | ((refine wkV_cl ?_); conv => whnf) | ((refine wkV_tu ?_); conv => whnf) | ((refine wkV_ag ?_); conv => whnf) | (conv => whnf))))))
      all_goals first | rfl | trace_state
    intro i hi
    conv => whnf
    ((first | (with_reducible refine split_dec (fun h => ?_) (fun h => ?_)) | (with_reducible refine split_beq (fun h => ?_) (fun h => ?_)) | (with_reducible refine split_bne (fun h => ?_) (fun h => ?_)) | (with_reducible refine split_not (fun h => ?_) (fun h => ?_)) | (with_reducible refine split_beqS (fun h => ?_) (fun h => ?_)) | (with_reducible refine split_intro (fun h => ?_) (fun h => ?_))) <;> conv => whnf)
    · have hlt : i < p.length := by simp only [List.length_map] at h; omega
      clear h
      have hsucc : ((p.take (i + 1)).map reg1).map Pl.enc = ((p.take i).map reg1).map Pl.enc ++ [(reg1 (p[i]'hlt)).enc] := by
        rw [List.take_succ_eq_append_getElem hlt, List.map_append, List.map_append]; rfl
      have hlen : (((p.take i).map reg1).map Pl.enc).length = i := by rw [List.length_map, List.length_map, List.length_take]; omega
      (first | ((with_reducible refine And.intro (by omega) (Exists.intro _ (And.intro (row_at hlt) ?_))); conv => whnf))
      have b1 : ((((p.take i).map reg1).map Pl.enc).length + 1) * 32 ≤ 140737488355328 := by omega
      have b2 : (((p.take i).map reg1).map Pl.enc).length + 1 ≤ maxLen := leMax (by omega)
      (refine And.intro rfl ?_; (conv => whnf); refine And.intro (And.intro (And.intro (by kernel_rfl) (And.intro (Nat.le_refl _) (And.intro (b1) (And.intro (b2) (by intro r hr; rw [List.mem_singleton.1 hr]; rfl))))) (And.intro (by decide) rfl)) ?_; conv => whnf)
      refine ⟨i + 1, [(1002, 848)], ⟨by omega, by omega⟩, ?_⟩
      rw [hsucc]
      conv => whnf
      (refine And.intro (And.intro (by with_unfolding_all rfl) (by intro q h; cases h)) ?_; refine And.intro ?_ (And.intro ?_ ?_) <;> (conv => whnf) <;> (repeat' (first | exact True.intro | (with_reducible exact rfl) | exact (rfl : List.replicate 0 PV.bad = []) | ((with_reducible refine And.intro ?_ ?_) <;> (first | (with_reducible exact wkV_same _ rfl) | exact wkV_pt rfl rfl | exact wkV_ow rfl rfl rfl | (refine wkV_ow rfl rfl ?_) | (refine wkV_sc (congrArg (Value.int .i64) ?_)) | (refine wkV_sc (congrArg Value.bool ?_)) | exact wkV_ls rfl | ((refine wkV_cl ?_); conv => whnf) | ((refine wkV_tu ?_); conv => whnf) | ((refine wkV_ag ?_); conv => whnf) | (conv => whnf))))))
      all_goals first | exact w1 (by omega) | (refine obj_eq (by kernel_rfl) ?_; rw [List.take_of_length_le (Nat.le_refl _)]; done) | (refine obj_eq (by kernel_rfl) ?_; rw [List.take_of_length_le (Nat.le_refl _)]; rfl) | (rw [List.length_append]; done) | (rw [List.length_append]; rfl) | rfl | trace_state
    have ei : i = p.length := by simp only [List.length_map] at h; omega
    subst ei
    clear h
    have e0 : (p.take p.length).map reg1 = nearL p 0 := by rw [List.take_length]; unfold nearL; simp
    rw [e0]
    refine tri_forO mixed (by kernel_rfl) (fun i : Nat => i ≤ 7) (fun i => [(12, iv i), (9, .ow 1002 0 ((nearL p i).map Pl.enc).length)]) (fun _ => []) (fun i => [(1002, some (false, 4, (nearL p i).map Pl.enc))]) [(1002, 1002)] (fun i => 7 - i) 0 (by decide) ?_ ?_
    · conv => whnf
      (refine And.intro (And.intro (by with_unfolding_all rfl) (by intro q h; cases h)) ?_; refine And.intro ?_ (And.intro ?_ ?_) <;> (conv => whnf) <;> (repeat' (first | exact True.intro | (with_reducible exact rfl) | exact (rfl : List.replicate 0 PV.bad = []) | ((with_reducible refine And.intro ?_ ?_) <;> (first | (with_reducible exact wkV_same _ rfl) | exact wkV_pt rfl rfl | exact wkV_ow rfl rfl rfl | (refine wkV_ow rfl rfl ?_) | (refine wkV_sc (congrArg (Value.int .i64) ?_)) | (refine wkV_sc (congrArg Value.bool ?_)) | exact wkV_ls rfl | ((refine wkV_cl ?_); conv => whnf) | ((refine wkV_tu ?_); conv => whnf) | ((refine wkV_ag ?_); conv => whnf) | (conv => whnf))))))
      all_goals first | rfl | trace_state
    intro i hi7
    conv => whnf
    ((first | (with_reducible refine split_dec (fun h => ?_) (fun h => ?_)) | (with_reducible refine split_beq (fun h => ?_) (fun h => ?_)) | (with_reducible refine split_bne (fun h => ?_) (fun h => ?_)) | (with_reducible refine split_not (fun h => ?_) (fun h => ?_)) | (with_reducible refine split_beqS (fun h => ?_) (fun h => ?_)) | (with_reducible refine split_intro (fun h => ?_) (fun h => ?_))) <;> conv => whnf)
    · have hlt7 : i < 7 := by omega
      clear h
      refine tri_for0 mixed (by kernel_rfl) (fun j : Nat => j ≤ p.length) (fun j => [(14, iv j), (13, bv ((p.take j).any fun q => decide (q.node = (i : Int))))]) [(1002, 1002)] (fun j => p.length - j) 0 (Nat.zero_le _) ?_ ?_
      · conv => whnf
        (refine And.intro (And.intro (by with_unfolding_all rfl) (by intro q h; cases h)) ?_; refine And.intro ?_ (And.intro ?_ ?_) <;> (conv => whnf) <;> (repeat' (first | exact True.intro | (with_reducible exact rfl) | exact (rfl : List.replicate 0 PV.bad = []) | ((with_reducible refine And.intro ?_ ?_) <;> (first | (with_reducible exact wkV_same _ rfl) | exact wkV_pt rfl rfl | exact wkV_ow rfl rfl rfl | (refine wkV_ow rfl rfl ?_) | (refine wkV_sc (congrArg (Value.int .i64) ?_)) | (refine wkV_sc (congrArg Value.bool ?_)) | exact wkV_ls rfl | ((refine wkV_cl ?_); conv => whnf) | ((refine wkV_tu ?_); conv => whnf) | ((refine wkV_ag ?_); conv => whnf) | (conv => whnf))))))
        all_goals first | rfl | trace_state
      intro j hj
      conv => whnf
      ((first | (with_reducible refine split_dec (fun h => ?_) (fun h => ?_)) | (with_reducible refine split_beq (fun h => ?_) (fun h => ?_)) | (with_reducible refine split_bne (fun h => ?_) (fun h => ?_)) | (with_reducible refine split_not (fun h => ?_) (fun h => ?_)) | (with_reducible refine split_beqS (fun h => ?_) (fun h => ?_)) | (with_reducible refine split_intro (fun h => ?_) (fun h => ?_))) <;> conv => whnf)
      · have hlt : j < p.length := by simp only [List.length_map] at h; omega
        clear h
        have hany : ((p.take (j + 1)).any fun q => decide (q.node = (i : Int))) = (((p.take j).any fun q => decide (q.node = (i : Int))) || decide ((p[j]'hlt).node = (i : Int))) := by
          rw [List.take_succ_eq_append_getElem hlt, List.any_append]; simp
        generalize ((p.take j).any fun q => decide (q.node = (i : Int))) = a0 at *
        cases a0 with
        | true =>
          conv => whnf
          refine ⟨j + 1, ⟨by omega, by omega⟩, ?_⟩
          rw [hany]
          conv => whnf
          (refine And.intro (And.intro (by with_unfolding_all rfl) (by intro q h; cases h)) ?_; refine And.intro ?_ (And.intro ?_ ?_) <;> (conv => whnf) <;> (repeat' (first | exact True.intro | (with_reducible exact rfl) | exact (rfl : List.replicate 0 PV.bad = []) | ((with_reducible refine And.intro ?_ ?_) <;> (first | (with_reducible exact wkV_same _ rfl) | exact wkV_pt rfl rfl | exact wkV_ow rfl rfl rfl | (refine wkV_ow rfl rfl ?_) | (refine wkV_sc (congrArg (Value.int .i64) ?_)) | (refine wkV_sc (congrArg Value.bool ?_)) | exact wkV_ls rfl | ((refine wkV_cl ?_); conv => whnf) | ((refine wkV_tu ?_); conv => whnf) | ((refine wkV_ag ?_); conv => whnf) | (conv => whnf))))))
          all_goals first | exact w1 (by omega) | rfl | trace_state
        | false =>
          conv => whnf
          (first | ((with_reducible refine And.intro (by omega) (Exists.intro _ (And.intro (row_at hlt) ?_))); conv => whnf))
          refine ⟨j + 1, ⟨by omega, by omega⟩, ?_⟩
          rw [hany]
          conv => whnf
          (refine And.intro (And.intro (by with_unfolding_all rfl) (by intro q h; cases h)) ?_; refine And.intro ?_ (And.intro ?_ ?_) <;> (conv => whnf) <;> (repeat' (first | exact True.intro | (with_reducible exact rfl) | exact (rfl : List.replicate 0 PV.bad = []) | ((with_reducible refine And.intro ?_ ?_) <;> (first | (with_reducible exact wkV_same _ rfl) | exact wkV_pt rfl rfl | exact wkV_ow rfl rfl rfl | (refine wkV_ow rfl rfl ?_) | (refine wkV_sc (congrArg (Value.int .i64) ?_)) | (refine wkV_sc (congrArg Value.bool ?_)) | exact wkV_ls rfl | ((refine wkV_cl ?_); conv => whnf) | ((refine wkV_tu ?_); conv => whnf) | ((refine wkV_ag ?_); conv => whnf) | (conv => whnf))))))
          all_goals first | exact w1 (by omega) | rfl | trace_state
      have ej : j = p.length := by simp only [List.length_map] at h; omega
      subst ej
      clear h
      rw [List.take_length]
      have hyes := nearL_yes (p := p) (i := i)
      have hno := nearL_no (p := p) (i := i)
      have hni := hnl i
      unfold missP at hyes hno
      generalize (p.any fun q => decide (q.node = (i : Int))) = a0 at *
      cases a0 with
      | true =>
        have e1 := hno rfl
        conv => whnf
        refine ⟨i + 1, [(1002, 1002)], ⟨by omega, by omega⟩, ?_⟩
        rw [e1]
        conv => whnf
        (refine And.intro (And.intro (by with_unfolding_all rfl) (by intro q h; cases h)) ?_; refine And.intro ?_ (And.intro ?_ ?_) <;> (conv => whnf) <;> (repeat' (first | exact True.intro | (with_reducible exact rfl) | exact (rfl : List.replicate 0 PV.bad = []) | ((with_reducible refine And.intro ?_ ?_) <;> (first | (with_reducible exact wkV_same _ rfl) | exact wkV_pt rfl rfl | exact wkV_ow rfl rfl rfl | (refine wkV_ow rfl rfl ?_) | (refine wkV_sc (congrArg (Value.int .i64) ?_)) | (refine wkV_sc (congrArg Value.bool ?_)) | exact wkV_ls rfl | ((refine wkV_cl ?_); conv => whnf) | ((refine wkV_tu ?_); conv => whnf) | ((refine wkV_ag ?_); conv => whnf) | (conv => whnf))))))
        all_goals first | exact w1 (by omega) | rfl | trace_state
      | false =>
        have e1 : (nearL p (i + 1)).map Pl.enc = (nearL p i).map Pl.enc ++ [(⟨(i : Int), 1, 0, 0⟩ : Pl).enc] := by rw [hyes rfl, List.map_append]; rfl
        have hlm : ((nearL p i).map Pl.enc).length = (nearL p i).length := List.length_map ..
        conv => whnf
        have b1 : (((nearL p i).map Pl.enc).length + 1) * 32 ≤ 140737488355328 := by omega
        have b2 : ((nearL p i).map Pl.enc).length + 1 ≤ maxLen := leMax (by omega)
        (refine And.intro rfl ?_; (conv => whnf); refine And.intro (And.intro (And.intro (by kernel_rfl) (And.intro (Nat.le_refl _) (And.intro (b1) (And.intro (b2) (by intro r hr; rw [List.mem_singleton.1 hr]; rfl))))) (And.intro (by decide) rfl)) ?_; conv => whnf)
        refine ⟨i + 1, [(1002, 1280)], ⟨by omega, by omega⟩, ?_⟩
        rw [e1]
        conv => whnf
        (refine And.intro (And.intro (by with_unfolding_all rfl) (by intro q h; cases h)) ?_; refine And.intro ?_ (And.intro ?_ ?_) <;> (conv => whnf) <;> (repeat' (first | exact True.intro | (with_reducible exact rfl) | exact (rfl : List.replicate 0 PV.bad = []) | ((with_reducible refine And.intro ?_ ?_) <;> (first | (with_reducible exact wkV_same _ rfl) | exact wkV_pt rfl rfl | exact wkV_ow rfl rfl rfl | (refine wkV_ow rfl rfl ?_) | (refine wkV_sc (congrArg (Value.int .i64) ?_)) | (refine wkV_sc (congrArg Value.bool ?_)) | exact wkV_ls rfl | ((refine wkV_cl ?_); conv => whnf) | ((refine wkV_tu ?_); conv => whnf) | ((refine wkV_ag ?_); conv => whnf) | (conv => whnf))))))
        all_goals first | exact w1 (by omega) | (refine obj_eq (by kernel_rfl) ?_; rw [List.take_of_length_le (Nat.le_refl _)]; done) | (refine obj_eq (by kernel_rfl) ?_; rw [List.take_of_length_le (Nat.le_refl _)]; rfl) | (rw [List.length_append]; done) | (rw [List.length_append]; rfl) | rfl | trace_state
    have ei : i = 7 := by omega
    subst ei
    clear h
    rcases kn with kn | kn
    · conv => whnf
      ((try ((refine Exists.intro none ?_); (conv => whnf))); (first | (with_reducible refine And.intro (Nat.le_of_eq (Nat.zero_add _)) ?_) | (refine And.intro (by simp only [List.length_map, List.length_set, Nat.zero_add]; omega) ?_)); conv => whnf)
      ((try ((refine Exists.intro none ?_); (conv => whnf))); first | (refine call_eq (kn) (by simp only [List.drop_zero, List.take_length]) ?_; conv => whnf))
      ((try ((refine Exists.intro none ?_); (conv => whnf))); first | ((with_reducible refine call_by (c_wakes19) ?_); conv => whnf))
      exact exit_plain rfl rfl
    · conv => whnf
      ((try ((refine Exists.intro none ?_); (conv => whnf))); (first | (with_reducible refine And.intro (Nat.le_of_eq (Nat.zero_add _)) ?_) | (refine And.intro (by simp only [List.length_map, List.length_set, Nat.zero_add]; omega) ?_)); conv => whnf)
      ((try ((refine Exists.intro none ?_); (conv => whnf))); first | (refine call_eq (kn) (by simp only [List.drop_zero, List.take_length]) ?_; conv => whnf))
      (refine Exists.intro _ (And.intro rfl (And.intro (by intro q _; simp only [List.length_nil]; omega) (And.intro (by intro i hi; exact absurd hi (Nat.not_lt_zero i)) ?_))); conv => whnf)
      ((try ((refine Exists.intro none ?_); (conv => whnf))); first | ((with_reducible refine call_by (ksame) ?_); conv => whnf))
      ((try ((refine Exists.intro none ?_); (conv => whnf))); first | ((with_reducible refine call_by (c_wakes19) ?_); conv => whnf))
      exact exit_plain rfl rfl
theorem argS_Mgs {p : PV} (h : ArgOfS Try.prog 47 p) : ∃ xs : List Mg, p = .sl 16 (xs.map Mg.enc) ∧ ∀ x ∈ xs, MgS x := by
  obtain ⟨rows, e, _, hr⟩ := tyS_slice (e := 58) 16 (by kernel_rfl) (by kernel_rfl) (by decide) (argOfS_one (by kernel_rfl) h)
  cases e
  obtain ⟨xs, rfl, hx⟩ := rows_map (f := Mg.enc) (ok := MgS) (rows := rows) fun r hr' => by
    obtain ⟨n, hn⟩ := hr r hr'
    cases n with
    | zero => exact hn.elim
    | succ n =>
      obtain ⟨x, rfl, _⟩ := typedS_Mg hn
      exact ⟨x, rfl, n + 1, hn⟩
  exact ⟨xs, rfl, hx⟩
theorem told_RelayNear (qs : List PV) (h : ArgsOfS Try.prog [47, 22, 3] qs) : Ctr Try.prog 8 qs (bv true) [] := by
  obtain ⟨p1, qs, rfl, h1, h⟩ := argsOfS_cons h
  obtain ⟨p2, qs, rfl, h2, h⟩ := argsOfS_cons h
  obtain ⟨p3, qs, rfl, h3, h⟩ := argsOfS_cons h
  obtain rfl := argsOfS_nil h
  obtain ⟨l, rfl, hl⟩ := argS_Mgs h1
  obtain ⟨p, rfl, _⟩ := arg_Pls h2.arg
  obtain ⟨frm, rfl, _⟩ := arg_i h3.arg
  exact l_RelayNear l hl p frm
end Go.Proofs
