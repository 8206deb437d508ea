/- Contracts of functions: clones; questions, who has answered them, which are ready. -/
import Derived.Test.YtnphfgphajejaaaC14
namespace Go.Proofs
open Go.Pv
set_option maxRecDepth 100000

theorem c_CloneReads (l : List Rd) (h : l.length ≤ 4294967296) : Ctr Try.prog 174 [.sl 13 (l.map Rd.enc)] (.ow 0 0 (l.map Rd.enc).length) [(13, l.map Rd.enc)] := by
  have h' : (l.map Rd.enc).length ≤ 4294967296 := by simpa using h
  refine spec_of_body mixed Try.func174 rfl (by kernel_rfl) (by kernel_rfl) ?_; conv => whnf
  refine ⟨fun e => ?_, ?_⟩ <;> conv => whnf
  · have : l = [] := by simpa using e
    subst this
    exact exit_nil 13
  · refine ⟨rfl, ?_⟩
    conv => whnf
    refine ⟨⟨⟨small h' (by kernel_rfl), smallM h'⟩, rfl⟩, ?_⟩
    conv => whnf
    exact exit_own [(0, 112)] rfl ⟨rfl, True.intro⟩ (wkV_ow rfl rfl rfl)

theorem c_CloneEntries (l : List Ent) (h : l.length ≤ 4294967296) : Ctr Try.prog 207 [.sl 16 (l.map Ent.enc)] (.ow 0 0 (l.map Ent.enc).length) [(16, l.map Ent.enc)] := by
  have h' : (l.map Ent.enc).length ≤ 4294967296 := by simpa using h
  refine spec_of_body mixed Try.func207 rfl (by kernel_rfl) (by kernel_rfl) ?_; conv => whnf
  refine ⟨fun e => ?_, ?_⟩ <;> conv => whnf
  · have : l = [] := by simpa using e
    subst this
    exact exit_nil 16
  · refine ⟨rfl, ?_⟩
    conv => whnf
    refine ⟨⟨⟨small h' (by kernel_rfl), smallM h'⟩, rfl⟩, ?_⟩
    conv => whnf
    exact exit_own [(0, 112)] rfl ⟨rfl, True.intro⟩ (wkV_ow rfl rfl rfl)

theorem c_CloneBytes (l : List Int) (h : l.length ≤ 4294967296) : Ctr Try.prog 208 [.sl 1 (l.map encB)] (.ow 0 0 (l.map encB).length) [(1, l.map encB)] := by
  have h' : (l.map encB).length ≤ 4294967296 := by simpa using h
  refine spec_of_body mixed Try.func208 rfl (by kernel_rfl) (by kernel_rfl) ?_; conv => whnf
  refine ⟨fun e => ?_, ?_⟩ <;> conv => whnf
  · have : l = [] := by simpa using e
    subst this
    exact exit_nil 1
  · refine ⟨rfl, ?_⟩
    conv => whnf
    refine ⟨⟨⟨small h' (by kernel_rfl), smallM h'⟩, rfl⟩, ?_⟩
    conv => whnf
    exact exit_own [(0, 112)] rfl ⟨rfl, True.intro⟩ (wkV_ow rfl rfl rfl)

noncomputable def ack1 (frm round : Int) (x : Rd) : Rd := if x.round ≤ round ∧ 0 ≤ frm ∧ frm < 7 then { x with acks := bor x.acks (shl 1 frm) } else x
noncomputable def ackL (l : List Rd) (frm round : Int) (i : Nat) : List Rd := (l.take i).map (ack1 frm round) ++ l.drop i
theorem ackL_len (l : List Rd) (frm round : Int) (i : Nat) : (ackL l frm round i).length = l.length := by
  simp [ackL]; omega
theorem ackL_at (l : List Rd) (frm round : Int) {i : Nat} (h : i < l.length) : ((ackL l frm round i).map Rd.enc)[i]? = some (l[i]'h).enc := by
  unfold ackL
  rw [List.getElem?_map, List.getElem?_append_right (by simp; omega)]
  simp [Nat.min_eq_left (Nat.le_of_lt h), h]
theorem ackL_succ (l : List Rd) (frm round : Int) {i : Nat} (h : i < l.length) : ackL l frm round (i + 1) = (ackL l frm round i).set i (ack1 frm round (l[i]'h)) := by
  unfold ackL
  rw [List.take_succ_eq_append_getElem h, List.map_append, List.append_assoc, List.set_append_right i (ack1 frm round (l[i]'h)) (by simp; omega)]
  rw [List.drop_eq_getElem_cons h]
  simp only [List.length_map, List.length_take, Nat.min_eq_left (Nat.le_of_lt h), Nat.sub_self, List.set_cons_zero, List.map_cons, List.map_nil, List.cons_append, List.nil_append]
theorem ackL_end (l : List Rd) (frm round : Int) : ackL l frm round l.length = l.map (ack1 frm round) := by simp [ackL]

theorem c_Ack (l : List Rd) (hl : l.length ≤ 4294967296) (frm round : Int) : Ctr Try.prog 76 [.sl 13 (l.map Rd.enc), iv frm, iv round] (.ow 0 0 ((l.map (ack1 frm round)).map Rd.enc).length) [(13, (l.map (ack1 frm round)).map Rd.enc)] := by
  refine spec_of_body mixed Try.func76 rfl (by kernel_rfl) (by kernel_rfl) ?_; conv => whnf
  (first | ((with_reducible refine call_by (c_CloneReads l hl) ?_); conv => whnf))
  refine ⟨_, rfl, (by intro q hq; cases hq), (by intro i hi; rfl), ?_⟩
  conv => whnf
  refine tri_forO mixed (by kernel_rfl) (fun i : Nat => i ≤ l.length) (fun i => [(13, iv i)]) (fun _ => []) (fun i => [(160, some (false, 13, (ackL l frm round i).map Rd.enc))]) [(160, 160)] (fun i => l.length - i) 0 (Nat.zero_le _) ?_ ?_
  · conv => whnf
    (refine And.intro (And.intro (by with_unfolding_all rfl) (by intro q h; cases h)) ?_; refine And.intro ?_ (And.intro ?_ ?_) <;> (conv => whnf) <;> (repeat' (first | exact True.intro | (with_reducible exact rfl) | exact (rfl : List.replicate 0 PV.bad = []) | ((with_reducible refine And.intro ?_ ?_) <;> (first | (with_reducible exact wkV_same _ rfl) | exact wkV_pt rfl rfl | exact wkV_ow rfl rfl rfl | (refine wkV_ow rfl rfl ?_) | (refine wkV_sc (congrArg (Value.int .i64) ?_)) | (refine wkV_sc (congrArg Value.bool ?_)) | ((refine wkV_tu ?_); conv => whnf) | ((refine wkV_ag ?_); conv => whnf) | (conv => whnf))))))
    · rfl
    · rfl
  intro i hi
  conv => whnf
  ((first | (with_reducible refine split_dec (fun h => ?_) (fun h => ?_)) | (with_reducible refine split_beq (fun h => ?_) (fun h => ?_)) | (with_reducible refine split_bne (fun h => ?_) (fun h => ?_)) | (with_reducible refine split_not (fun h => ?_) (fun h => ?_)) | (with_reducible refine split_beqS (fun h => ?_) (fun h => ?_)) | (with_reducible refine split_intro (fun h => ?_) (fun h => ?_))) <;> conv => whnf)
  · simp only [List.length_map] at h
    have hlt : i < l.length := by omega
    have hrow : ((ackL l frm round i).map Rd.enc)[0 + ((i : Nat) : Int).toNat]? = some (l[i]'hlt).enc := by
      rw [Nat.zero_add]; exact ackL_at l frm round hlt
    have hidx : 0 ≤ ((i : Nat) : Int) ∧ ((i : Nat) : Int) < (((l.map Rd.enc).length : Nat) : Int) := by simp only [List.length_map]; omega
    have stay : ack1 frm round (l[i]'hlt) = l[i]'hlt → ackL l frm round (i + 1) = ackL l frm round i := by
      intro e
      rw [ackL_succ l frm round hlt, e]
      apply List.ext_getElem?
      intro j
      by_cases ej : i = j
      · subst ej
        rw [List.getElem?_set_self (by rw [ackL_len]; exact hlt)]
        have := ackL_at l frm round hlt
        unfold ackL
        rw [List.getElem?_append_right (by simp; omega)]
        simp [Nat.min_eq_left (Nat.le_of_lt hlt), hlt]
      · rw [List.getElem?_set_ne ej]
    refine ⟨hidx, ?_⟩
    conv => whnf
    refine ⟨_, hrow, ?_⟩
    conv => whnf
    ((first | (with_reducible refine split_dec (fun h => ?_) (fun h => ?_)) | (with_reducible refine split_beq (fun h => ?_) (fun h => ?_)) | (with_reducible refine split_bne (fun h => ?_) (fun h => ?_)) | (with_reducible refine split_not (fun h => ?_) (fun h => ?_)) | (with_reducible refine split_beqS (fun h => ?_) (fun h => ?_)) | (with_reducible refine split_intro (fun h => ?_) (fun h => ?_))) <;> conv => whnf)
    · have h1 := h
      ((first | (with_reducible refine split_dec (fun h => ?_) (fun h => ?_)) | (with_reducible refine split_beq (fun h => ?_) (fun h => ?_)) | (with_reducible refine split_bne (fun h => ?_) (fun h => ?_)) | (with_reducible refine split_not (fun h => ?_) (fun h => ?_)) | (with_reducible refine split_beqS (fun h => ?_) (fun h => ?_)) | (with_reducible refine split_intro (fun h => ?_) (fun h => ?_))) <;> conv => whnf)
      · have h2 := h
        ((first | (with_reducible refine split_dec (fun h => ?_) (fun h => ?_)) | (with_reducible refine split_beq (fun h => ?_) (fun h => ?_)) | (with_reducible refine split_bne (fun h => ?_) (fun h => ?_)) | (with_reducible refine split_not (fun h => ?_) (fun h => ?_)) | (with_reducible refine split_beqS (fun h => ?_) (fun h => ?_)) | (with_reducible refine split_intro (fun h => ?_) (fun h => ?_))) <;> conv => whnf)
        · refine ⟨hidx, ?_⟩
          conv => whnf
          refine ⟨_, hrow, ?_⟩
          conv => whnf
          refine ⟨⟨by decide, by omega⟩, ?_⟩
          conv => whnf
          refine ⟨hidx, ?_⟩
          conv => whnf
          refine ⟨_, hrow, ?_⟩
          conv => whnf
          refine ⟨i + 1, [(160, 160)], ⟨by omega, by omega⟩, ?_⟩
          conv => whnf
          (refine And.intro (And.intro (by with_unfolding_all rfl) (by intro q h; cases h)) ?_; refine And.intro ?_ (And.intro ?_ ?_) <;> (conv => whnf) <;> (repeat' (first | exact True.intro | (with_reducible exact rfl) | exact (rfl : List.replicate 0 PV.bad = []) | ((with_reducible refine And.intro ?_ ?_) <;> (first | (with_reducible exact wkV_same _ rfl) | exact wkV_pt rfl rfl | exact wkV_ow rfl rfl rfl | (refine wkV_ow rfl rfl ?_) | (refine wkV_sc (congrArg (Value.int .i64) ?_)) | (refine wkV_sc (congrArg Value.bool ?_)) | ((refine wkV_tu ?_); conv => whnf) | ((refine wkV_ag ?_); conv => whnf) | (conv => whnf))))))
          · rw [ackL_succ l frm round hlt, List.map_set]
            simp only [ack1, h1, h2, h, and_self, if_true]
            rw [Nat.zero_add, Int.toNat_natCast]
          · exact w1 (by omega)
        · have e := stay (by unfold ack1; rw [if_neg (fun x => h x.2.2)])
          refine ⟨i + 1, [(160, 160)], ⟨by omega, by omega⟩, ?_⟩
          conv => whnf
          (refine And.intro (And.intro (by with_unfolding_all rfl) (by intro q h; cases h)) ?_; refine And.intro ?_ (And.intro ?_ ?_) <;> (conv => whnf) <;> (repeat' (first | exact True.intro | (with_reducible exact rfl) | exact (rfl : List.replicate 0 PV.bad = []) | ((with_reducible refine And.intro ?_ ?_) <;> (first | (with_reducible exact wkV_same _ rfl) | exact wkV_pt rfl rfl | exact wkV_ow rfl rfl rfl | (refine wkV_ow rfl rfl ?_) | (refine wkV_sc (congrArg (Value.int .i64) ?_)) | (refine wkV_sc (congrArg Value.bool ?_)) | ((refine wkV_tu ?_); conv => whnf) | ((refine wkV_ag ?_); conv => whnf) | (conv => whnf))))))
          · rw [e]
          · exact w1 (by omega)
      · have e := stay (by unfold ack1; rw [if_neg (fun x => h x.2.1)])
        refine ⟨i + 1, [(160, 160)], ⟨by omega, by omega⟩, ?_⟩
        conv => whnf
        (refine And.intro (And.intro (by with_unfolding_all rfl) (by intro q h; cases h)) ?_; refine And.intro ?_ (And.intro ?_ ?_) <;> (conv => whnf) <;> (repeat' (first | exact True.intro | (with_reducible exact rfl) | exact (rfl : List.replicate 0 PV.bad = []) | ((with_reducible refine And.intro ?_ ?_) <;> (first | (with_reducible exact wkV_same _ rfl) | exact wkV_pt rfl rfl | exact wkV_ow rfl rfl rfl | (refine wkV_ow rfl rfl ?_) | (refine wkV_sc (congrArg (Value.int .i64) ?_)) | (refine wkV_sc (congrArg Value.bool ?_)) | ((refine wkV_tu ?_); conv => whnf) | ((refine wkV_ag ?_); conv => whnf) | (conv => whnf))))))
        · rw [e]
        · exact w1 (by omega)
    · have e := stay (by unfold ack1; rw [if_neg (fun x => h x.1)])
      refine ⟨i + 1, [(160, 160)], ⟨by omega, by omega⟩, ?_⟩
      conv => whnf
      (refine And.intro (And.intro (by with_unfolding_all rfl) (by intro q h; cases h)) ?_; refine And.intro ?_ (And.intro ?_ ?_) <;> (conv => whnf) <;> (repeat' (first | exact True.intro | (with_reducible exact rfl) | exact (rfl : List.replicate 0 PV.bad = []) | ((with_reducible refine And.intro ?_ ?_) <;> (first | (with_reducible exact wkV_same _ rfl) | exact wkV_pt rfl rfl | exact wkV_ow rfl rfl rfl | (refine wkV_ow rfl rfl ?_) | (refine wkV_sc (congrArg (Value.int .i64) ?_)) | (refine wkV_sc (congrArg Value.bool ?_)) | ((refine wkV_tu ?_); conv => whnf) | ((refine wkV_ag ?_); conv => whnf) | (conv => whnf))))))
      · rw [e]
      · exact w1 (by omega)
  · simp only [List.length_map] at h
    have : i = l.length := by omega
    subst this
    refine exit_own [(0, 160)] rfl ⟨?_, True.intro⟩ (wkV_ow rfl rfl (by simp))
    rw [ackL_end]
end Go.Proofs
