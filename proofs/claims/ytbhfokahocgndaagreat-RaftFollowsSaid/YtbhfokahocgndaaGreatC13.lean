import Derived.Test.YtbhfokahocgndaaGreatC6
import Derived.Test.YtbhfokahocgndaaGreatPvN
/- Contracts of functions: what is compared with itself is the same. -/
set_option linter.unusedSimpArgs false
set_option linter.unusedVariables false
namespace Go.Proofs
open Go.Pv
set_option maxRecDepth 100000

theorem c_bits (x : Nat) : Ctr Tryz.prog 154 [.sc (.float .f64 x)] (.sc (.int .u64 x)) [] := by
  refine ctr_extern (e := Go.Extern.MathFloatBits.float64bits) Tryz.func154 (by kernel_rfl) (by kernel_rfl) (by kernel_rfl) (by kernel_rfl) ?_
  intro w M vs hv
  simp only [RVL, RV] at hv
  obtain ⟨c, r, rfl, rfl, rfl⟩ := hv
  rfl

theorem s_Float (x : Nat) : Ctr Tryz.prog 158 [.sc (.float .f64 x), .sc (.float .f64 x)] (bv true) [] := by
  refine spec_of_body mixed Tryz.func158 rfl (by kernel_rfl) (by kernel_rfl) ?_; conv => whnf
  repeat' (first | ((first | (first | (with_reducible refine split_dt (by assumption) ?_) | (with_reducible refine split_df (by assumption) ?_) | (with_reducible refine split_et (by assumption) ?_) | (with_reducible refine split_ef (by assumption) ?_) | (with_reducible refine split_bt (by assumption) ?_) | (with_reducible refine split_bf (by assumption) ?_) | (with_reducible refine split_nt (by assumption) ?_) | (with_reducible refine split_nf (by assumption) ?_) | (with_reducible refine split_t (by assumption) ?_) | (with_reducible refine split_f (by assumption) ?_)) | (first | (with_reducible refine split_dec (fun h => ?_) (fun h => ?_)) | (with_reducible refine split_beq (fun h => ?_) (fun h => ?_)) | (with_reducible refine split_bne (fun h => ?_) (fun h => ?_)) | (with_reducible refine split_not (fun h => ?_) (fun h => ?_)) | (with_reducible refine split_beqS (fun h => ?_) (fun h => ?_)) | (with_reducible refine split_intro (fun h => ?_) (fun h => ?_)))) <;> conv => whnf) | ((try ((refine Exists.intro none ?_); (conv => whnf))); first | ((with_reducible refine call_by (c_bits x) ?_); conv => whnf)))
  all_goals (refine exit_plain rfl ?_)
  all_goals first | rfl | simp_all
theorem s_Value (x : VVal) : Ctr Tryz.prog 141 [.ag x.enc, .ag x.enc] (bv true) [] := by
  refine spec_of_body mixed Tryz.func141 rfl (by kernel_rfl) (by kernel_rfl) ?_; conv => whnf
  repeat' (first | ((first | (with_reducible refine split_et rfl ?_) | (with_reducible refine split_bf rfl ?_) | (with_reducible refine split_t (beq_self_eq_true _) ?_) | (with_reducible refine split_f (bne_self_eq_false _) ?_)); conv => whnf) | ((try ((refine Exists.intro none ?_); (conv => whnf))); first | ((with_reducible refine call_by (s_Float x.num) ?_); conv => whnf)))
  exact exit_plain rfl (by simp)
theorem s_Cmd (x : VCmd) : Ctr Tryz.prog 107 [.ag x.enc, .ag x.enc] (bv true) [] := by
  refine spec_of_body mixed Tryz.func107 rfl (by kernel_rfl) (by kernel_rfl) ?_; conv => whnf
  repeat' (first | ((first | (with_reducible refine split_et rfl ?_) | (with_reducible refine split_bf rfl ?_) | (with_reducible refine split_t (beq_self_eq_true _) ?_) | (with_reducible refine split_f (bne_self_eq_false _) ?_)); conv => whnf) | ((try ((refine Exists.intro none ?_); (conv => whnf))); first | ((with_reducible refine call_by (s_Value x.old) ?_); conv => whnf) | ((with_reducible refine call_by (s_Value x.val) ?_); conv => whnf)))
  exact exit_plain rfl (by simp)
theorem s_Call (x : VCall) : Ctr Tryz.prog 63 [.ag x.enc, .ag x.enc] (bv true) [] := by
  refine spec_of_body mixed Tryz.func63 rfl (by kernel_rfl) (by kernel_rfl) ?_; conv => whnf
  repeat' (first | ((first | (with_reducible refine split_et rfl ?_) | (with_reducible refine split_bf rfl ?_) | (with_reducible refine split_t (beq_self_eq_true _) ?_) | (with_reducible refine split_f (bne_self_eq_false _) ?_)); conv => whnf) | ((try ((refine Exists.intro none ?_); (conv => whnf))); first | ((with_reducible refine call_by (s_Cmd x.cmd) ?_); conv => whnf)))
  exact exit_plain rfl (by simp)
theorem s_Conf (a : Conf) : Ctr Tryz.prog 55 [.ag a.enc, .ag a.enc] (bv true) [] := by
  refine spec_of_body mixed Tryz.func55 rfl (by kernel_rfl) (by kernel_rfl) ?_; conv => whnf
  repeat' ((first | (with_reducible refine split_et rfl ?_) | (with_reducible refine split_bf rfl ?_) | (with_reducible refine split_t (beq_self_eq_true _) ?_) | (with_reducible refine split_f (bne_self_eq_false _) ?_)); conv => whnf)
  exact exit_plain rfl (by simp)
theorem s_Entry (x : Ent) : Ctr Tryz.prog 80 [.ag x.enc, .ag x.enc] (bv true) [] := by
  refine spec_of_body mixed Tryz.func80 rfl (by kernel_rfl) (by kernel_rfl) ?_; conv => whnf
  repeat' (first | ((first | (with_reducible refine split_et rfl ?_) | (with_reducible refine split_bf rfl ?_) | (with_reducible refine split_t (beq_self_eq_true _) ?_) | (with_reducible refine split_f (bne_self_eq_false _) ?_)); conv => whnf) | ((try ((refine Exists.intro none ?_); (conv => whnf))); first | ((with_reducible refine call_by (s_Call x.call) ?_); conv => whnf) | ((with_reducible refine call_by (s_Conf x.conf) ?_); conv => whnf)))
  exact exit_plain rfl (by simp)
theorem s_Entries (l : List Ent) (hm : l.length ≤ maxLen) : Ctr Tryz.prog 31 [.sl 16 (l.map Ent.enc), .sl 16 (l.map Ent.enc)] (bv true) [] := by
  have hm' : l.length ≤ 9223372036854775807 := Nat.le_trans hm (by decide)
  refine spec_of_body mixed Tryz.func31 rfl (by kernel_rfl) (by kernel_rfl) ?_; conv => whnf
  ((first | (with_reducible refine split_et rfl ?_) | (with_reducible refine split_bf rfl ?_) | (with_reducible refine split_t (beq_self_eq_true _) ?_) | (with_reducible refine split_f (bne_self_eq_false _) ?_)); conv => whnf)
  refine tri_for0 mixed (by kernel_rfl) (fun i : Nat => i ≤ l.length) (fun i => [(5, iv i)]) [] (fun i => l.length - i) 0 (Nat.zero_le _) ?_ ?_
  · conv => whnf
    (refine And.intro (And.intro (by with_unfolding_all rfl) (by intro q h; cases h)) ?_; refine And.intro ?_ (And.intro ?_ ?_) <;> (conv => whnf) <;> (repeat' (first | exact True.intro | (with_reducible exact rfl) | exact (rfl : List.replicate 0 PV.bad = []) | ((with_reducible refine And.intro ?_ ?_) <;> (first | (with_reducible exact wkV_same _ rfl) | exact wkV_pt rfl rfl | exact wkV_ow rfl rfl rfl | (refine wkV_ow rfl rfl ?_) | (refine wkV_sc (congrArg (Value.int .i64) ?_)) | (refine wkV_sc (congrArg Value.bool ?_)) | exact wkV_ls rfl | ((refine wkV_cl ?_); conv => whnf) | ((refine wkV_tu ?_); conv => whnf) | ((refine wkV_ag ?_); conv => whnf) | (conv => whnf))))))
    all_goals rfl
  intro i hi
  conv => whnf
  ((first | (with_reducible refine split_dec (fun h => ?_) (fun h => ?_)) | (with_reducible refine split_beq (fun h => ?_) (fun h => ?_)) | (with_reducible refine split_bne (fun h => ?_) (fun h => ?_)) | (with_reducible refine split_not (fun h => ?_) (fun h => ?_)) | (with_reducible refine split_beqS (fun h => ?_) (fun h => ?_)) | (with_reducible refine split_intro (fun h => ?_) (fun h => ?_))) <;> conv => whnf)
  · simp only [List.length_map] at h
    have hlt : i < l.length := by omega
    refine ⟨by omega, _, row_at hlt, ?_⟩
    conv => whnf
    refine ⟨by omega, _, row_at hlt, ?_⟩
    conv => whnf
    ((try ((refine Exists.intro none ?_); (conv => whnf))); first | ((with_reducible refine call_by (s_Entry (l[i]'hlt)) ?_); conv => whnf))
    refine ⟨i + 1, ⟨by omega, by omega⟩, ?_⟩
    conv => whnf
    (refine And.intro (And.intro (by with_unfolding_all rfl) (by intro q h; cases h)) ?_; refine And.intro ?_ (And.intro ?_ ?_) <;> (conv => whnf) <;> (repeat' (first | exact True.intro | (with_reducible exact rfl) | exact (rfl : List.replicate 0 PV.bad = []) | ((with_reducible refine And.intro ?_ ?_) <;> (first | (with_reducible exact wkV_same _ rfl) | exact wkV_pt rfl rfl | exact wkV_ow rfl rfl rfl | (refine wkV_ow rfl rfl ?_) | (refine wkV_sc (congrArg (Value.int .i64) ?_)) | (refine wkV_sc (congrArg Value.bool ?_)) | exact wkV_ls rfl | ((refine wkV_cl ?_); conv => whnf) | ((refine wkV_tu ?_); conv => whnf) | ((refine wkV_ag ?_); conv => whnf) | (conv => whnf))))))
    exact w1 (by omega)
  · exact exit_plain rfl rfl
end Go.Proofs

/- Contracts of functions: twins; replicas compared with themselves. -/
namespace Go.Proofs
open Go.Pv
set_option maxRecDepth 100000

theorem small {n b : Nat} (h : n ≤ 4294967296) (hb : b.ble 1024 = true) : n * b ≤ 140737488355328 := by
  have h1 : b ≤ 1024 := Nat.le_of_ble_eq_true hb
  exact Nat.le_trans (Nat.mul_le_mul h h1) (by decide)
theorem smallM {n : Nat} (h : n ≤ 4294967296) : n ≤ maxLen := Nat.le_trans h (by decide)

/-- A hard state in memory of its own. -/
abbrev Hrd.own (x : Hrd) (k : Nat) : List PV := [iv x.term, iv x.vote, iv x.base, iv x.baseTerm, iv x.baseConf.full, iv x.baseConf.wit, iv x.baseConf.learn, iv x.baseConf.lwit, .ow k 0 (x.snap.map encB).length, .ow (k + 1) 0 (x.log.map Ent.enc).length]
abbrev Hrd.obs (x : Hrd) : List (Nat × List (List PV)) := [(1, x.snap.map encB), (16, x.log.map Ent.enc)]

abbrev Rft.own (x : Rft) (k : Nat) : List PV := [iv x.id] ++ x.hard.own k ++ [iv x.commit, iv x.role, iv x.lead, iv x.wait, iv x.quiet, iv x.votes, iv x.round] ++ x.next.enc ++ x.mtch.enc ++ x.silent.enc ++ [.ow (k + 2) 0 (x.reads.map Rd.enc).length]
abbrev Rft.obs (x : Rft) : List (Nat × List (List PV)) := [(1, x.hard.snap.map encB), (16, x.hard.log.map Ent.enc), (13, x.reads.map Rd.enc)]

end Go.Proofs

/- Contracts of functions: clones; questions, who has answered them, which are ready. -/
namespace Go.Proofs
open Go.Pv
set_option maxRecDepth 100000

theorem c_CloneReads (l : List Rd) (h : l.length ≤ 4294967296) : Ctr Tryz.prog 85 [.sl 13 (l.map Rd.enc)] (.ow 0 0 (l.map Rd.enc).length) [(13, l.map Rd.enc)] := by
  have h' : (l.map Rd.enc).length ≤ 4294967296 := by simpa using h
  refine spec_of_body mixed Tryz.func85 rfl (by kernel_rfl) (by kernel_rfl) ?_; conv => whnf
  refine ⟨fun e => ?_, ?_⟩ <;> conv => whnf
  · have : l = [] := by simpa using e
    subst this
    exact exit_nil 13
  · refine ⟨rfl, ?_⟩
    conv => whnf
    refine ⟨⟨⟨small h' (by kernel_rfl), smallM h'⟩, rfl⟩, ?_⟩
    conv => whnf
    exact exit_own [(0, 112)] rfl ⟨rfl, True.intro⟩ (wkV_ow rfl rfl rfl)

theorem c_CloneEntries (l : List Ent) (h : l.length ≤ 4294967296) : Ctr Tryz.prog 71 [.sl 16 (l.map Ent.enc)] (.ow 0 0 (l.map Ent.enc).length) [(16, l.map Ent.enc)] := by
  have h' : (l.map Ent.enc).length ≤ 4294967296 := by simpa using h
  refine spec_of_body mixed Tryz.func71 rfl (by kernel_rfl) (by kernel_rfl) ?_; conv => whnf
  refine ⟨fun e => ?_, ?_⟩ <;> conv => whnf
  · have : l = [] := by simpa using e
    subst this
    exact exit_nil 16
  · refine ⟨rfl, ?_⟩
    conv => whnf
    refine ⟨⟨⟨small h' (by kernel_rfl), smallM h'⟩, rfl⟩, ?_⟩
    conv => whnf
    exact exit_own [(0, 112)] rfl ⟨rfl, True.intro⟩ (wkV_ow rfl rfl rfl)

theorem c_CloneBytes (l : List Int) (h : l.length ≤ 4294967296) : Ctr Tryz.prog 70 [.sl 1 (l.map encB)] (.ow 0 0 (l.map encB).length) [(1, l.map encB)] := by
  have h' : (l.map encB).length ≤ 4294967296 := by simpa using h
  refine spec_of_body mixed Tryz.func70 rfl (by kernel_rfl) (by kernel_rfl) ?_; conv => whnf
  refine ⟨fun e => ?_, ?_⟩ <;> conv => whnf
  · have : l = [] := by simpa using e
    subst this
    exact exit_nil 1
  · refine ⟨rfl, ?_⟩
    conv => whnf
    refine ⟨⟨⟨small h' (by kernel_rfl), smallM h'⟩, rfl⟩, ?_⟩
    conv => whnf
    exact exit_own [(0, 112)] rfl ⟨rfl, True.intro⟩ (wkV_ow rfl rfl rfl)

noncomputable def ack1 (frm round : Int) (x : Rd) : Rd := if x.round ≤ round ∧ 0 ≤ frm ∧ frm < 7 then { x with acks := bor x.acks (shl 1 frm) } else x
noncomputable def ackL (l : List Rd) (frm round : Int) (i : Nat) : List Rd := (l.take i).map (ack1 frm round) ++ l.drop i
theorem ackL_len (l : List Rd) (frm round : Int) (i : Nat) : (ackL l frm round i).length = l.length := by
  simp [ackL]; omega
theorem ackL_at (l : List Rd) (frm round : Int) {i : Nat} (h : i < l.length) : ((ackL l frm round i).map Rd.enc)[i]? = some (l[i]'h).enc := by
  unfold ackL
  rw [List.getElem?_map, List.getElem?_append_right (by simp; omega)]
  simp [Nat.min_eq_left (Nat.le_of_lt h), h]
theorem ackL_succ (l : List Rd) (frm round : Int) {i : Nat} (h : i < l.length) : ackL l frm round (i + 1) = (ackL l frm round i).set i (ack1 frm round (l[i]'h)) := by
  unfold ackL
  rw [List.take_succ_eq_append_getElem h, List.map_append, List.append_assoc, List.set_append_right i (ack1 frm round (l[i]'h)) (by simp; omega)]
  rw [List.drop_eq_getElem_cons h]
  simp only [List.length_map, List.length_take, Nat.min_eq_left (Nat.le_of_lt h), Nat.sub_self, List.set_cons_zero, List.map_cons, List.map_nil, List.cons_append, List.nil_append]
theorem ackL_end (l : List Rd) (frm round : Int) : ackL l frm round l.length = l.map (ack1 frm round) := by simp [ackL]

theorem c_Ack (l : List Rd) (hl : l.length ≤ 4294967296) (frm round : Int) : Ctr Tryz.prog 150 [.sl 13 (l.map Rd.enc), iv frm, iv round] (.ow 0 0 ((l.map (ack1 frm round)).map Rd.enc).length) [(13, (l.map (ack1 frm round)).map Rd.enc)] := by
  refine spec_of_body mixed Tryz.func150 rfl (by kernel_rfl) (by kernel_rfl) ?_; conv => whnf
  ((try ((refine Exists.intro none ?_); (conv => whnf))); first | ((with_reducible refine call_by (c_CloneReads l hl) ?_); conv => whnf))
  refine ⟨_, rfl, (by intro q hq; cases hq), (by intro i hi; rfl), ?_⟩
  conv => whnf
  refine tri_forO mixed (by kernel_rfl) (fun i : Nat => i ≤ l.length) (fun i => [(13, iv i)]) (fun _ => []) (fun i => [(160, some (false, 13, (ackL l frm round i).map Rd.enc))]) [(160, 160)] (fun i => l.length - i) 0 (Nat.zero_le _) ?_ ?_
  · conv => whnf
    (refine And.intro (And.intro (by with_unfolding_all rfl) (by intro q h; cases h)) ?_; refine And.intro ?_ (And.intro ?_ ?_) <;> (conv => whnf) <;> (repeat' (first | exact True.intro | (with_reducible exact rfl) | exact (rfl : List.replicate 0 PV.bad = []) | ((with_reducible refine And.intro ?_ ?_) <;> (first | (with_reducible exact wkV_same _ rfl) | exact wkV_pt rfl rfl | exact wkV_ow rfl rfl rfl | (refine wkV_ow rfl rfl ?_) | (refine wkV_sc (congrArg (Value.int .i64) ?_)) | (refine wkV_sc (congrArg Value.bool ?_)) | exact wkV_ls rfl | ((refine wkV_cl ?_); conv => whnf) | ((refine wkV_tu ?_); conv => whnf) | ((refine wkV_ag ?_); conv => whnf) | (conv => whnf))))))
    · rfl
    · rfl
  intro i hi
  conv => whnf
  ((first | (with_reducible refine split_dec (fun h => ?_) (fun h => ?_)) | (with_reducible refine split_beq (fun h => ?_) (fun h => ?_)) | (with_reducible refine split_bne (fun h => ?_) (fun h => ?_)) | (with_reducible refine split_not (fun h => ?_) (fun h => ?_)) | (with_reducible refine split_beqS (fun h => ?_) (fun h => ?_)) | (with_reducible refine split_intro (fun h => ?_) (fun h => ?_))) <;> conv => whnf)
  · simp only [List.length_map] at h
    have hlt : i < l.length := by omega
    have hrow : ((ackL l frm round i).map Rd.enc)[0 + ((i : Nat) : Int).toNat]? = some (l[i]'hlt).enc := by
      rw [Nat.zero_add]; exact ackL_at l frm round hlt
    have hidx : 0 ≤ ((i : Nat) : Int) ∧ ((i : Nat) : Int) < (((l.map Rd.enc).length : Nat) : Int) := by simp only [List.length_map]; omega
    have stay : ack1 frm round (l[i]'hlt) = l[i]'hlt → ackL l frm round (i + 1) = ackL l frm round i := by
      intro e
      rw [ackL_succ l frm round hlt, e]
      apply List.ext_getElem?
      intro j
      by_cases ej : i = j
      · subst ej
        rw [List.getElem?_set_self (by rw [ackL_len]; exact hlt)]
        have := ackL_at l frm round hlt
        unfold ackL
        rw [List.getElem?_append_right (by simp; omega)]
        simp [Nat.min_eq_left (Nat.le_of_lt hlt), hlt]
      · rw [List.getElem?_set_ne ej]
    refine ⟨hidx, ?_⟩
    conv => whnf
    refine ⟨_, hrow, ?_⟩
    conv => whnf
    ((first | (with_reducible refine split_dec (fun h => ?_) (fun h => ?_)) | (with_reducible refine split_beq (fun h => ?_) (fun h => ?_)) | (with_reducible refine split_bne (fun h => ?_) (fun h => ?_)) | (with_reducible refine split_not (fun h => ?_) (fun h => ?_)) | (with_reducible refine split_beqS (fun h => ?_) (fun h => ?_)) | (with_reducible refine split_intro (fun h => ?_) (fun h => ?_))) <;> conv => whnf)
    · have h1 := h
      ((first | (with_reducible refine split_dec (fun h => ?_) (fun h => ?_)) | (with_reducible refine split_beq (fun h => ?_) (fun h => ?_)) | (with_reducible refine split_bne (fun h => ?_) (fun h => ?_)) | (with_reducible refine split_not (fun h => ?_) (fun h => ?_)) | (with_reducible refine split_beqS (fun h => ?_) (fun h => ?_)) | (with_reducible refine split_intro (fun h => ?_) (fun h => ?_))) <;> conv => whnf)
      · have h2 := h
        ((first | (with_reducible refine split_dec (fun h => ?_) (fun h => ?_)) | (with_reducible refine split_beq (fun h => ?_) (fun h => ?_)) | (with_reducible refine split_bne (fun h => ?_) (fun h => ?_)) | (with_reducible refine split_not (fun h => ?_) (fun h => ?_)) | (with_reducible refine split_beqS (fun h => ?_) (fun h => ?_)) | (with_reducible refine split_intro (fun h => ?_) (fun h => ?_))) <;> conv => whnf)
        · refine ⟨hidx, ?_⟩
          conv => whnf
          refine ⟨_, hrow, ?_⟩
          conv => whnf
          refine ⟨⟨by decide, by omega⟩, ?_⟩
          conv => whnf
          refine ⟨hidx, ?_⟩
          conv => whnf
          refine ⟨_, hrow, ?_⟩
          conv => whnf
          refine ⟨i + 1, [(160, 160)], ⟨by omega, by omega⟩, ?_⟩
          conv => whnf
          (refine And.intro (And.intro (by with_unfolding_all rfl) (by intro q h; cases h)) ?_; refine And.intro ?_ (And.intro ?_ ?_) <;> (conv => whnf) <;> (repeat' (first | exact True.intro | (with_reducible exact rfl) | exact (rfl : List.replicate 0 PV.bad = []) | ((with_reducible refine And.intro ?_ ?_) <;> (first | (with_reducible exact wkV_same _ rfl) | exact wkV_pt rfl rfl | exact wkV_ow rfl rfl rfl | (refine wkV_ow rfl rfl ?_) | (refine wkV_sc (congrArg (Value.int .i64) ?_)) | (refine wkV_sc (congrArg Value.bool ?_)) | exact wkV_ls rfl | ((refine wkV_cl ?_); conv => whnf) | ((refine wkV_tu ?_); conv => whnf) | ((refine wkV_ag ?_); conv => whnf) | (conv => whnf))))))
          · rw [ackL_succ l frm round hlt, List.map_set]
            simp only [ack1, h1, h2, h, and_self, if_true]
            rw [Nat.zero_add, Int.toNat_natCast]
          · exact w1 (by omega)
        · have e := stay (by unfold ack1; rw [if_neg (fun x => h x.2.2)])
          refine ⟨i + 1, [(160, 160)], ⟨by omega, by omega⟩, ?_⟩
          conv => whnf
          (refine And.intro (And.intro (by with_unfolding_all rfl) (by intro q h; cases h)) ?_; refine And.intro ?_ (And.intro ?_ ?_) <;> (conv => whnf) <;> (repeat' (first | exact True.intro | (with_reducible exact rfl) | exact (rfl : List.replicate 0 PV.bad = []) | ((with_reducible refine And.intro ?_ ?_) <;> (first | (with_reducible exact wkV_same _ rfl) | exact wkV_pt rfl rfl | exact wkV_ow rfl rfl rfl | (refine wkV_ow rfl rfl ?_) | (refine wkV_sc (congrArg (Value.int .i64) ?_)) | (refine wkV_sc (congrArg Value.bool ?_)) | exact wkV_ls rfl | ((refine wkV_cl ?_); conv => whnf) | ((refine wkV_tu ?_); conv => whnf) | ((refine wkV_ag ?_); conv => whnf) | (conv => whnf))))))
          · rw [e]
          · exact w1 (by omega)
      · have e := stay (by unfold ack1; rw [if_neg (fun x => h x.2.1)])
        refine ⟨i + 1, [(160, 160)], ⟨by omega, by omega⟩, ?_⟩
        conv => whnf
        (refine And.intro (And.intro (by with_unfolding_all rfl) (by intro q h; cases h)) ?_; refine And.intro ?_ (And.intro ?_ ?_) <;> (conv => whnf) <;> (repeat' (first | exact True.intro | (with_reducible exact rfl) | exact (rfl : List.replicate 0 PV.bad = []) | ((with_reducible refine And.intro ?_ ?_) <;> (first | (with_reducible exact wkV_same _ rfl) | exact wkV_pt rfl rfl | exact wkV_ow rfl rfl rfl | (refine wkV_ow rfl rfl ?_) | (refine wkV_sc (congrArg (Value.int .i64) ?_)) | (refine wkV_sc (congrArg Value.bool ?_)) | exact wkV_ls rfl | ((refine wkV_cl ?_); conv => whnf) | ((refine wkV_tu ?_); conv => whnf) | ((refine wkV_ag ?_); conv => whnf) | (conv => whnf))))))
        · rw [e]
        · exact w1 (by omega)
    · have e := stay (by unfold ack1; rw [if_neg (fun x => h x.1)])
      refine ⟨i + 1, [(160, 160)], ⟨by omega, by omega⟩, ?_⟩
      conv => whnf
      (refine And.intro (And.intro (by with_unfolding_all rfl) (by intro q h; cases h)) ?_; refine And.intro ?_ (And.intro ?_ ?_) <;> (conv => whnf) <;> (repeat' (first | exact True.intro | (with_reducible exact rfl) | exact (rfl : List.replicate 0 PV.bad = []) | ((with_reducible refine And.intro ?_ ?_) <;> (first | (with_reducible exact wkV_same _ rfl) | exact wkV_pt rfl rfl | exact wkV_ow rfl rfl rfl | (refine wkV_ow rfl rfl ?_) | (refine wkV_sc (congrArg (Value.int .i64) ?_)) | (refine wkV_sc (congrArg Value.bool ?_)) | exact wkV_ls rfl | ((refine wkV_cl ?_); conv => whnf) | ((refine wkV_tu ?_); conv => whnf) | ((refine wkV_ag ?_); conv => whnf) | (conv => whnf))))))
      · rw [e]
      · exact w1 (by omega)
  · simp only [List.length_map] at h
    have : i = l.length := by omega
    subst this
    refine exit_own [(0, 160)] rfl ⟨?_, True.intro⟩ (wkV_ow rfl rfl (by simp))
    rw [ackL_end]
end Go.Proofs
