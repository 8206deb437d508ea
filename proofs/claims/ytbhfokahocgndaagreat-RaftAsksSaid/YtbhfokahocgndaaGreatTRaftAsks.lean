import Derived.Test.YtbhfokahocgndaaGreatQ2
import Derived.Test.YtbhfokahocgndaaGreatQ6
import Derived.Test.YtbhfokahocgndaaGreatK1
import Derived.Test.YtbhfokahocgndaaGreatC13
import Derived.Test.YtbhfokahocgndaaGreatC49
set_option linter.unusedSimpArgs false
set_option linter.unusedVariables false
namespace Go.Proofs
open Go.Pv
set_option maxRecDepth 100000

theorem heavyR_len' {r : Rft} (e : heavyR r = false) : r.hard.log.length ≤ 200 ∧ r.hard.snap.length ≤ 32768 ∧ r.reads.length ≤ 200 := by
  simp only [heavyR, heavyH, heavyEs, Bool.or_eq_false_iff, decide_eq_false_iff_not] at e
  obtain ⟨⟨⟨e1, _⟩, e2⟩, e3, _⟩ := e
  exact ⟨by omega, by omega, by omega⟩
/-- No replica. -/
abbrev rz : Rft := ⟨0, ⟨0, 0, 0, 0, cz, [], []⟩, 0, 0, 0, 0, 0, 0, 0, zA, zA, zA, []⟩
theorem rz_cells : ∀ {fz : List (Nat × Bool × Nat × List (List PV))}, WkV [] [] fz (.ag rzv) (.ag rz.enc) := by
  intro fz
  refine wkV_ag ?_
  conv => whnf
  repeat' (first | exact rfl | ((with_reducible refine And.intro ?_ ?_) <;> (first | (with_reducible exact wkV_same _ rfl) | exact .inr (.inl ⟨rfl, rfl⟩) | (conv => whnf))))
theorem rz_tu3 {f : Nat} {ps : List PV} {n e : Int} (k : Ctr Tryz.prog f ps (.tu [.ag rzv, iv n, iv e]) []) : Ctr Tryz.prog f ps (.tu [.ag rz.enc, iv n, iv e]) [] :=
  Ctr.frz (os := []) k (wkV_tu ⟨rz_cells, wkV_same _ rfl, wkV_same _ rfl, rfl⟩)
theorem rz_tu2 {f : Nat} {ps : List PV} {e : Int} (k : Ctr Tryz.prog f ps (.tu [.ag rzv, iv e]) []) : Ctr Tryz.prog f ps (.tu [.ag rz.enc, iv e]) [] :=
  Ctr.frz (os := []) k (wkV_tu ⟨rz_cells, wkV_same _ rfl, rfl⟩)
structure Tiny (X : Rft) : Prop where
  snap : X.hard.snap.length ≤ 4294967
  log : X.hard.log.length ≤ 4294967
  reads : X.reads.length ≤ 4294967
theorem rz_tiny : Tiny rz := ⟨Nat.zero_le _, Nat.zero_le _, Nat.zero_le _⟩
theorem Tiny.self {X : Rft} (h : Tiny X) : Ctr Tryz.prog 11 [.ag X.enc, .ag X.enc] (bv true) [] := s_Raft X (smallM (by have := h.snap; omega)) (smallM (by have := h.log; omega)) (smallM (by have := h.reads; omega))
theorem add_tiny {r : Rft} {x : Ent} (h : r.hard.snap.length ≤ 40000 ∧ r.hard.log.length ≤ 1000 ∧ r.reads.length ≤ 1000) : Tiny (addR r x) := by
  refine ⟨by show r.hard.snap.length ≤ _; omega, ?_, by show r.reads.length ≤ _; omega⟩
  show (r.hard.log ++ [x]).length ≤ _
  rw [List.length_append]
  show r.hard.log.length + 1 ≤ _
  omega
theorem prop_both (r : Rft) (c : VCall) (h : r.hard.snap.length ≤ 40000 ∧ r.hard.log.length ≤ 1000 ∧ r.reads.length ≤ 1000) (hR : rightB r = true) :
    ∃ (X : Rft) (n e : Int), Tiny X ∧ Ctr Tryz.prog 9 [.ag r.enc, .ag c.enc] (.tu [.ag X.enc, iv n, iv e]) [] ∧ Ctr Tryz.prog 10 [.ag r.enc, .ag c.enc] (.tu [.ag X.enc, iv n, iv e]) [] := by
  have hf := (rgt_of hR).fit (show r.hard.log.length < 4294967 by omega)
  by_cases he : propE r c = 0
  · exact ⟨_, _, _, add_tiny h, c_Prop_ok r c hf hR he, c_rProp_ok r c (by omega) hR he⟩
  · exact ⟨_, _, _, rz_tiny, rz_tu3 (c_Prop_err r c hf hR he), rz_tu3 (c_rProp_err r c (by omega) he)⟩
theorem chg_both (r : Rft) (c : Conf) (h : r.hard.snap.length ≤ 40000 ∧ r.hard.log.length ≤ 1000 ∧ r.reads.length ≤ 1000) (hR : rightB r = true) :
    ∃ (X : Rft) (n e : Int), Tiny X ∧ Ctr Tryz.prog 12 [.ag r.enc, .ag c.enc] (.tu [.ag X.enc, iv n, iv e]) [] ∧ Ctr Tryz.prog 13 [.ag r.enc, .ag c.enc] (.tu [.ag X.enc, iv n, iv e]) [] := by
  by_cases he : chgE r c = 0
  · exact ⟨_, _, _, add_tiny (r := nxR r c 7) h, c_Chg_ok r c (by omega) hR he, c_rChg_ok r c (by omega) hR he⟩
  · exact ⟨_, _, _, rz_tiny, rz_tu3 (c_Chg_err r c (by omega) hR he), rz_tu3 (c_rChg_err r c (by omega) hR he)⟩
theorem ask_both (r : Rft) (c : VCall) (h : r.hard.snap.length ≤ 40000 ∧ r.hard.log.length ≤ 1000 ∧ r.reads.length ≤ 1000) (hR : rightB r = true) :
    ∃ (X : Rft) (e : Int), Tiny X ∧ Ctr Tryz.prog 14 [.ag r.enc, .ag c.enc] (.tu [.ag X.enc, iv e]) [] ∧ Ctr Tryz.prog 15 [.ag r.enc, .ag c.enc] (.tu [.ag X.enc, iv e]) [] := by
  by_cases he : askE r c = 0
  · refine ⟨_, _, ⟨by show r.hard.snap.length ≤ _; omega, by show r.hard.log.length ≤ _; omega, ?_⟩, c_Ask_ok r c (by omega) hR he, c_rAsk_ok r c (by omega) hR he⟩
    show (r.reads ++ [qR r c]).length ≤ _
    rw [List.length_append]
    show r.reads.length + 1 ≤ _
    omega
  · exact ⟨_, _, rz_tiny, rz_tu2 (c_Ask_err r c (by omega) hR he), rz_tu2 (c_rAsk_err r c (by omega) hR he)⟩
set_option maxHeartbeats 4000000 in
theorem l_RaftAsks (r : Rft) (c : VCall) (d : Conf) (a : Int) (s : List Int) : Ctr Tryz.prog 3 [.ag r.enc, .ag c.enc, .ag d.enc, iv a, .sl 1 (s.map encB)] (bv true) [] := by
  have kr := c_Heavy15 r
  have kc := c_HeavyCmd c.cmd
  cases hr : heavyR r with
  | true =>
    rw [hr] at kr
    refine spec_of_body mixed Tryz.func3 rfl (by kernel_rfl) (by kernel_rfl) ?_; conv => whnf
    ((try ((refine Exists.intro none ?_); (conv => whnf))); first | ((with_reducible refine call_by (kr) ?_); conv => whnf))
    exact exit_plain rfl rfl
  | false =>
  rw [hr] at kr
  cases hcm : heavyCmd c.cmd with
  | true =>
    rw [hcm] at kc
    refine spec_of_body mixed Tryz.func3 rfl (by kernel_rfl) (by kernel_rfl) ?_; conv => whnf
    ((try ((refine Exists.intro none ?_); (conv => whnf))); first | ((with_reducible refine call_by (kr) ?_); conv => whnf))
    ((try ((refine Exists.intro none ?_); (conv => whnf))); first | ((with_reducible refine call_by (kc) ?_); conv => whnf))
    exact exit_plain rfl rfl
  | false =>
  rw [hcm] at kc
  obtain ⟨a1, a2, a3⟩ := heavyR_len' hr
  by_cases hs : 32768 < s.length
  · refine spec_of_body mixed Tryz.func3 rfl (by kernel_rfl) (by kernel_rfl) ?_; conv => whnf
    ((try ((refine Exists.intro none ?_); (conv => whnf))); first | ((with_reducible refine call_by (kr) ?_); conv => whnf))
    ((try ((refine Exists.intro none ?_); (conv => whnf))); first | ((with_reducible refine call_by (kc) ?_); conv => whnf))
    ((first | (with_reducible refine split_dec (fun h => ?_) (fun h => ?_)) | (with_reducible refine split_beq (fun h => ?_) (fun h => ?_)) | (with_reducible refine split_bne (fun h => ?_) (fun h => ?_)) | (with_reducible refine split_not (fun h => ?_) (fun h => ?_)) | (with_reducible refine split_beqS (fun h => ?_) (fun h => ?_)) | (with_reducible refine split_intro (fun h => ?_) (fun h => ?_))) <;> conv => whnf)
    · exact exit_plain rfl rfl
    · simp only [List.length_map] at h
      omega
  have kR := c_rRight r (smallM (by omega)) (smallM (by omega))
  cases hR : rightB r with
  | false =>
    rw [hR] at kR
    refine spec_of_body mixed Tryz.func3 rfl (by kernel_rfl) (by kernel_rfl) ?_; conv => whnf
    ((try ((refine Exists.intro none ?_); (conv => whnf))); first | ((with_reducible refine call_by (kr) ?_); conv => whnf))
    ((try ((refine Exists.intro none ?_); (conv => whnf))); first | ((with_reducible refine call_by (kc) ?_); conv => whnf))
    ((first | (with_reducible refine split_dec (fun h => ?_) (fun h => ?_)) | (with_reducible refine split_beq (fun h => ?_) (fun h => ?_)) | (with_reducible refine split_bne (fun h => ?_) (fun h => ?_)) | (with_reducible refine split_not (fun h => ?_) (fun h => ?_)) | (with_reducible refine split_beqS (fun h => ?_) (fun h => ?_)) | (with_reducible refine split_intro (fun h => ?_) (fun h => ?_))) <;> conv => whnf)
    · exact exit_plain rfl rfl
    clear h
    ((try ((refine Exists.intro none ?_); (conv => whnf))); first | ((with_reducible refine call_by (kR) ?_); conv => whnf))
    exact exit_plain rfl rfl
  | true =>
  rw [hR] at kR
  have hg := rgt_of hR
  have hf := hg.fit (by omega)
  have kt := c_TwinRaftV r hf.small
  refine spec_of_body mixed Tryz.func3 rfl (by kernel_rfl) (by kernel_rfl) ?_; conv => whnf
  ((try ((refine Exists.intro none ?_); (conv => whnf))); first | ((with_reducible refine call_by (kr) ?_); conv => whnf))
  ((try ((refine Exists.intro none ?_); (conv => whnf))); first | ((with_reducible refine call_by (kc) ?_); conv => whnf))
  ((first | (with_reducible refine split_dec (fun h => ?_) (fun h => ?_)) | (with_reducible refine split_beq (fun h => ?_) (fun h => ?_)) | (with_reducible refine split_bne (fun h => ?_) (fun h => ?_)) | (with_reducible refine split_not (fun h => ?_) (fun h => ?_)) | (with_reducible refine split_beqS (fun h => ?_) (fun h => ?_)) | (with_reducible refine split_intro (fun h => ?_) (fun h => ?_))) <;> conv => whnf)
  · simp only [List.length_map] at h
    omega
  clear h
  ((try ((refine Exists.intro none ?_); (conv => whnf))); first | ((with_reducible refine call_by (kR) ?_); conv => whnf))
  ((try ((refine Exists.intro none ?_); (conv => whnf))); first | ((with_reducible refine call_by (kt) ?_); conv => whnf))
  (refine Exists.intro _ (And.intro rfl (And.intro (by intro q _; simp only [List.length_nil]; omega) (And.intro (by intro i hi; exact absurd hi (Nat.not_lt_zero i)) ?_))); conv => whnf)
  have hsz : r.hard.snap.length ≤ 40000 ∧ r.hard.log.length ≤ 1000 ∧ r.reads.length ≤ 1000 := by omega
  obtain ⟨X1, n1, e1, t1, p1, p2⟩ := prop_both r c hsz hR
  have q1 := t1.self
  ((try ((refine Exists.intro none ?_); (conv => whnf))); first | ((with_reducible refine call_by (p1) ?_); conv => whnf))
  (refine Exists.intro _ (And.intro rfl (And.intro (by intro q _; simp only [List.length_nil]; omega) (And.intro (by intro i hi; exact absurd hi (Nat.not_lt_zero i)) ?_))); conv => whnf)
  ((try ((refine Exists.intro none ?_); (conv => whnf))); first | ((with_reducible refine call_by (p2) ?_); conv => whnf))
  (refine Exists.intro _ (And.intro rfl (And.intro (by intro q _; simp only [List.length_nil]; omega) (And.intro (by intro i hi; exact absurd hi (Nat.not_lt_zero i)) ?_))); conv => whnf)
  ((try ((refine Exists.intro none ?_); (conv => whnf))); first | ((with_reducible refine call_by (q1) ?_); conv => whnf))
  ((first | (with_reducible refine split_et rfl ?_) | (with_reducible refine split_bf rfl ?_) | (with_reducible refine split_t (beq_self_eq_true _) ?_) | (with_reducible refine split_f (bne_self_eq_false _) ?_)); conv => whnf)
  ((first | (with_reducible refine split_et rfl ?_) | (with_reducible refine split_bf rfl ?_) | (with_reducible refine split_t (beq_self_eq_true _) ?_) | (with_reducible refine split_f (bne_self_eq_false _) ?_)); conv => whnf)
  obtain ⟨X2, n2, e2, t2, p3, p4⟩ := chg_both r d hsz hR
  have q2 := t2.self
  ((try ((refine Exists.intro none ?_); (conv => whnf))); first | ((with_reducible refine call_by (p3) ?_); conv => whnf))
  (refine Exists.intro _ (And.intro rfl (And.intro (by intro q _; simp only [List.length_nil]; omega) (And.intro (by intro i hi; exact absurd hi (Nat.not_lt_zero i)) ?_))); conv => whnf)
  ((try ((refine Exists.intro none ?_); (conv => whnf))); first | ((with_reducible refine call_by (p4) ?_); conv => whnf))
  (refine Exists.intro _ (And.intro rfl (And.intro (by intro q _; simp only [List.length_nil]; omega) (And.intro (by intro i hi; exact absurd hi (Nat.not_lt_zero i)) ?_))); conv => whnf)
  ((try ((refine Exists.intro none ?_); (conv => whnf))); first | ((with_reducible refine call_by (q2) ?_); conv => whnf))
  ((first | (with_reducible refine split_et rfl ?_) | (with_reducible refine split_bf rfl ?_) | (with_reducible refine split_t (beq_self_eq_true _) ?_) | (with_reducible refine split_f (bne_self_eq_false _) ?_)); conv => whnf)
  ((first | (with_reducible refine split_et rfl ?_) | (with_reducible refine split_bf rfl ?_) | (with_reducible refine split_t (beq_self_eq_true _) ?_) | (with_reducible refine split_f (bne_self_eq_false _) ?_)); conv => whnf)
  obtain ⟨X3, e3, t3, p5, p6⟩ := ask_both r c hsz hR
  have q3 := t3.self
  ((try ((refine Exists.intro none ?_); (conv => whnf))); first | ((with_reducible refine call_by (p5) ?_); conv => whnf))
  (refine Exists.intro _ (And.intro rfl (And.intro (by intro q _; simp only [List.length_nil]; omega) (And.intro (by intro i hi; exact absurd hi (Nat.not_lt_zero i)) ?_))); conv => whnf)
  ((try ((refine Exists.intro none ?_); (conv => whnf))); first | ((with_reducible refine call_by (p6) ?_); conv => whnf))
  (refine Exists.intro _ (And.intro rfl (And.intro (by intro q _; simp only [List.length_nil]; omega) (And.intro (by intro i hi; exact absurd hi (Nat.not_lt_zero i)) ?_))); conv => whnf)
  ((try ((refine Exists.intro none ?_); (conv => whnf))); first | ((with_reducible refine call_by (q3) ?_); conv => whnf))
  ((first | (with_reducible refine split_et rfl ?_) | (with_reducible refine split_bf rfl ?_) | (with_reducible refine split_t (beq_self_eq_true _) ?_) | (with_reducible refine split_f (bne_self_eq_false _) ?_)); conv => whnf)
  have p7 := c_rfReady r (by omega) hR a
  have kv := c_rConf15 r (smallM (by omega))
  have p8 : Ctr Tryz.prog 17 [.sl 13 (r.reads.map Rd.enc), .ag (inForce r).enc, iv a] (.tu [.sl 13 ((r.reads.filter (rdy (inForce r) a)).map Rd.enc), .sl 13 ((r.reads.filter fun x => !rdy (inForce r) a x).map Rd.enc)]) [] :=
    Ctr.frz (c_rReady r.reads (by omega) (inForce r) a) (wkV_tu ⟨wkV_fz (b := false) (List.Mem.head _) rfl, wkV_fz (b := false) (List.Mem.tail _ (List.Mem.head _)) rfl, rfl⟩)
  have hl1 := List.length_filter_le (rdy (inForce r) a) r.reads
  have hl2 := List.length_filter_le (fun x => !rdy (inForce r) a x) r.reads
  have t4 : Tiny ({ r with reads := r.reads.filter fun x => !rdy (inForce r) a x } : Rft) := ⟨by show r.hard.snap.length ≤ _; omega, by show r.hard.log.length ≤ _; omega, by show (r.reads.filter fun x => !rdy (inForce r) a x).length ≤ _; omega⟩
  have q4 := t4.self
  have q5 := s_Reads (r.reads.filter (rdy (inForce r) a)) (smallM (by omega))
  generalize (r.reads.filter fun x => !rdy (inForce r) a x) = LF at *
  generalize r.reads.filter (rdy (inForce r) a) = RD at *
  ((try ((refine Exists.intro none ?_); (conv => whnf))); first | ((with_reducible refine call_by (p7) ?_); conv => whnf))
  (refine Exists.intro _ (And.intro rfl (And.intro (by intro q _; simp only [List.length_nil]; omega) (And.intro (by intro i hi; exact absurd hi (Nat.not_lt_zero i)) ?_))); conv => whnf)
  ((try ((refine Exists.intro none ?_); (conv => whnf))); first | ((with_reducible refine call_by (kv) ?_); conv => whnf))
  ((try ((refine Exists.intro none ?_); (conv => whnf))); first | ((with_reducible refine call_by (p8) ?_); conv => whnf))
  (refine Exists.intro _ (And.intro rfl (And.intro (by intro q _; simp only [List.length_nil]; omega) (And.intro (by intro i hi; exact absurd hi (Nat.not_lt_zero i)) ?_))); conv => whnf)
  ((try ((refine Exists.intro none ?_); (conv => whnf))); first | ((with_reducible refine call_by (kt) ?_); conv => whnf))
  (refine Exists.intro _ (And.intro rfl (And.intro (by intro q _; simp only [List.length_nil]; omega) (And.intro (by intro i hi; exact absurd hi (Nat.not_lt_zero i)) ?_))); conv => whnf)
  ((try ((refine Exists.intro none ?_); (conv => whnf))); first | ((with_reducible refine call_by (q4) ?_); conv => whnf))
  ((try ((refine Exists.intro none ?_); (conv => whnf))); first | ((with_reducible refine call_by (q5) ?_); conv => whnf))
  have p9 := c_rfCompact r (by omega) hR s (by omega)
  have hb := hf.base
  have p10 := c_rCompactW r.hard (by omega) (by unfold isI; omega) r.commit (hg.comI (by omega)) s (by omega)
  unfold resW at p10
  have kself := s_Raft r (smallM (by omega)) (smallM (by omega)) (smallM (by omega))
  by_cases he : compE r.hard r.commit s = 0
  · have t6 : Tiny ({ r with hard := compH r.hard r.commit s } : Rft) := by
      refine ⟨by show s.length ≤ _; omega, ?_, by show r.reads.length ≤ _; omega⟩
      show (r.hard.log.drop _).length ≤ _
      rw [List.length_drop]; omega
    have q6 := t6.self
    rw [if_pos he] at p9 p10
    generalize compH r.hard r.commit s = CH at *
    ((try ((refine Exists.intro none ?_); (conv => whnf))); first | ((with_reducible refine call_by (p9) ?_); conv => whnf))
    (refine Exists.intro _ (And.intro rfl (And.intro (by intro q _; simp only [List.length_nil]; omega) (And.intro (by intro i hi; exact absurd hi (Nat.not_lt_zero i)) ?_))); conv => whnf)
    ((try ((refine Exists.intro none ?_); (conv => whnf))); first | ((with_reducible refine call_by (p10) ?_); conv => whnf))
    (refine Exists.intro _ (And.intro rfl (And.intro (by intro q _; simp only [List.length_nil]; omega) (And.intro (by intro i hi; exact absurd hi (Nat.not_lt_zero i)) ?_))); conv => whnf)
    ((try ((refine Exists.intro none ?_); (conv => whnf))); first | ((with_reducible refine call_by (kt) ?_); conv => whnf))
    (refine Exists.intro _ (And.intro rfl (And.intro (by intro q _; simp only [List.length_nil]; omega) (And.intro (by intro i hi; exact absurd hi (Nat.not_lt_zero i)) ?_))); conv => whnf)
    ((try ((refine Exists.intro none ?_); (conv => whnf))); first | ((with_reducible refine call_by (q6) ?_); conv => whnf))
    ((try ((refine Exists.intro none ?_); (conv => whnf))); first | ((with_reducible refine call_by (kself) ?_); conv => whnf))
    ((try ((refine Exists.intro none ?_); (conv => whnf))); first | ((with_reducible refine call_by (c_wakes18) ?_); conv => whnf))
    exact exit_plain rfl rfl
  · rw [if_neg he] at p9 p10
    generalize compE r.hard r.commit s = E at *
    ((try ((refine Exists.intro none ?_); (conv => whnf))); first | ((with_reducible refine call_by (p9) ?_); conv => whnf))
    ((try ((refine Exists.intro none ?_); (conv => whnf))); first | ((with_reducible refine call_by (p10) ?_); conv => whnf))
    ((try ((refine Exists.intro none ?_); (conv => whnf))); first | ((with_reducible refine call_by (kt) ?_); conv => whnf))
    (refine Exists.intro _ (And.intro rfl (And.intro (by intro q _; simp only [List.length_nil]; omega) (And.intro (by intro i hi; exact absurd hi (Nat.not_lt_zero i)) ?_))); conv => whnf)
    ((first | (with_reducible refine split_dec (fun h => ?_) (fun h => ?_)) | (with_reducible refine split_beq (fun h => ?_) (fun h => ?_)) | (with_reducible refine split_bne (fun h => ?_) (fun h => ?_)) | (with_reducible refine split_not (fun h => ?_) (fun h => ?_)) | (with_reducible refine split_beqS (fun h => ?_) (fun h => ?_)) | (with_reducible refine split_intro (fun h => ?_) (fun h => ?_))) <;> conv => whnf)
    · ((first | (with_reducible refine split_et rfl ?_) | (with_reducible refine split_bf rfl ?_) | (with_reducible refine split_t (beq_self_eq_true _) ?_) | (with_reducible refine split_f (bne_self_eq_false _) ?_)); conv => whnf)
      have q7 := rz_tiny.self
      ((try ((refine Exists.intro none ?_); (conv => whnf))); refine call_deep (q7) (by (repeat' (first | exact subVL_nil | exact subVR_nil | refine subVL_cons ?_ ?_ | refine subVR_cons ?_ ?_ | exact SubV.refl _ | exact subV_nl | (with_reducible exact subV_tk rfl) | refine subV_ag ?_ | refine subV_sl ?_ | refine subV_ep ?_))) ?_; conv => whnf)
      ((try ((refine Exists.intro none ?_); (conv => whnf))); first | ((with_reducible refine call_by (kself) ?_); conv => whnf))
      ((try ((refine Exists.intro none ?_); (conv => whnf))); first | ((with_reducible refine call_by (c_wakes18) ?_); conv => whnf))
      exact exit_plain rfl rfl
    · exact absurd (by first | exact h | (simpa using h)) he
theorem told_RaftAsks (qs : List PV) (h : ArgsOf Tryz.prog [31, 38, 23, 3, 24] qs) : Ctr Tryz.prog 3 qs (bv true) [] := by
  obtain ⟨p1, qs, rfl, h1, h⟩ := argsOf_cons h
  obtain ⟨p2, qs, rfl, h2, h⟩ := argsOf_cons h
  obtain ⟨p3, qs, rfl, h3, h⟩ := argsOf_cons h
  obtain ⟨p4, qs, rfl, h4, h⟩ := argsOf_cons h
  obtain ⟨p5, qs, rfl, h5, h⟩ := argsOf_cons h
  obtain rfl := argsOf_nil h
  obtain ⟨r, rfl, _⟩ := arg_Rft h1
  obtain ⟨c, rfl, _⟩ := arg_VCall h2
  obtain ⟨d, rfl, _⟩ := arg_Conf h3
  obtain ⟨a, rfl, _⟩ := arg_i h4
  obtain ⟨s, rfl, _⟩ := arg_bytes h5
  exact l_RaftAsks r c d a s
end Go.Proofs
