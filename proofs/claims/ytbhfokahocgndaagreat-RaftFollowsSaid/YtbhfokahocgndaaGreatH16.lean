/- Contracts of functions: a leader learns of an answer. (genH16.py prints this) -/
import Derived.Test.YtbhfokahocgndaaGreatH14
import Derived.Test.YtbhfokahocgndaaGreatC13
set_option linter.unusedSimpArgs false
set_option linter.unusedVariables false
namespace Go.Proofs
open Go.Pv
set_option maxRecDepth 100000

abbrev lrnI (r : Rft) (m : Mg) : Int := if lastI r.hard < m.index then lastI r.hard else m.index
abbrev lrnNx (r : Rft) (m : Mg) : Arr := r.next.put m.frm.toNat (nxN (r.next.at m.frm.toNat) (r.mtch.at m.frm.toNat) m.yes (lrnI r m))
abbrev lrnMt (r : Rft) (m : Mg) : Arr := r.mtch.put m.frm.toNat (nxM (r.mtch.at m.frm.toNat) m.yes (lrnI r m))
noncomputable def lrnAll (r : Rft) (m : Mg) : Rft := if r.role = 3 then { r with silent := r.silent.put m.frm.toNat 0, next := lrnNx r m, mtch := lrnMt r m, reads := r.reads.map (ack1 m.frm m.round), commit := commitR r.hard r.commit (lrnMt r m) } else r
set_option maxHeartbeats 16000000 in
theorem c_learn (r : Rft) (hf : Fit r) (out : List (List PV)) (m : Mg) (hfr : 0 ≤ m.frm ∧ m.frm < 7) (hi : 0 ≤ m.index ∧ m.index ≤ 1099511627776)
    (hmt : ∀ i, i < 7 → 0 ≤ r.mtch.at i ∧ r.mtch.at i ≤ lastI r.hard) :
    CtrE Tryz.prog 123 [.pt 1000000 0, .ag m.enc] [(1000000, repI r out)] (obI r out) (.tu []) [(1000000, repX (lrnAll r m) out)] obX := by
  have hb := hf.base
  have hl0 := hf.log
  have hm : r.hard.log.length ≤ maxLen := smallM (by omega)
  have hla : lastI r.hard = r.hard.base + r.hard.log.length := lastI_sum hb.1 (by omega)
  have kl := c_Last r.hard hm
  have hn := hf.next
  have hix : -1152921504606846976 ≤ lrnI r m ∧ lrnI r m ≤ 1152921504606846976 := by unfold lrnI; split <;> omega
  have kn := fun (nx mt : Int) h1 h2 => c_gNext nx mt { m with index := lrnI r m } h1 h2 hix
  have kk := c_Ack r.reads (by have := hf.reads; omega) m.frm m.round
  have kc := fun a : Arr => c_Commit r.hard hm hb.1 (by omega) r.commit a
  unfold lrnAll
  refine spec_of_bodyE mixed Tryz.func123 rfl (by kernel_rfl) (by kernel_rfl) ?_; conv => whnf
  ((first | (with_reducible refine split_dec (fun h => ?_) (fun h => ?_)) | (with_reducible refine split_beq (fun h => ?_) (fun h => ?_)) | (with_reducible refine split_bne (fun h => ?_) (fun h => ?_)) | (with_reducible refine split_not (fun h => ?_) (fun h => ?_)) | (with_reducible refine split_beqS (fun h => ?_) (fun h => ?_)) | (with_reducible refine split_intro (fun h => ?_) (fun h => ?_))) <;> conv => whnf)
  · have h : ¬ r.role = 3 := h
    rw [if_neg h]
    (refine exitE_val 1000000 9 1000000 _ _ rfl rfl rfl rfl ?_; refine exitE_val 1000000 10 1000001 _ _ rfl rfl rfl rfl ?_; refine exitE_val 1000000 39 1000002 _ _ rfl rfl rfl rfl ?_; refine exitE_val 1000000 40 1000003 _ _ rfl rfl rfl rfl ?_; refine exitE_of [(1000000, 1000000), (1000001, 1000001), (1000002, 1000002), (1000003, 1000003)] [] ?_; (conv => whnf); (refine And.intro (And.intro (by with_unfolding_all rfl) (by intro q h; cases h)) ?_; refine And.intro ?_ (And.intro ?_ ?_) <;> (conv => whnf) <;> (repeat' (first | exact True.intro | (with_reducible exact rfl) | exact (rfl : List.replicate 0 PV.bad = []) | ((with_reducible refine And.intro ?_ ?_) <;> (first | (with_reducible exact wkV_same _ rfl) | exact wkV_pt rfl rfl | exact wkV_ow rfl rfl rfl | (refine wkV_ow rfl rfl ?_) | (refine wkV_sc (congrArg (Value.int .i64) ?_)) | (refine wkV_sc (congrArg Value.bool ?_)) | exact wkV_ls rfl | ((refine wkV_cl ?_); conv => whnf) | ((refine wkV_tu ?_); conv => whnf) | ((refine wkV_ag ?_); conv => whnf) | (conv => whnf)))))))
    all_goals first | rfl | exact .inl rfl | trace_state
  have h : r.role = 3 := by first | exact h | exact Classical.byContradiction h
  rw [if_pos h]
  unfold lrnNx lrnMt
  ((try ((refine Exists.intro none ?_); (conv => whnf))); (first | (with_reducible refine And.intro (Nat.le_of_eq (Nat.zero_add _)) ?_) | (refine And.intro (by simp only [List.length_map, List.length_set, Nat.zero_add]; omega) ?_)); conv => whnf)
  ((try ((refine Exists.intro none ?_); (conv => whnf))); (first | (with_reducible refine And.intro (Nat.le_of_eq (Nat.zero_add _)) ?_) | (refine And.intro (by simp only [List.length_map, List.length_set, Nat.zero_add]; omega) ?_)); conv => whnf)
  ((try ((refine Exists.intro none ?_); (conv => whnf))); first | (refine call_eq (kl) (by simp only [List.drop_zero, List.take_length]) ?_; conv => whnf))
  refine ⟨⟨hfr.1, hfr.2⟩, ?_⟩
  have hnx := hn m.frm.toNat (by omega)
  have hmx := hmt m.frm.toNat (by omega)
  rcases put_cases hfr with e | e | e | e | e | e | e
  · have kn := kn r.next.a0 r.mtch.a0 (by rw [e] at hnx; have hnx : 0 ≤ r.next.a0 ∧ r.next.a0 ≤ 1099511627776 := hnx; omega) (by rw [e] at hmx; have hmx : 0 ≤ r.mtch.a0 ∧ r.mtch.a0 ≤ lastI r.hard := hmx; omega)
    rw [e]
    conv => whnf
    refine ⟨⟨hfr.1, hfr.2⟩, ?_⟩
    rw [e]
    conv => whnf
    refine ⟨⟨hfr.1, hfr.2⟩, ?_⟩
    rw [e]
    conv => whnf
    ((try ((refine Exists.intro none ?_); (conv => whnf))); first | (refine call_eq (kn) (by simp only [List.drop_zero, List.take_length]) ?_; conv => whnf))
    refine ⟨⟨hfr.1, hfr.2⟩, ?_⟩
    rw [e]
    conv => whnf
    refine ⟨⟨hfr.1, hfr.2⟩, ?_⟩
    rw [e]
    conv => whnf
    ((try ((refine Exists.intro none ?_); (conv => whnf))); (first | (with_reducible refine And.intro (Nat.le_of_eq (Nat.zero_add _)) ?_) | (refine And.intro (by simp only [List.length_map, List.length_set, Nat.zero_add]; omega) ?_)); conv => whnf)
    ((try ((refine Exists.intro none ?_); (conv => whnf))); first | (refine call_eq (kk) (by simp only [List.drop_zero, List.take_length]) ?_; conv => whnf))
    (refine Exists.intro _ (And.intro rfl (And.intro (by intro q hq; first | (cases hq; done) | (simp only [List.mem_cons, List.not_mem_nil, or_false] at hq; rcases hq with rfl | rfl <;> (simp only [List.length_cons, List.length_nil]; omega)) | (simp only [List.mem_cons, List.not_mem_nil, or_false] at hq; subst hq; simp only [List.length_cons, List.length_nil]; omega)) (And.intro (by intro i hi; simp only [List.length_cons, List.length_nil, Nat.lt_one_iff, Nat.zero_add] at hi; subst hi; rfl) ?_))); conv => whnf)
    ((try ((refine Exists.intro none ?_); (conv => whnf))); (first | (with_reducible refine And.intro (Nat.le_of_eq (Nat.zero_add _)) ?_) | (refine And.intro (by simp only [List.length_map, List.length_set, Nat.zero_add]; omega) ?_)); conv => whnf)
    ((try ((refine Exists.intro none ?_); (conv => whnf))); (first | (with_reducible refine And.intro (Nat.le_of_eq (Nat.zero_add _)) ?_) | (refine And.intro (by simp only [List.length_map, List.length_set, Nat.zero_add]; omega) ?_)); conv => whnf)
    ((try ((refine Exists.intro none ?_); (conv => whnf))); first | (refine call_eq (kc ⟨nxM r.mtch.a0 m.yes (lrnI r m), r.mtch.a1, r.mtch.a2, r.mtch.a3, r.mtch.a4, r.mtch.a5, r.mtch.a6⟩) (by simp only [List.drop_zero, List.take_length]) ?_; conv => whnf))
    (refine exitE_val 1000000 9 1000000 _ _ rfl rfl rfl rfl ?_; refine exitE_val 1000000 10 1000001 _ _ rfl rfl rfl rfl ?_; refine exitE_val 1000000 39 1248 _ _ rfl rfl rfl rfl ?_; refine exitE_val 1000000 40 1000003 _ _ rfl rfl rfl rfl ?_; refine exitE_of [(1000000, 1000000), (1000001, 1000001), (1000002, 1000002), (1000003, 1000003)] [] ?_; (conv => whnf); (refine And.intro (And.intro (by with_unfolding_all rfl) (by intro q h; cases h)) ?_; refine And.intro ?_ (And.intro ?_ ?_) <;> (conv => whnf) <;> (repeat' (first | exact True.intro | (with_reducible exact rfl) | exact (rfl : List.replicate 0 PV.bad = []) | ((with_reducible refine And.intro ?_ ?_) <;> (first | (with_reducible exact wkV_same _ rfl) | exact wkV_pt rfl rfl | exact wkV_ow rfl rfl rfl | (refine wkV_ow rfl rfl ?_) | (refine wkV_sc (congrArg (Value.int .i64) ?_)) | (refine wkV_sc (congrArg Value.bool ?_)) | exact wkV_ls rfl | ((refine wkV_cl ?_); conv => whnf) | ((refine wkV_tu ?_); conv => whnf) | ((refine wkV_ag ?_); conv => whnf) | (conv => whnf)))))))
    all_goals first | rfl | exact .inl rfl | trace_state
  · have kn := kn r.next.a1 r.mtch.a1 (by rw [e] at hnx; have hnx : 0 ≤ r.next.a1 ∧ r.next.a1 ≤ 1099511627776 := hnx; omega) (by rw [e] at hmx; have hmx : 0 ≤ r.mtch.a1 ∧ r.mtch.a1 ≤ lastI r.hard := hmx; omega)
    rw [e]
    conv => whnf
    refine ⟨⟨hfr.1, hfr.2⟩, ?_⟩
    rw [e]
    conv => whnf
    refine ⟨⟨hfr.1, hfr.2⟩, ?_⟩
    rw [e]
    conv => whnf
    ((try ((refine Exists.intro none ?_); (conv => whnf))); first | (refine call_eq (kn) (by simp only [List.drop_zero, List.take_length]) ?_; conv => whnf))
    refine ⟨⟨hfr.1, hfr.2⟩, ?_⟩
    rw [e]
    conv => whnf
    refine ⟨⟨hfr.1, hfr.2⟩, ?_⟩
    rw [e]
    conv => whnf
    ((try ((refine Exists.intro none ?_); (conv => whnf))); (first | (with_reducible refine And.intro (Nat.le_of_eq (Nat.zero_add _)) ?_) | (refine And.intro (by simp only [List.length_map, List.length_set, Nat.zero_add]; omega) ?_)); conv => whnf)
    ((try ((refine Exists.intro none ?_); (conv => whnf))); first | (refine call_eq (kk) (by simp only [List.drop_zero, List.take_length]) ?_; conv => whnf))
    (refine Exists.intro _ (And.intro rfl (And.intro (by intro q hq; first | (cases hq; done) | (simp only [List.mem_cons, List.not_mem_nil, or_false] at hq; rcases hq with rfl | rfl <;> (simp only [List.length_cons, List.length_nil]; omega)) | (simp only [List.mem_cons, List.not_mem_nil, or_false] at hq; subst hq; simp only [List.length_cons, List.length_nil]; omega)) (And.intro (by intro i hi; simp only [List.length_cons, List.length_nil, Nat.lt_one_iff, Nat.zero_add] at hi; subst hi; rfl) ?_))); conv => whnf)
    ((try ((refine Exists.intro none ?_); (conv => whnf))); (first | (with_reducible refine And.intro (Nat.le_of_eq (Nat.zero_add _)) ?_) | (refine And.intro (by simp only [List.length_map, List.length_set, Nat.zero_add]; omega) ?_)); conv => whnf)
    ((try ((refine Exists.intro none ?_); (conv => whnf))); (first | (with_reducible refine And.intro (Nat.le_of_eq (Nat.zero_add _)) ?_) | (refine And.intro (by simp only [List.length_map, List.length_set, Nat.zero_add]; omega) ?_)); conv => whnf)
    ((try ((refine Exists.intro none ?_); (conv => whnf))); first | (refine call_eq (kc ⟨r.mtch.a0, nxM r.mtch.a1 m.yes (lrnI r m), r.mtch.a2, r.mtch.a3, r.mtch.a4, r.mtch.a5, r.mtch.a6⟩) (by simp only [List.drop_zero, List.take_length]) ?_; conv => whnf))
    (refine exitE_val 1000000 9 1000000 _ _ rfl rfl rfl rfl ?_; refine exitE_val 1000000 10 1000001 _ _ rfl rfl rfl rfl ?_; refine exitE_val 1000000 39 1248 _ _ rfl rfl rfl rfl ?_; refine exitE_val 1000000 40 1000003 _ _ rfl rfl rfl rfl ?_; refine exitE_of [(1000000, 1000000), (1000001, 1000001), (1000002, 1000002), (1000003, 1000003)] [] ?_; (conv => whnf); (refine And.intro (And.intro (by with_unfolding_all rfl) (by intro q h; cases h)) ?_; refine And.intro ?_ (And.intro ?_ ?_) <;> (conv => whnf) <;> (repeat' (first | exact True.intro | (with_reducible exact rfl) | exact (rfl : List.replicate 0 PV.bad = []) | ((with_reducible refine And.intro ?_ ?_) <;> (first | (with_reducible exact wkV_same _ rfl) | exact wkV_pt rfl rfl | exact wkV_ow rfl rfl rfl | (refine wkV_ow rfl rfl ?_) | (refine wkV_sc (congrArg (Value.int .i64) ?_)) | (refine wkV_sc (congrArg Value.bool ?_)) | exact wkV_ls rfl | ((refine wkV_cl ?_); conv => whnf) | ((refine wkV_tu ?_); conv => whnf) | ((refine wkV_ag ?_); conv => whnf) | (conv => whnf)))))))
    all_goals first | rfl | exact .inl rfl | trace_state
  · have kn := kn r.next.a2 r.mtch.a2 (by rw [e] at hnx; have hnx : 0 ≤ r.next.a2 ∧ r.next.a2 ≤ 1099511627776 := hnx; omega) (by rw [e] at hmx; have hmx : 0 ≤ r.mtch.a2 ∧ r.mtch.a2 ≤ lastI r.hard := hmx; omega)
    rw [e]
    conv => whnf
    refine ⟨⟨hfr.1, hfr.2⟩, ?_⟩
    rw [e]
    conv => whnf
    refine ⟨⟨hfr.1, hfr.2⟩, ?_⟩
    rw [e]
    conv => whnf
    ((try ((refine Exists.intro none ?_); (conv => whnf))); first | (refine call_eq (kn) (by simp only [List.drop_zero, List.take_length]) ?_; conv => whnf))
    refine ⟨⟨hfr.1, hfr.2⟩, ?_⟩
    rw [e]
    conv => whnf
    refine ⟨⟨hfr.1, hfr.2⟩, ?_⟩
    rw [e]
    conv => whnf
    ((try ((refine Exists.intro none ?_); (conv => whnf))); (first | (with_reducible refine And.intro (Nat.le_of_eq (Nat.zero_add _)) ?_) | (refine And.intro (by simp only [List.length_map, List.length_set, Nat.zero_add]; omega) ?_)); conv => whnf)
    ((try ((refine Exists.intro none ?_); (conv => whnf))); first | (refine call_eq (kk) (by simp only [List.drop_zero, List.take_length]) ?_; conv => whnf))
    (refine Exists.intro _ (And.intro rfl (And.intro (by intro q hq; first | (cases hq; done) | (simp only [List.mem_cons, List.not_mem_nil, or_false] at hq; rcases hq with rfl | rfl <;> (simp only [List.length_cons, List.length_nil]; omega)) | (simp only [List.mem_cons, List.not_mem_nil, or_false] at hq; subst hq; simp only [List.length_cons, List.length_nil]; omega)) (And.intro (by intro i hi; simp only [List.length_cons, List.length_nil, Nat.lt_one_iff, Nat.zero_add] at hi; subst hi; rfl) ?_))); conv => whnf)
    ((try ((refine Exists.intro none ?_); (conv => whnf))); (first | (with_reducible refine And.intro (Nat.le_of_eq (Nat.zero_add _)) ?_) | (refine And.intro (by simp only [List.length_map, List.length_set, Nat.zero_add]; omega) ?_)); conv => whnf)
    ((try ((refine Exists.intro none ?_); (conv => whnf))); (first | (with_reducible refine And.intro (Nat.le_of_eq (Nat.zero_add _)) ?_) | (refine And.intro (by simp only [List.length_map, List.length_set, Nat.zero_add]; omega) ?_)); conv => whnf)
    ((try ((refine Exists.intro none ?_); (conv => whnf))); first | (refine call_eq (kc ⟨r.mtch.a0, r.mtch.a1, nxM r.mtch.a2 m.yes (lrnI r m), r.mtch.a3, r.mtch.a4, r.mtch.a5, r.mtch.a6⟩) (by simp only [List.drop_zero, List.take_length]) ?_; conv => whnf))
    (refine exitE_val 1000000 9 1000000 _ _ rfl rfl rfl rfl ?_; refine exitE_val 1000000 10 1000001 _ _ rfl rfl rfl rfl ?_; refine exitE_val 1000000 39 1248 _ _ rfl rfl rfl rfl ?_; refine exitE_val 1000000 40 1000003 _ _ rfl rfl rfl rfl ?_; refine exitE_of [(1000000, 1000000), (1000001, 1000001), (1000002, 1000002), (1000003, 1000003)] [] ?_; (conv => whnf); (refine And.intro (And.intro (by with_unfolding_all rfl) (by intro q h; cases h)) ?_; refine And.intro ?_ (And.intro ?_ ?_) <;> (conv => whnf) <;> (repeat' (first | exact True.intro | (with_reducible exact rfl) | exact (rfl : List.replicate 0 PV.bad = []) | ((with_reducible refine And.intro ?_ ?_) <;> (first | (with_reducible exact wkV_same _ rfl) | exact wkV_pt rfl rfl | exact wkV_ow rfl rfl rfl | (refine wkV_ow rfl rfl ?_) | (refine wkV_sc (congrArg (Value.int .i64) ?_)) | (refine wkV_sc (congrArg Value.bool ?_)) | exact wkV_ls rfl | ((refine wkV_cl ?_); conv => whnf) | ((refine wkV_tu ?_); conv => whnf) | ((refine wkV_ag ?_); conv => whnf) | (conv => whnf)))))))
    all_goals first | rfl | exact .inl rfl | trace_state
  · have kn := kn r.next.a3 r.mtch.a3 (by rw [e] at hnx; have hnx : 0 ≤ r.next.a3 ∧ r.next.a3 ≤ 1099511627776 := hnx; omega) (by rw [e] at hmx; have hmx : 0 ≤ r.mtch.a3 ∧ r.mtch.a3 ≤ lastI r.hard := hmx; omega)
    rw [e]
    conv => whnf
    refine ⟨⟨hfr.1, hfr.2⟩, ?_⟩
    rw [e]
    conv => whnf
    refine ⟨⟨hfr.1, hfr.2⟩, ?_⟩
    rw [e]
    conv => whnf
    ((try ((refine Exists.intro none ?_); (conv => whnf))); first | (refine call_eq (kn) (by simp only [List.drop_zero, List.take_length]) ?_; conv => whnf))
    refine ⟨⟨hfr.1, hfr.2⟩, ?_⟩
    rw [e]
    conv => whnf
    refine ⟨⟨hfr.1, hfr.2⟩, ?_⟩
    rw [e]
    conv => whnf
    ((try ((refine Exists.intro none ?_); (conv => whnf))); (first | (with_reducible refine And.intro (Nat.le_of_eq (Nat.zero_add _)) ?_) | (refine And.intro (by simp only [List.length_map, List.length_set, Nat.zero_add]; omega) ?_)); conv => whnf)
    ((try ((refine Exists.intro none ?_); (conv => whnf))); first | (refine call_eq (kk) (by simp only [List.drop_zero, List.take_length]) ?_; conv => whnf))
    (refine Exists.intro _ (And.intro rfl (And.intro (by intro q hq; first | (cases hq; done) | (simp only [List.mem_cons, List.not_mem_nil, or_false] at hq; rcases hq with rfl | rfl <;> (simp only [List.length_cons, List.length_nil]; omega)) | (simp only [List.mem_cons, List.not_mem_nil, or_false] at hq; subst hq; simp only [List.length_cons, List.length_nil]; omega)) (And.intro (by intro i hi; simp only [List.length_cons, List.length_nil, Nat.lt_one_iff, Nat.zero_add] at hi; subst hi; rfl) ?_))); conv => whnf)
    ((try ((refine Exists.intro none ?_); (conv => whnf))); (first | (with_reducible refine And.intro (Nat.le_of_eq (Nat.zero_add _)) ?_) | (refine And.intro (by simp only [List.length_map, List.length_set, Nat.zero_add]; omega) ?_)); conv => whnf)
    ((try ((refine Exists.intro none ?_); (conv => whnf))); (first | (with_reducible refine And.intro (Nat.le_of_eq (Nat.zero_add _)) ?_) | (refine And.intro (by simp only [List.length_map, List.length_set, Nat.zero_add]; omega) ?_)); conv => whnf)
    ((try ((refine Exists.intro none ?_); (conv => whnf))); first | (refine call_eq (kc ⟨r.mtch.a0, r.mtch.a1, r.mtch.a2, nxM r.mtch.a3 m.yes (lrnI r m), r.mtch.a4, r.mtch.a5, r.mtch.a6⟩) (by simp only [List.drop_zero, List.take_length]) ?_; conv => whnf))
    (refine exitE_val 1000000 9 1000000 _ _ rfl rfl rfl rfl ?_; refine exitE_val 1000000 10 1000001 _ _ rfl rfl rfl rfl ?_; refine exitE_val 1000000 39 1248 _ _ rfl rfl rfl rfl ?_; refine exitE_val 1000000 40 1000003 _ _ rfl rfl rfl rfl ?_; refine exitE_of [(1000000, 1000000), (1000001, 1000001), (1000002, 1000002), (1000003, 1000003)] [] ?_; (conv => whnf); (refine And.intro (And.intro (by with_unfolding_all rfl) (by intro q h; cases h)) ?_; refine And.intro ?_ (And.intro ?_ ?_) <;> (conv => whnf) <;> (repeat' (first | exact True.intro | (with_reducible exact rfl) | exact (rfl : List.replicate 0 PV.bad = []) | ((with_reducible refine And.intro ?_ ?_) <;> (first | (with_reducible exact wkV_same _ rfl) | exact wkV_pt rfl rfl | exact wkV_ow rfl rfl rfl | (refine wkV_ow rfl rfl ?_) | (refine wkV_sc (congrArg (Value.int .i64) ?_)) | (refine wkV_sc (congrArg Value.bool ?_)) | exact wkV_ls rfl | ((refine wkV_cl ?_); conv => whnf) | ((refine wkV_tu ?_); conv => whnf) | ((refine wkV_ag ?_); conv => whnf) | (conv => whnf)))))))
    all_goals first | rfl | exact .inl rfl | trace_state
  · have kn := kn r.next.a4 r.mtch.a4 (by rw [e] at hnx; have hnx : 0 ≤ r.next.a4 ∧ r.next.a4 ≤ 1099511627776 := hnx; omega) (by rw [e] at hmx; have hmx : 0 ≤ r.mtch.a4 ∧ r.mtch.a4 ≤ lastI r.hard := hmx; omega)
    rw [e]
    conv => whnf
    refine ⟨⟨hfr.1, hfr.2⟩, ?_⟩
    rw [e]
    conv => whnf
    refine ⟨⟨hfr.1, hfr.2⟩, ?_⟩
    rw [e]
    conv => whnf
    ((try ((refine Exists.intro none ?_); (conv => whnf))); first | (refine call_eq (kn) (by simp only [List.drop_zero, List.take_length]) ?_; conv => whnf))
    refine ⟨⟨hfr.1, hfr.2⟩, ?_⟩
    rw [e]
    conv => whnf
    refine ⟨⟨hfr.1, hfr.2⟩, ?_⟩
    rw [e]
    conv => whnf
    ((try ((refine Exists.intro none ?_); (conv => whnf))); (first | (with_reducible refine And.intro (Nat.le_of_eq (Nat.zero_add _)) ?_) | (refine And.intro (by simp only [List.length_map, List.length_set, Nat.zero_add]; omega) ?_)); conv => whnf)
    ((try ((refine Exists.intro none ?_); (conv => whnf))); first | (refine call_eq (kk) (by simp only [List.drop_zero, List.take_length]) ?_; conv => whnf))
    (refine Exists.intro _ (And.intro rfl (And.intro (by intro q hq; first | (cases hq; done) | (simp only [List.mem_cons, List.not_mem_nil, or_false] at hq; rcases hq with rfl | rfl <;> (simp only [List.length_cons, List.length_nil]; omega)) | (simp only [List.mem_cons, List.not_mem_nil, or_false] at hq; subst hq; simp only [List.length_cons, List.length_nil]; omega)) (And.intro (by intro i hi; simp only [List.length_cons, List.length_nil, Nat.lt_one_iff, Nat.zero_add] at hi; subst hi; rfl) ?_))); conv => whnf)
    ((try ((refine Exists.intro none ?_); (conv => whnf))); (first | (with_reducible refine And.intro (Nat.le_of_eq (Nat.zero_add _)) ?_) | (refine And.intro (by simp only [List.length_map, List.length_set, Nat.zero_add]; omega) ?_)); conv => whnf)
    ((try ((refine Exists.intro none ?_); (conv => whnf))); (first | (with_reducible refine And.intro (Nat.le_of_eq (Nat.zero_add _)) ?_) | (refine And.intro (by simp only [List.length_map, List.length_set, Nat.zero_add]; omega) ?_)); conv => whnf)
    ((try ((refine Exists.intro none ?_); (conv => whnf))); first | (refine call_eq (kc ⟨r.mtch.a0, r.mtch.a1, r.mtch.a2, r.mtch.a3, nxM r.mtch.a4 m.yes (lrnI r m), r.mtch.a5, r.mtch.a6⟩) (by simp only [List.drop_zero, List.take_length]) ?_; conv => whnf))
    (refine exitE_val 1000000 9 1000000 _ _ rfl rfl rfl rfl ?_; refine exitE_val 1000000 10 1000001 _ _ rfl rfl rfl rfl ?_; refine exitE_val 1000000 39 1248 _ _ rfl rfl rfl rfl ?_; refine exitE_val 1000000 40 1000003 _ _ rfl rfl rfl rfl ?_; refine exitE_of [(1000000, 1000000), (1000001, 1000001), (1000002, 1000002), (1000003, 1000003)] [] ?_; (conv => whnf); (refine And.intro (And.intro (by with_unfolding_all rfl) (by intro q h; cases h)) ?_; refine And.intro ?_ (And.intro ?_ ?_) <;> (conv => whnf) <;> (repeat' (first | exact True.intro | (with_reducible exact rfl) | exact (rfl : List.replicate 0 PV.bad = []) | ((with_reducible refine And.intro ?_ ?_) <;> (first | (with_reducible exact wkV_same _ rfl) | exact wkV_pt rfl rfl | exact wkV_ow rfl rfl rfl | (refine wkV_ow rfl rfl ?_) | (refine wkV_sc (congrArg (Value.int .i64) ?_)) | (refine wkV_sc (congrArg Value.bool ?_)) | exact wkV_ls rfl | ((refine wkV_cl ?_); conv => whnf) | ((refine wkV_tu ?_); conv => whnf) | ((refine wkV_ag ?_); conv => whnf) | (conv => whnf)))))))
    all_goals first | rfl | exact .inl rfl | trace_state
  · have kn := kn r.next.a5 r.mtch.a5 (by rw [e] at hnx; have hnx : 0 ≤ r.next.a5 ∧ r.next.a5 ≤ 1099511627776 := hnx; omega) (by rw [e] at hmx; have hmx : 0 ≤ r.mtch.a5 ∧ r.mtch.a5 ≤ lastI r.hard := hmx; omega)
    rw [e]
    conv => whnf
    refine ⟨⟨hfr.1, hfr.2⟩, ?_⟩
    rw [e]
    conv => whnf
    refine ⟨⟨hfr.1, hfr.2⟩, ?_⟩
    rw [e]
    conv => whnf
    ((try ((refine Exists.intro none ?_); (conv => whnf))); first | (refine call_eq (kn) (by simp only [List.drop_zero, List.take_length]) ?_; conv => whnf))
    refine ⟨⟨hfr.1, hfr.2⟩, ?_⟩
    rw [e]
    conv => whnf
    refine ⟨⟨hfr.1, hfr.2⟩, ?_⟩
    rw [e]
    conv => whnf
    ((try ((refine Exists.intro none ?_); (conv => whnf))); (first | (with_reducible refine And.intro (Nat.le_of_eq (Nat.zero_add _)) ?_) | (refine And.intro (by simp only [List.length_map, List.length_set, Nat.zero_add]; omega) ?_)); conv => whnf)
    ((try ((refine Exists.intro none ?_); (conv => whnf))); first | (refine call_eq (kk) (by simp only [List.drop_zero, List.take_length]) ?_; conv => whnf))
    (refine Exists.intro _ (And.intro rfl (And.intro (by intro q hq; first | (cases hq; done) | (simp only [List.mem_cons, List.not_mem_nil, or_false] at hq; rcases hq with rfl | rfl <;> (simp only [List.length_cons, List.length_nil]; omega)) | (simp only [List.mem_cons, List.not_mem_nil, or_false] at hq; subst hq; simp only [List.length_cons, List.length_nil]; omega)) (And.intro (by intro i hi; simp only [List.length_cons, List.length_nil, Nat.lt_one_iff, Nat.zero_add] at hi; subst hi; rfl) ?_))); conv => whnf)
    ((try ((refine Exists.intro none ?_); (conv => whnf))); (first | (with_reducible refine And.intro (Nat.le_of_eq (Nat.zero_add _)) ?_) | (refine And.intro (by simp only [List.length_map, List.length_set, Nat.zero_add]; omega) ?_)); conv => whnf)
    ((try ((refine Exists.intro none ?_); (conv => whnf))); (first | (with_reducible refine And.intro (Nat.le_of_eq (Nat.zero_add _)) ?_) | (refine And.intro (by simp only [List.length_map, List.length_set, Nat.zero_add]; omega) ?_)); conv => whnf)
    ((try ((refine Exists.intro none ?_); (conv => whnf))); first | (refine call_eq (kc ⟨r.mtch.a0, r.mtch.a1, r.mtch.a2, r.mtch.a3, r.mtch.a4, nxM r.mtch.a5 m.yes (lrnI r m), r.mtch.a6⟩) (by simp only [List.drop_zero, List.take_length]) ?_; conv => whnf))
    (refine exitE_val 1000000 9 1000000 _ _ rfl rfl rfl rfl ?_; refine exitE_val 1000000 10 1000001 _ _ rfl rfl rfl rfl ?_; refine exitE_val 1000000 39 1248 _ _ rfl rfl rfl rfl ?_; refine exitE_val 1000000 40 1000003 _ _ rfl rfl rfl rfl ?_; refine exitE_of [(1000000, 1000000), (1000001, 1000001), (1000002, 1000002), (1000003, 1000003)] [] ?_; (conv => whnf); (refine And.intro (And.intro (by with_unfolding_all rfl) (by intro q h; cases h)) ?_; refine And.intro ?_ (And.intro ?_ ?_) <;> (conv => whnf) <;> (repeat' (first | exact True.intro | (with_reducible exact rfl) | exact (rfl : List.replicate 0 PV.bad = []) | ((with_reducible refine And.intro ?_ ?_) <;> (first | (with_reducible exact wkV_same _ rfl) | exact wkV_pt rfl rfl | exact wkV_ow rfl rfl rfl | (refine wkV_ow rfl rfl ?_) | (refine wkV_sc (congrArg (Value.int .i64) ?_)) | (refine wkV_sc (congrArg Value.bool ?_)) | exact wkV_ls rfl | ((refine wkV_cl ?_); conv => whnf) | ((refine wkV_tu ?_); conv => whnf) | ((refine wkV_ag ?_); conv => whnf) | (conv => whnf)))))))
    all_goals first | rfl | exact .inl rfl | trace_state
  · have kn := kn r.next.a6 r.mtch.a6 (by rw [e] at hnx; have hnx : 0 ≤ r.next.a6 ∧ r.next.a6 ≤ 1099511627776 := hnx; omega) (by rw [e] at hmx; have hmx : 0 ≤ r.mtch.a6 ∧ r.mtch.a6 ≤ lastI r.hard := hmx; omega)
    rw [e]
    conv => whnf
    refine ⟨⟨hfr.1, hfr.2⟩, ?_⟩
    rw [e]
    conv => whnf
    refine ⟨⟨hfr.1, hfr.2⟩, ?_⟩
    rw [e]
    conv => whnf
    ((try ((refine Exists.intro none ?_); (conv => whnf))); first | (refine call_eq (kn) (by simp only [List.drop_zero, List.take_length]) ?_; conv => whnf))
    refine ⟨⟨hfr.1, hfr.2⟩, ?_⟩
    rw [e]
    conv => whnf
    refine ⟨⟨hfr.1, hfr.2⟩, ?_⟩
    rw [e]
    conv => whnf
    ((try ((refine Exists.intro none ?_); (conv => whnf))); (first | (with_reducible refine And.intro (Nat.le_of_eq (Nat.zero_add _)) ?_) | (refine And.intro (by simp only [List.length_map, List.length_set, Nat.zero_add]; omega) ?_)); conv => whnf)
    ((try ((refine Exists.intro none ?_); (conv => whnf))); first | (refine call_eq (kk) (by simp only [List.drop_zero, List.take_length]) ?_; conv => whnf))
    (refine Exists.intro _ (And.intro rfl (And.intro (by intro q hq; first | (cases hq; done) | (simp only [List.mem_cons, List.not_mem_nil, or_false] at hq; rcases hq with rfl | rfl <;> (simp only [List.length_cons, List.length_nil]; omega)) | (simp only [List.mem_cons, List.not_mem_nil, or_false] at hq; subst hq; simp only [List.length_cons, List.length_nil]; omega)) (And.intro (by intro i hi; simp only [List.length_cons, List.length_nil, Nat.lt_one_iff, Nat.zero_add] at hi; subst hi; rfl) ?_))); conv => whnf)
    ((try ((refine Exists.intro none ?_); (conv => whnf))); (first | (with_reducible refine And.intro (Nat.le_of_eq (Nat.zero_add _)) ?_) | (refine And.intro (by simp only [List.length_map, List.length_set, Nat.zero_add]; omega) ?_)); conv => whnf)
    ((try ((refine Exists.intro none ?_); (conv => whnf))); (first | (with_reducible refine And.intro (Nat.le_of_eq (Nat.zero_add _)) ?_) | (refine And.intro (by simp only [List.length_map, List.length_set, Nat.zero_add]; omega) ?_)); conv => whnf)
    ((try ((refine Exists.intro none ?_); (conv => whnf))); first | (refine call_eq (kc ⟨r.mtch.a0, r.mtch.a1, r.mtch.a2, r.mtch.a3, r.mtch.a4, r.mtch.a5, nxM r.mtch.a6 m.yes (lrnI r m)⟩) (by simp only [List.drop_zero, List.take_length]) ?_; conv => whnf))
    (refine exitE_val 1000000 9 1000000 _ _ rfl rfl rfl rfl ?_; refine exitE_val 1000000 10 1000001 _ _ rfl rfl rfl rfl ?_; refine exitE_val 1000000 39 1248 _ _ rfl rfl rfl rfl ?_; refine exitE_val 1000000 40 1000003 _ _ rfl rfl rfl rfl ?_; refine exitE_of [(1000000, 1000000), (1000001, 1000001), (1000002, 1000002), (1000003, 1000003)] [] ?_; (conv => whnf); (refine And.intro (And.intro (by with_unfolding_all rfl) (by intro q h; cases h)) ?_; refine And.intro ?_ (And.intro ?_ ?_) <;> (conv => whnf) <;> (repeat' (first | exact True.intro | (with_reducible exact rfl) | exact (rfl : List.replicate 0 PV.bad = []) | ((with_reducible refine And.intro ?_ ?_) <;> (first | (with_reducible exact wkV_same _ rfl) | exact wkV_pt rfl rfl | exact wkV_ow rfl rfl rfl | (refine wkV_ow rfl rfl ?_) | (refine wkV_sc (congrArg (Value.int .i64) ?_)) | (refine wkV_sc (congrArg Value.bool ?_)) | exact wkV_ls rfl | ((refine wkV_cl ?_); conv => whnf) | ((refine wkV_tu ?_); conv => whnf) | ((refine wkV_ag ?_); conv => whnf) | (conv => whnf)))))))
    all_goals first | rfl | exact .inl rfl | trace_state
end Go.Proofs
