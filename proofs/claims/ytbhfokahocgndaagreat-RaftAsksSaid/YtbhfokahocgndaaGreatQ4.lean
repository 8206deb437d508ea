/- Contracts of functions: an entry is put, a call, a configuration, a question, by the page. (genQ4.py prints this) -/
import Derived.Test.YtbhfokahocgndaaGreatQ1
import Derived.Test.YtbhfokahocgndaaGreatQ3
import Derived.Test.YtbhfokahocgndaaGreatC24
set_option linter.unusedSimpArgs false
set_option linter.unusedVariables false
namespace Go.Proofs
open Go.Pv
set_option maxRecDepth 100000

abbrev radR (r : Rft) (x : Ent) : Rft := { r with hard := logR r x, mtch := r.mtch.put r.id.toNat (lastI (logR r x)) }
set_option maxHeartbeats 8000000 in
theorem c_rAdd (r : Rft) (hid : 0 ≤ r.id ∧ r.id < 7) (hm : r.hard.log.length ≤ 4294967) (x : Ent) :
    CtrE Tryz.prog 44 [.pt 1000000 0, .ag x.enc] [(1000000, r.enc)] [] (iv (lastI (logR r x))) [(1000000, (radR r x).enc)] [] := by
  have hmap : (logR r x).log.map Ent.enc = r.hard.log.map Ent.enc ++ [x.enc] := by rw [List.map_append]; rfl
  have hlen : (logR r x).log.length = r.hard.log.length + 1 := by rw [List.length_append]; rfl
  have kt := c_TwinEntries r.hard.log (by omega)
  have kl := c_rLast (logR r x) (smallM (by omega))
  have b1 : ((r.hard.log.map Ent.enc).length + 1) * 152 ≤ 140737488355328 := by rw [List.length_map]; omega
  have b2 : (r.hard.log.map Ent.enc).length + 1 ≤ maxLen := smallM (by rw [List.length_map]; omega)
  unfold radR
  generalize hh : logR r x = H at *
  have e1 : H.term = r.hard.term := by rw [← hh]
  have e2 : H.vote = r.hard.vote := by rw [← hh]
  have e3 : H.base = r.hard.base := by rw [← hh]
  have e4 : H.baseTerm = r.hard.baseTerm := by rw [← hh]
  have e5 : H.baseConf = r.hard.baseConf := by rw [← hh]
  have e6 : H.snap = r.hard.snap := by rw [← hh]
  refine spec_of_triE mixed Tryz.func44 rfl (by kernel_rfl) (by kernel_rfl) ?_
  refine tri_seq mixed (by kernel_rfl) ?_
  conv => whnf
  refine tri_cut mixed (by kernel_rfl) (fun _ : Unit => True) (fun _ => []) (fun _ => [(1000000, repV { r with hard := H } (.sl 1 (H.snap.map encB)) (lgW { r with hard := H } 2000) (.sl 13 (r.reads.map Rd.enc)) .bad |>.dropLast), (3, x.enc)]) (fun _ => [(2000, lgO { r with hard := H })]) ?_ ?_
  · conv => whnf
    ((try ((refine Exists.intro none ?_); (conv => whnf))); first | ((with_reducible refine call_by (kt) ?_); conv => whnf))
    (refine Exists.intro _ (And.intro rfl (And.intro (by intro q hq; first | (cases hq; done) | (simp only [List.mem_cons, List.not_mem_nil, or_false] at hq; rcases hq with rfl | rfl <;> (simp only [List.length_cons, List.length_nil]; omega)) | (simp only [List.mem_cons, List.not_mem_nil, or_false] at hq; subst hq; simp only [List.length_cons, List.length_nil]; omega)) (And.intro (by intro i hi; simp only [List.length_cons, List.length_nil, Nat.lt_one_iff, Nat.zero_add] at hi; subst hi; rfl) ?_))); conv => whnf)
    (refine And.intro rfl ?_; (conv => whnf); refine And.intro (And.intro (And.intro (by kernel_rfl) (And.intro (Nat.le_refl _) (And.intro (b1) (And.intro (b2) (by intro r hr; rw [List.mem_singleton.1 hr]; rfl))))) (And.intro (by decide) rfl)) ?_; conv => whnf)
    refine ⟨(), [(2000, 256)], trivial, ?_⟩
    conv => whnf
    (refine And.intro (And.intro (by with_unfolding_all rfl) (by intro q h; cases h)) ?_; refine And.intro ?_ (And.intro ?_ ?_) <;> (conv => whnf) <;> (repeat' (first | exact True.intro | (with_reducible exact rfl) | exact (rfl : List.replicate 0 PV.bad = []) | ((with_reducible refine And.intro ?_ ?_) <;> (first | (with_reducible exact wkV_same _ rfl) | exact wkV_pt rfl rfl | exact wkV_ow rfl rfl rfl | (refine wkV_ow rfl rfl ?_) | (refine wkV_sc (congrArg (Value.int .i64) ?_)) | (refine wkV_sc (congrArg Value.bool ?_)) | exact wkV_ls rfl | ((refine wkV_cl ?_); conv => whnf) | ((refine wkV_tu ?_); conv => whnf) | ((refine wkV_ag ?_); conv => whnf) | (conv => whnf))))))
    all_goals first | rfl | (rw [e1]; done) | (rw [e2]; done) | (rw [e3]; done) | (rw [e4]; done) | (rw [e5]; done) | (rw [e6]; done) | exact .inl (by rw [e6]) | (rw [hmap]; done) | (rw [hmap]; exact List.length_append.symm) | (refine obj_eq (by kernel_rfl) ?_; rw [hmap, List.take_of_length_le (Nat.le_refl _)]; done) | (refine obj_eq (by kernel_rfl) ?_; rw [hmap, List.take_of_length_le (Nat.le_refl _)]; rfl) | trace_state
  rintro _ _
  refine pwp_sound mixed _ _ _ (by kernel_rfl) ?_
  conv => whnf
  ((try ((refine Exists.intro none ?_); (conv => whnf))); (first | (with_reducible refine And.intro (Nat.le_of_eq (Nat.zero_add _)) ?_) | (refine And.intro (by simp only [List.length_map, List.length_set, Nat.zero_add]; omega) ?_)); conv => whnf)
  ((try ((refine Exists.intro none ?_); (conv => whnf))); first | (refine call_eq (kl) (by simp only [List.drop_zero, List.take_length]) ?_; conv => whnf))
  refine ⟨⟨hid.1, hid.2⟩, ?_⟩
  rcases put_cases hid with e | e | e | e | e | e | e
  · rw [e]
    conv => whnf
    (refine exitE_val 1000000 10 2000 _ _ rfl rfl rfl rfl ?_; refine exitE_of [] [] ?_; (conv => whnf); (refine And.intro (And.intro (by with_unfolding_all rfl) (by intro q h; cases h)) ?_; refine And.intro ?_ (And.intro ?_ ?_) <;> (conv => whnf) <;> (repeat' (first | exact True.intro | (with_reducible exact rfl) | exact (rfl : List.replicate 0 PV.bad = []) | ((with_reducible refine And.intro ?_ ?_) <;> (first | (with_reducible exact wkV_same _ rfl) | exact wkV_pt rfl rfl | exact wkV_ow rfl rfl rfl | (refine wkV_ow rfl rfl ?_) | (refine wkV_sc (congrArg (Value.int .i64) ?_)) | (refine wkV_sc (congrArg Value.bool ?_)) | exact wkV_ls rfl | ((refine wkV_cl ?_); conv => whnf) | ((refine wkV_tu ?_); conv => whnf) | ((refine wkV_ag ?_); conv => whnf) | (conv => whnf)))))))
    all_goals first | rfl | trace_state
  · rw [e]
    conv => whnf
    (refine exitE_val 1000000 10 2000 _ _ rfl rfl rfl rfl ?_; refine exitE_of [] [] ?_; (conv => whnf); (refine And.intro (And.intro (by with_unfolding_all rfl) (by intro q h; cases h)) ?_; refine And.intro ?_ (And.intro ?_ ?_) <;> (conv => whnf) <;> (repeat' (first | exact True.intro | (with_reducible exact rfl) | exact (rfl : List.replicate 0 PV.bad = []) | ((with_reducible refine And.intro ?_ ?_) <;> (first | (with_reducible exact wkV_same _ rfl) | exact wkV_pt rfl rfl | exact wkV_ow rfl rfl rfl | (refine wkV_ow rfl rfl ?_) | (refine wkV_sc (congrArg (Value.int .i64) ?_)) | (refine wkV_sc (congrArg Value.bool ?_)) | exact wkV_ls rfl | ((refine wkV_cl ?_); conv => whnf) | ((refine wkV_tu ?_); conv => whnf) | ((refine wkV_ag ?_); conv => whnf) | (conv => whnf)))))))
    all_goals first | rfl | trace_state
  · rw [e]
    conv => whnf
    (refine exitE_val 1000000 10 2000 _ _ rfl rfl rfl rfl ?_; refine exitE_of [] [] ?_; (conv => whnf); (refine And.intro (And.intro (by with_unfolding_all rfl) (by intro q h; cases h)) ?_; refine And.intro ?_ (And.intro ?_ ?_) <;> (conv => whnf) <;> (repeat' (first | exact True.intro | (with_reducible exact rfl) | exact (rfl : List.replicate 0 PV.bad = []) | ((with_reducible refine And.intro ?_ ?_) <;> (first | (with_reducible exact wkV_same _ rfl) | exact wkV_pt rfl rfl | exact wkV_ow rfl rfl rfl | (refine wkV_ow rfl rfl ?_) | (refine wkV_sc (congrArg (Value.int .i64) ?_)) | (refine wkV_sc (congrArg Value.bool ?_)) | exact wkV_ls rfl | ((refine wkV_cl ?_); conv => whnf) | ((refine wkV_tu ?_); conv => whnf) | ((refine wkV_ag ?_); conv => whnf) | (conv => whnf)))))))
    all_goals first | rfl | trace_state
  · rw [e]
    conv => whnf
    (refine exitE_val 1000000 10 2000 _ _ rfl rfl rfl rfl ?_; refine exitE_of [] [] ?_; (conv => whnf); (refine And.intro (And.intro (by with_unfolding_all rfl) (by intro q h; cases h)) ?_; refine And.intro ?_ (And.intro ?_ ?_) <;> (conv => whnf) <;> (repeat' (first | exact True.intro | (with_reducible exact rfl) | exact (rfl : List.replicate 0 PV.bad = []) | ((with_reducible refine And.intro ?_ ?_) <;> (first | (with_reducible exact wkV_same _ rfl) | exact wkV_pt rfl rfl | exact wkV_ow rfl rfl rfl | (refine wkV_ow rfl rfl ?_) | (refine wkV_sc (congrArg (Value.int .i64) ?_)) | (refine wkV_sc (congrArg Value.bool ?_)) | exact wkV_ls rfl | ((refine wkV_cl ?_); conv => whnf) | ((refine wkV_tu ?_); conv => whnf) | ((refine wkV_ag ?_); conv => whnf) | (conv => whnf)))))))
    all_goals first | rfl | trace_state
  · rw [e]
    conv => whnf
    (refine exitE_val 1000000 10 2000 _ _ rfl rfl rfl rfl ?_; refine exitE_of [] [] ?_; (conv => whnf); (refine And.intro (And.intro (by with_unfolding_all rfl) (by intro q h; cases h)) ?_; refine And.intro ?_ (And.intro ?_ ?_) <;> (conv => whnf) <;> (repeat' (first | exact True.intro | (with_reducible exact rfl) | exact (rfl : List.replicate 0 PV.bad = []) | ((with_reducible refine And.intro ?_ ?_) <;> (first | (with_reducible exact wkV_same _ rfl) | exact wkV_pt rfl rfl | exact wkV_ow rfl rfl rfl | (refine wkV_ow rfl rfl ?_) | (refine wkV_sc (congrArg (Value.int .i64) ?_)) | (refine wkV_sc (congrArg Value.bool ?_)) | exact wkV_ls rfl | ((refine wkV_cl ?_); conv => whnf) | ((refine wkV_tu ?_); conv => whnf) | ((refine wkV_ag ?_); conv => whnf) | (conv => whnf)))))))
    all_goals first | rfl | trace_state
  · rw [e]
    conv => whnf
    (refine exitE_val 1000000 10 2000 _ _ rfl rfl rfl rfl ?_; refine exitE_of [] [] ?_; (conv => whnf); (refine And.intro (And.intro (by with_unfolding_all rfl) (by intro q h; cases h)) ?_; refine And.intro ?_ (And.intro ?_ ?_) <;> (conv => whnf) <;> (repeat' (first | exact True.intro | (with_reducible exact rfl) | exact (rfl : List.replicate 0 PV.bad = []) | ((with_reducible refine And.intro ?_ ?_) <;> (first | (with_reducible exact wkV_same _ rfl) | exact wkV_pt rfl rfl | exact wkV_ow rfl rfl rfl | (refine wkV_ow rfl rfl ?_) | (refine wkV_sc (congrArg (Value.int .i64) ?_)) | (refine wkV_sc (congrArg Value.bool ?_)) | exact wkV_ls rfl | ((refine wkV_cl ?_); conv => whnf) | ((refine wkV_tu ?_); conv => whnf) | ((refine wkV_ag ?_); conv => whnf) | (conv => whnf)))))))
    all_goals first | rfl | trace_state
  · rw [e]
    conv => whnf
    (refine exitE_val 1000000 10 2000 _ _ rfl rfl rfl rfl ?_; refine exitE_of [] [] ?_; (conv => whnf); (refine And.intro (And.intro (by with_unfolding_all rfl) (by intro q h; cases h)) ?_; refine And.intro ?_ (And.intro ?_ ?_) <;> (conv => whnf) <;> (repeat' (first | exact True.intro | (with_reducible exact rfl) | exact (rfl : List.replicate 0 PV.bad = []) | ((with_reducible refine And.intro ?_ ?_) <;> (first | (with_reducible exact wkV_same _ rfl) | exact wkV_pt rfl rfl | exact wkV_ow rfl rfl rfl | (refine wkV_ow rfl rfl ?_) | (refine wkV_sc (congrArg (Value.int .i64) ?_)) | (refine wkV_sc (congrArg Value.bool ?_)) | exact wkV_ls rfl | ((refine wkV_cl ?_); conv => whnf) | ((refine wkV_tu ?_); conv => whnf) | ((refine wkV_ag ?_); conv => whnf) | (conv => whnf)))))))
    all_goals first | rfl | trace_state
theorem Fit.small {r : Rft} (h : Fit r) : r.small := ⟨by have := h.log; omega, by have := h.base; unfold isI; omega, h.snap, by have := h.reads; omega⟩
theorem propE_ok {r : Rft} {c : VCall} (he : propE r c = 0) : leadsE r = 0 ∧ callR c = 0 ∧ r.hard.log.length < 64 := by
  unfold propE at he
  by_cases h1 : leadsE r = 0
  · rw [if_pos h1] at he
    by_cases h3 : callR c = 0
    · rw [if_pos h3] at he
      by_cases h4 : r.hard.log.length < 64
      · exact ⟨h1, h3, h4⟩
      · rw [if_neg h4] at he; omega
    · rw [if_neg h3] at he; exact absurd he h3
  · rw [if_neg h1] at he; omega
set_option maxHeartbeats 4000000 in
theorem c_rProp_err (r : Rft) (c : VCall) (hl0 : r.hard.log.length < 4294967) (he : ¬ propE r c = 0) : Ctr Tryz.prog 10 [.ag r.enc, .ag c.enc] (.tu [.ag rzv, iv 0, iv (propE r c)]) [] := by
  have ks := c_serves r (smallM (by omega))
  have kc := c_rCall c
  unfold propE at he ⊢
  by_cases h1 : leadsE r = 0
  · rw [if_pos h1] at he ⊢
    rw [decide_eq_true h1] at ks
    by_cases h2 : callR c = 0
    · rw [if_pos h2] at he ⊢
      rw [h2] at kc
      by_cases h3 : r.hard.log.length < 64
      · rw [if_pos h3] at he; exact absurd rfl he
      · rw [if_neg h3]
        refine spec_of_body mixed Tryz.func10 rfl (by kernel_rfl) (by kernel_rfl) ?_; conv => whnf
        ((try ((refine Exists.intro none ?_); (conv => whnf))); first | ((with_reducible refine call_by (ks) ?_); conv => whnf))
        ((try ((refine Exists.intro none ?_); (conv => whnf))); first | ((with_reducible refine call_by (kc) ?_); conv => whnf))
        ((first | (with_reducible refine split_dec (fun h => ?_) (fun h => ?_)) | (with_reducible refine split_beq (fun h => ?_) (fun h => ?_)) | (with_reducible refine split_bne (fun h => ?_) (fun h => ?_)) | (with_reducible refine split_not (fun h => ?_) (fun h => ?_)) | (with_reducible refine split_beqS (fun h => ?_) (fun h => ?_)) | (with_reducible refine split_intro (fun h => ?_) (fun h => ?_))) <;> conv => whnf)
        · exact exit_plain rfl rfl
        · simp only [List.length_map] at h
          omega
    · rw [if_neg h2]
      generalize callR c = e at *
      refine spec_of_body mixed Tryz.func10 rfl (by kernel_rfl) (by kernel_rfl) ?_; conv => whnf
      ((try ((refine Exists.intro none ?_); (conv => whnf))); first | ((with_reducible refine call_by (ks) ?_); conv => whnf))
      ((try ((refine Exists.intro none ?_); (conv => whnf))); first | ((with_reducible refine call_by (kc) ?_); conv => whnf))
      ((first | (with_reducible refine split_dec (fun h => ?_) (fun h => ?_)) | (with_reducible refine split_beq (fun h => ?_) (fun h => ?_)) | (with_reducible refine split_bne (fun h => ?_) (fun h => ?_)) | (with_reducible refine split_not (fun h => ?_) (fun h => ?_)) | (with_reducible refine split_beqS (fun h => ?_) (fun h => ?_)) | (with_reducible refine split_intro (fun h => ?_) (fun h => ?_))) <;> conv => whnf)
      · exact exit_plain rfl rfl
      · exact absurd (by first | exact h | (simpa using h)) h2
  · rw [if_neg h1]
    rw [decide_eq_false h1] at ks
    refine spec_of_body mixed Tryz.func10 rfl (by kernel_rfl) (by kernel_rfl) ?_; conv => whnf
    ((try ((refine Exists.intro none ?_); (conv => whnf))); first | ((with_reducible refine call_by (ks) ?_); conv => whnf))
    exact exit_plain rfl rfl
set_option maxHeartbeats 4000000 in
theorem c_rProp_ok (r : Rft) (c : VCall) (hl0 : r.hard.log.length < 4294967) (hr : rightB r = true) (he : propE r c = 0) : Ctr Tryz.prog 10 [.ag r.enc, .ag c.enc] (.tu [.ag (addR r (ec r c)).enc, iv (lastI (logR r (ec r c))), iv 0]) [] := by
  have hg := rgt_of hr
  have hf := hg.fit hl0
  have hb := hf.base
  obtain ⟨h1, h2, h3⟩ := propE_ok he
  have ks := c_serves r (smallM (by omega))
  have kc := c_rCall c
  have kt := c_TwinRaftV r hf.small
  have ka := c_rAdd r hf.id (by omega) (ec r c)
  have hlen : (logR r (ec r c)).log.length = r.hard.log.length + 1 := by rw [List.length_append]; rfl
  have km := c_rCommit (logR r (ec r c)) (smallM (by omega)) hb.1 (by show r.hard.base + ((logR r (ec r c)).log.length : Int) < _; omega) r.commit (r.mtch.put r.id.toNat (lastI (logR r (ec r c))))
  rw [decide_eq_true h1] at ks
  rw [h2] at kc
  unfold addR
  unfold radR at ka
  generalize hM : r.mtch.put r.id.toNat (lastI (logR r (ec r c))) = M at *
  generalize lastI (logR r (ec r c)) = n at *
  generalize hH : logR r (ec r c) = H at *
  refine spec_of_body mixed Tryz.func10 rfl (by kernel_rfl) (by kernel_rfl) ?_; conv => whnf
  ((try ((refine Exists.intro none ?_); (conv => whnf))); first | ((with_reducible refine call_by (ks) ?_); conv => whnf))
  ((try ((refine Exists.intro none ?_); (conv => whnf))); first | ((with_reducible refine call_by (kc) ?_); conv => whnf))
  ((first | (with_reducible refine split_dec (fun h => ?_) (fun h => ?_)) | (with_reducible refine split_beq (fun h => ?_) (fun h => ?_)) | (with_reducible refine split_bne (fun h => ?_) (fun h => ?_)) | (with_reducible refine split_not (fun h => ?_) (fun h => ?_)) | (with_reducible refine split_beqS (fun h => ?_) (fun h => ?_)) | (with_reducible refine split_intro (fun h => ?_) (fun h => ?_))) <;> conv => whnf)
  · simp only [List.length_map] at h
    omega
  clear h
  ((try ((refine Exists.intro none ?_); (conv => whnf))); first | ((with_reducible refine call_by (kt) ?_); conv => whnf))
  (refine Exists.intro _ (And.intro rfl (And.intro (by intro q _; simp only [List.length_nil]; omega) (And.intro (by intro i hi; exact absurd hi (Nat.not_lt_zero i)) ?_))); conv => whnf)
  ((refine Exists.intro (some ([(1000000, 2)], [], [])) ?_); (conv => whnf); refine callE_eq (ka) (by kernel_rfl) (by kernel_rfl) (by kernel_rfl) ?_; conv => whnf)
  ((try ((refine Exists.intro none ?_); (conv => whnf))); refine call_eq (km) (by kernel_rfl) ?_; conv => whnf)
  exact exit_plain rfl rfl
set_option maxHeartbeats 4000000 in
theorem c_rAsk_err (r : Rft) (c : VCall) (hl0 : r.hard.log.length < 4294967) (hr : rightB r = true) (he : ¬ askE r c = 0) : Ctr Tryz.prog 15 [.ag r.enc, .ag c.enc] (.tu [.ag rzv, iv (askE r c)]) [] := by
  have hg := rgt_of hr
  have hf := hg.fit hl0
  have hb := hf.base
  have kl := c_serves r (smallM (by omega))
  have kw := c_rOwn r.hard (smallM (by omega)) hb.1 (by omega) r.commit (hg.comI hl0)
  have ks := c_rCall c
  unfold askE at he ⊢
  by_cases h1 : leadsE r = 0
  · rw [if_pos h1] at he ⊢
    rw [decide_eq_true h1] at kl
    cases hw : ownB r with
    | false =>
      rw [show fits r.hard r.commit r.hard.term = false from hw] at kw
      rw [if_neg (by decide)]
      refine spec_of_body mixed Tryz.func15 rfl (by kernel_rfl) (by kernel_rfl) ?_; conv => whnf
      ((try ((refine Exists.intro none ?_); (conv => whnf))); first | ((with_reducible refine call_by (kl) ?_); conv => whnf))
      ((try ((refine Exists.intro none ?_); (conv => whnf))); first | ((with_reducible refine call_by (kw) ?_); conv => whnf))
      exact exit_plain rfl rfl
    | true =>
      rw [show fits r.hard r.commit r.hard.term = true from hw] at kw
      rw [hw, if_pos rfl] at he
      rw [if_pos rfl]
      by_cases h2 : callR c = 0
      · rw [if_pos h2] at he ⊢
        rw [h2] at ks
        by_cases h3 : r.reads.length < 4
        · rw [if_pos h3] at he; exact absurd rfl he
        · rw [if_neg h3]
          refine spec_of_body mixed Tryz.func15 rfl (by kernel_rfl) (by kernel_rfl) ?_; conv => whnf
          ((try ((refine Exists.intro none ?_); (conv => whnf))); first | ((with_reducible refine call_by (kl) ?_); conv => whnf))
          ((try ((refine Exists.intro none ?_); (conv => whnf))); first | ((with_reducible refine call_by (kw) ?_); conv => whnf))
          ((try ((refine Exists.intro none ?_); (conv => whnf))); first | ((with_reducible refine call_by (ks) ?_); conv => whnf))
          ((first | (with_reducible refine split_dec (fun h => ?_) (fun h => ?_)) | (with_reducible refine split_beq (fun h => ?_) (fun h => ?_)) | (with_reducible refine split_bne (fun h => ?_) (fun h => ?_)) | (with_reducible refine split_not (fun h => ?_) (fun h => ?_)) | (with_reducible refine split_beqS (fun h => ?_) (fun h => ?_)) | (with_reducible refine split_intro (fun h => ?_) (fun h => ?_))) <;> conv => whnf)
          · exact exit_plain rfl rfl
          · simp only [List.length_map] at h
            omega
      · rw [if_neg h2]
        generalize callR c = e at *
        refine spec_of_body mixed Tryz.func15 rfl (by kernel_rfl) (by kernel_rfl) ?_; conv => whnf
        ((try ((refine Exists.intro none ?_); (conv => whnf))); first | ((with_reducible refine call_by (kl) ?_); conv => whnf))
        ((try ((refine Exists.intro none ?_); (conv => whnf))); first | ((with_reducible refine call_by (kw) ?_); conv => whnf))
        ((try ((refine Exists.intro none ?_); (conv => whnf))); first | ((with_reducible refine call_by (ks) ?_); conv => whnf))
        ((first | (with_reducible refine split_dec (fun h => ?_) (fun h => ?_)) | (with_reducible refine split_beq (fun h => ?_) (fun h => ?_)) | (with_reducible refine split_bne (fun h => ?_) (fun h => ?_)) | (with_reducible refine split_not (fun h => ?_) (fun h => ?_)) | (with_reducible refine split_beqS (fun h => ?_) (fun h => ?_)) | (with_reducible refine split_intro (fun h => ?_) (fun h => ?_))) <;> conv => whnf)
        · exact exit_plain rfl rfl
        · exact absurd (by first | exact h | (simpa using h)) h2
  · rw [if_neg h1]
    rw [decide_eq_false h1] at kl
    refine spec_of_body mixed Tryz.func15 rfl (by kernel_rfl) (by kernel_rfl) ?_; conv => whnf
    ((try ((refine Exists.intro none ?_); (conv => whnf))); first | ((with_reducible refine call_by (kl) ?_); conv => whnf))
    exact exit_plain rfl rfl
set_option maxHeartbeats 4000000 in
theorem c_rAsk_ok (r : Rft) (c : VCall) (hl0 : r.hard.log.length < 4294967) (hr : rightB r = true) (he : askE r c = 0) : Ctr Tryz.prog 15 [.ag r.enc, .ag c.enc] (.tu [.ag (askR r c).enc, iv 0]) [] := by
  have hg := rgt_of hr
  have hf := hg.fit hl0
  have hb := hf.base
  have hid := hf.id
  have hro := hf.round
  have kl := c_serves r (smallM (by omega))
  have kw := c_rOwn r.hard (smallM (by omega)) hb.1 (by omega) r.commit (hg.comI hl0)
  have ks := c_rCall c
  have kt := c_TwinRaft r hf.snap (by omega) (by have := hf.reads; omega)
  obtain ⟨h1, h2, h3, h4⟩ := askE_ok he
  rw [decide_eq_true h1] at kl
  rw [show fits r.hard r.commit r.hard.term = true from h2] at kw
  rw [h3] at ks
  have ew : IntKind.i64.wrap (r.round + 1) = r.round + 1 := wrap_id (by omega) (by omega)
  have eu : IntKind.u64.wrap r.id = r.id := wrapu_id (by omega) (by omega)
  have b1 : ((r.reads.map Rd.enc).length + 1) * 128 ≤ 140737488355328 := by rw [List.length_map]; omega
  have b2 : (r.reads.map Rd.enc).length + 1 ≤ maxLen := smallM (by rw [List.length_map]; omega)
  refine spec_of_body mixed Tryz.func15 rfl (by kernel_rfl) (by kernel_rfl) ?_; conv => whnf
  ((try ((refine Exists.intro none ?_); (conv => whnf))); first | ((with_reducible refine call_by (kl) ?_); conv => whnf))
  ((try ((refine Exists.intro none ?_); (conv => whnf))); first | ((with_reducible refine call_by (kw) ?_); conv => whnf))
  ((try ((refine Exists.intro none ?_); (conv => whnf))); first | ((with_reducible refine call_by (ks) ?_); conv => whnf))
  ((first | (with_reducible refine split_dec (fun h => ?_) (fun h => ?_)) | (with_reducible refine split_beq (fun h => ?_) (fun h => ?_)) | (with_reducible refine split_bne (fun h => ?_) (fun h => ?_)) | (with_reducible refine split_not (fun h => ?_) (fun h => ?_)) | (with_reducible refine split_beqS (fun h => ?_) (fun h => ?_)) | (with_reducible refine split_intro (fun h => ?_) (fun h => ?_))) <;> conv => whnf)
  · simp only [List.length_map] at h
    omega
  clear h
  ((try ((refine Exists.intro none ?_); (conv => whnf))); first | ((with_reducible refine call_by (kt) ?_); conv => whnf))
  (refine Exists.intro _ (And.intro rfl (And.intro (by intro q hq; first | (cases hq; done) | (simp only [List.mem_cons, List.not_mem_nil, or_false] at hq; rcases hq with rfl | rfl <;> (simp only [List.length_cons, List.length_nil]; omega)) | (simp only [List.mem_cons, List.not_mem_nil, or_false] at hq; subst hq; simp only [List.length_cons, List.length_nil]; omega)) (And.intro (by intro i hi; rcases i with _ | _ | _ | i; rfl; rfl; rfl; exact absurd hi (by simp)) ?_))); conv => whnf)
  refine ⟨⟨by decide, by rw [eu]; exact hid.1⟩, ?_⟩
  conv => whnf
  (refine And.intro rfl ?_; (conv => whnf); refine And.intro (And.intro (And.intro (by kernel_rfl) (And.intro (Nat.le_refl _) (And.intro (b1) (And.intro (b2) (by intro r hr; rw [List.mem_singleton.1 hr]; rfl))))) (And.intro (by decide) rfl)) ?_; conv => whnf)
  have erow : List.take (r.reads.map Rd.enc).length (r.reads.map Rd.enc) ++ [(⟨c, r.commit, farM (IntKind.i64.wrap (r.round + 1)), shl 1 (IntKind.u64.wrap r.id)⟩ : Rd).enc] = (askR r c).reads.map Rd.enc := by
    rw [ew, eu, List.take_of_length_le (Nat.le_refl _), List.map_append]; rfl
  refine exit_fz [(480, false, 1, r.hard.snap.map encB), (481, false, 16, r.hard.log.map Ent.enc), (736, false, 13, (askR r c).reads.map Rd.enc)] ?_ (wkV_tu ⟨wkV_ag ?_, wkV_same _ rfl, rfl⟩)
  · intro q hq
    simp only [List.mem_cons, List.mem_nil_iff, or_false] at hq
    rcases hq with rfl | rfl | rfl
    · rfl
    · rfl
    · refine Eq.trans ?_ (congrArg (fun l => some (some (false, 13, l))) erow)
      kernel_rfl
  conv => whnf
  repeat' (first | exact rfl | ((with_reducible refine And.intro ?_ ?_) <;> (first | (with_reducible exact wkV_same _ rfl) | (refine wkV_fz (b := false) (List.Mem.head _) rfl) | (refine wkV_fz (b := false) (List.Mem.tail _ (List.Mem.head _)) rfl) | (refine wkV_fz (b := false) (List.Mem.tail _ (List.Mem.tail _ (List.Mem.head _))) rfl) | (conv => whnf))))
  refine wkV_fz (rn := []) (kb := []) (b := false) (List.Mem.tail _ (List.Mem.tail _ (List.Mem.head _))) ?_
  show _ = ((r.reads ++ [qR r c]).map Rd.enc).length
  rw [List.map_append, List.length_append]; rfl
end Go.Proofs
