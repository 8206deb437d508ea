/- Contracts of functions: a configuration is put into the log, by the page. (genQ6.py prints this) -/
import Derived.Test.YtbhfokahocgndaaGreatQ5
set_option linter.unusedSimpArgs false
set_option linter.unusedVariables false
namespace Go.Proofs
open Go.Pv
set_option maxRecDepth 100000

set_option maxHeartbeats 4000000 in
theorem c_rChg_err (r : Rft) (c : Conf) (hl0 : r.hard.log.length < 4294967) (hr : rightB r = true) (he : ¬ chgE r c = 0) : Ctr Tryz.prog 13 [.ag r.enc, .ag c.enc] (.tu [.ag rzv, iv 0, iv (chgE r c)]) [] := by
  have hg := rgt_of hr
  have hf := hg.fit hl0
  have hb := hf.base
  have kl := c_serves r (smallM (by omega))
  have kv := c_rConf15 r (smallM (by omega))
  have km := c_rMay r.hard (smallM (by omega)) hb.1 (by omega) r.commit (hg.comI hl0)
  have kn := c_rNear (inForce r) c
  have kk := c_kConf (inForce r) c
  rw [nearL_eq] at kn
  unfold chgE at he ⊢
  by_cases h1 : leadsE r = 0
  · rw [if_pos h1] at he ⊢
    rw [decide_eq_true h1] at kl
    cases hw : mayB r with
    | false =>
      rw [show (fits r.hard r.commit r.hard.term && decide ((force r.hard (lastI r.hard)).2 ≤ r.commit)) = false from hw] at km
      rw [if_neg (by decide)]
      refine spec_of_body mixed Tryz.func13 rfl (by kernel_rfl) (by kernel_rfl) ?_; conv => whnf
      ((try ((refine Exists.intro none ?_); (conv => whnf))); first | ((with_reducible refine call_by (kl) ?_); conv => whnf))
      ((try ((refine Exists.intro none ?_); (conv => whnf))); first | ((with_reducible refine call_by (km) ?_); conv => whnf))
      exact exit_plain rfl rfl
    | true =>
      rw [show (fits r.hard r.commit r.hard.term && decide ((force r.hard (lastI r.hard)).2 ≤ r.commit)) = true from hw] at km
      rw [hw, if_pos rfl] at he
      rw [if_pos rfl]
      cases hn : nearR (inForce r) c with
      | false =>
        rw [hn] at kn
        rw [if_neg (by intro h; cases h.1)]
        refine spec_of_body mixed Tryz.func13 rfl (by kernel_rfl) (by kernel_rfl) ?_; conv => whnf
        ((try ((refine Exists.intro none ?_); (conv => whnf))); first | ((with_reducible refine call_by (kl) ?_); conv => whnf))
        ((try ((refine Exists.intro none ?_); (conv => whnf))); first | ((with_reducible refine call_by (km) ?_); conv => whnf))
        ((try ((refine Exists.intro none ?_); (conv => whnf))); first | ((with_reducible refine call_by (kv) ?_); conv => whnf))
        ((try ((refine Exists.intro none ?_); (conv => whnf))); first | ((with_reducible refine call_by (kn) ?_); conv => whnf))
        exact exit_plain rfl rfl
      | true =>
        rw [hn] at kn
        by_cases h2 : inForce r = c
        · rw [if_neg (fun h => h.2 h2)]
          rw [decide_eq_true h2] at kk
          refine spec_of_body mixed Tryz.func13 rfl (by kernel_rfl) (by kernel_rfl) ?_; conv => whnf
          ((try ((refine Exists.intro none ?_); (conv => whnf))); first | ((with_reducible refine call_by (kl) ?_); conv => whnf))
          ((try ((refine Exists.intro none ?_); (conv => whnf))); first | ((with_reducible refine call_by (km) ?_); conv => whnf))
          ((try ((refine Exists.intro none ?_); (conv => whnf))); first | ((with_reducible refine call_by (kv) ?_); conv => whnf))
          ((try ((refine Exists.intro none ?_); (conv => whnf))); first | ((with_reducible refine call_by (kn) ?_); conv => whnf))
          ((try ((refine Exists.intro none ?_); (conv => whnf))); first | ((with_reducible refine call_by (kk) ?_); conv => whnf))
          exact exit_plain rfl rfl
        · rw [hn, if_pos ⟨rfl, h2⟩] at he
          rw [if_pos ⟨rfl, h2⟩]
          rw [decide_eq_false h2] at kk
          by_cases h3 : r.hard.log.length < 64
          · rw [if_pos h3] at he; exact absurd rfl he
          · rw [if_neg h3]
            refine spec_of_body mixed Tryz.func13 rfl (by kernel_rfl) (by kernel_rfl) ?_; conv => whnf
            ((try ((refine Exists.intro none ?_); (conv => whnf))); first | ((with_reducible refine call_by (kl) ?_); conv => whnf))
            ((try ((refine Exists.intro none ?_); (conv => whnf))); first | ((with_reducible refine call_by (km) ?_); conv => whnf))
            ((try ((refine Exists.intro none ?_); (conv => whnf))); first | ((with_reducible refine call_by (kv) ?_); conv => whnf))
            ((try ((refine Exists.intro none ?_); (conv => whnf))); first | ((with_reducible refine call_by (kn) ?_); conv => whnf))
            ((try ((refine Exists.intro none ?_); (conv => whnf))); first | ((with_reducible refine call_by (kk) ?_); conv => whnf))
            ((first | (with_reducible refine split_dec (fun h => ?_) (fun h => ?_)) | (with_reducible refine split_beq (fun h => ?_) (fun h => ?_)) | (with_reducible refine split_bne (fun h => ?_) (fun h => ?_)) | (with_reducible refine split_not (fun h => ?_) (fun h => ?_)) | (with_reducible refine split_beqS (fun h => ?_) (fun h => ?_)) | (with_reducible refine split_intro (fun h => ?_) (fun h => ?_))) <;> conv => whnf)
            · exact exit_plain rfl rfl
            · simp only [List.length_map] at h
              omega
  · rw [if_neg h1]
    rw [decide_eq_false h1] at kl
    refine spec_of_body mixed Tryz.func13 rfl (by kernel_rfl) (by kernel_rfl) ?_; conv => whnf
    ((try ((refine Exists.intro none ?_); (conv => whnf))); first | ((with_reducible refine call_by (kl) ?_); conv => whnf))
    exact exit_plain rfl rfl
noncomputable abbrev rnR (r : Rft) (c : Conf) (n : Int) (k : Nat) : Rft := { radR r (ecf r c) with next := nxt (newB (inForce r) c) n r.next k }
set_option maxHeartbeats 8000000 in
theorem c_rChg_ok (r : Rft) (c : Conf) (hl0 : r.hard.log.length < 4294967) (hr : rightB r = true) (he : chgE r c = 0) : Ctr Tryz.prog 13 [.ag r.enc, .ag c.enc] (.tu [.ag (addR (nxR r c 7) (ecf r c)).enc, iv (lastI (logR r (ecf r c))), iv 0]) [] := by
  have hg := rgt_of hr
  have hf := hg.fit hl0
  have hb := hf.base
  have kl := c_serves r (smallM (by omega))
  have kv := c_rConf15 r (smallM (by omega))
  have km := c_rMay r.hard (smallM (by omega)) hb.1 (by omega) r.commit (hg.comI hl0)
  have kn := c_rNear (inForce r) c
  have kk := c_kConf (inForce r) c
  rw [nearL_eq] at kn
  obtain ⟨h1, h2, h3, h4, h5⟩ := chgE_ok he
  rw [decide_eq_true h1] at kl
  rw [show (fits r.hard r.commit r.hard.term && decide ((force r.hard (lastI r.hard)).2 ≤ r.commit)) = true from h2] at km
  rw [h3] at kn
  rw [decide_eq_false h4] at kk
  have kt := c_TwinRaftV r hf.small
  have ka := c_rAdd r hf.id (by omega) (ecf r c)
  have kal := fun d : Conf => c_rAll d
  have hlen : (logR r (ecf r c)).log.length = r.hard.log.length + 1 := by rw [List.length_append]; rfl
  have hnl : lastI (logR r (ecf r c)) = lastI r.hard + 1 := by
    rw [lastI_sum (h := logR r (ecf r c)) hb.1 (by show r.hard.base + ((logR r (ecf r c)).log.length : Int) < _; omega), lastI_sum (h := r.hard) hb.1 (by omega)]
    show r.hard.base + ((logR r (ecf r c)).log.length : Int) = _
    omega
  have kc := c_rCommit (logR r (ecf r c)) (smallM (by omega)) hb.1 (by show r.hard.base + ((logR r (ecf r c)).log.length : Int) < _; omega) r.commit (r.mtch.put r.id.toNat (lastI (logR r (ecf r c))))
  have hfin : addR (nxR r c 7) (ecf r c) = { rnR r c (lastI (logR r (ecf r c))) 7 with commit := commitR (logR r (ecf r c)) r.commit (r.mtch.put r.id.toNat (lastI (logR r (ecf r c)))) } := by
    show addR ({ r with next := nxt (newB (inForce r) c) (lastI r.hard + 1) r.next 7 } : Rft) (ecf r c) = _
    rw [← hnl]; rfl
  rw [hfin]
  clear hfin hnl
  unfold rnR
  unfold radR at ka ⊢
  generalize hM : r.mtch.put r.id.toNat (lastI (logR r (ecf r c))) = M at *
  generalize hN : lastI (logR r (ecf r c)) = n at *
  generalize hH : logR r (ecf r c) = H at *
  refine spec_of_body mixed Tryz.func13 rfl (by kernel_rfl) (by kernel_rfl) ?_; conv => whnf
  ((try ((refine Exists.intro none ?_); (conv => whnf))); first | ((with_reducible refine call_by (kl) ?_); conv => whnf))
  ((try ((refine Exists.intro none ?_); (conv => whnf))); first | ((with_reducible refine call_by (km) ?_); conv => whnf))
  ((try ((refine Exists.intro none ?_); (conv => whnf))); first | ((with_reducible refine call_by (kv) ?_); conv => whnf))
  ((try ((refine Exists.intro none ?_); (conv => whnf))); first | ((with_reducible refine call_by (kn) ?_); conv => whnf))
  ((try ((refine Exists.intro none ?_); (conv => whnf))); first | ((with_reducible refine call_by (kk) ?_); conv => whnf))
  ((first | (with_reducible refine split_dec (fun h => ?_) (fun h => ?_)) | (with_reducible refine split_beq (fun h => ?_) (fun h => ?_)) | (with_reducible refine split_bne (fun h => ?_) (fun h => ?_)) | (with_reducible refine split_not (fun h => ?_) (fun h => ?_)) | (with_reducible refine split_beqS (fun h => ?_) (fun h => ?_)) | (with_reducible refine split_intro (fun h => ?_) (fun h => ?_))) <;> conv => whnf)
  · simp only [List.length_map] at h
    omega
  clear h
  ((try ((refine Exists.intro none ?_); (conv => whnf))); first | ((with_reducible refine call_by (kt) ?_); conv => whnf))
  (refine Exists.intro _ (And.intro rfl (And.intro (by intro q _; simp only [List.length_nil]; omega) (And.intro (by intro i hi; exact absurd hi (Nat.not_lt_zero i)) ?_))); conv => whnf)
  ((refine Exists.intro (some ([(1000000, 2)], [], [])) ?_); (conv => whnf); refine callE_eq (ka) (by kernel_rfl) (by kernel_rfl) (by kernel_rfl) ?_; conv => whnf)
  refine tri_forO mixed (by kernel_rfl) (fun k : Nat => k ≤ 7) (fun k => [(9, iv k)]) (fun k => [(2, ({ ({ r with hard := H, mtch := M } : Rft) with next := nxt (newB (inForce r) c) n r.next k } : Rft).enc), (3, c.enc), (4, rzv), (7, (inForce r).enc)]) (fun _ => []) [] (fun k => 7 - k) 0 (by decide) ?_ ?_
  · conv => whnf
    (refine And.intro (And.intro (by with_unfolding_all rfl) (by intro q h; cases h)) ?_; refine And.intro ?_ (And.intro ?_ ?_) <;> (conv => whnf) <;> (repeat' (first | exact True.intro | (with_reducible exact rfl) | exact (rfl : List.replicate 0 PV.bad = []) | ((with_reducible refine And.intro ?_ ?_) <;> (first | (with_reducible exact wkV_same _ rfl) | exact wkV_pt rfl rfl | exact wkV_ow rfl rfl rfl | (refine wkV_ow rfl rfl ?_) | (refine wkV_sc (congrArg (Value.int .i64) ?_)) | (refine wkV_sc (congrArg Value.bool ?_)) | exact wkV_ls rfl | ((refine wkV_cl ?_); conv => whnf) | ((refine wkV_tu ?_); conv => whnf) | ((refine wkV_ag ?_); conv => whnf) | (conv => whnf))))))
    all_goals first | rfl | trace_state
  intro k hk
  rcases (by omega : k = 0 ∨ k = 1 ∨ k = 2 ∨ k = 3 ∨ k = 4 ∨ k = 5 ∨ k = 6 ∨ k = 7) with rfl | rfl | rfl | rfl | rfl | rfl | rfl | rfl
  · have ha := c_Has (bor (bor (bor c.full c.wit) c.learn) c.lwit) ((0 : Nat) : Int)
    have hb := c_Has (bor (bor (bor (inForce r).full (inForce r).wit) (inForce r).learn) (inForce r).lwit) ((0 : Nat) : Int)
    rw [hasB_nat _ 0 (by decide)] at ha hb
    have hdef : newB (inForce r) c 0 = (tb (bor (bor (bor c.full c.wit) c.learn) c.lwit) 0 && !tb (bor (bor (bor (inForce r).full (inForce r).wit) (inForce r).learn) (inForce r).lwit) 0) := rfl
    cases t1 : tb (bor (bor (bor c.full c.wit) c.learn) c.lwit) 0 with
    | false =>
      rw [t1] at ha hdef
      have e : nxt (newB (inForce r) c) n r.next 1 = nxt (newB (inForce r) c) n r.next 0 := nxt_no hdef
      conv => whnf
      ((try ((refine Exists.intro none ?_); (conv => whnf))); first | ((with_reducible refine call_by (kal c) ?_); conv => whnf))
      ((try ((refine Exists.intro none ?_); (conv => whnf))); first | ((with_reducible refine call_by (ha) ?_); conv => whnf))
      refine ⟨1, [], ⟨by omega, by omega⟩, ?_⟩
      conv => whnf
      (refine And.intro (And.intro (by with_unfolding_all rfl) (by intro q h; cases h)) ?_; refine And.intro ?_ (And.intro ?_ ?_) <;> (conv => whnf) <;> (repeat' (first | exact True.intro | (with_reducible exact rfl) | exact (rfl : List.replicate 0 PV.bad = []) | ((with_reducible refine And.intro ?_ ?_) <;> (first | (with_reducible exact wkV_same _ rfl) | exact wkV_pt rfl rfl | exact wkV_ow rfl rfl rfl | (refine wkV_ow rfl rfl ?_) | (refine wkV_sc (congrArg (Value.int .i64) ?_)) | (refine wkV_sc (congrArg Value.bool ?_)) | exact wkV_ls rfl | ((refine wkV_cl ?_); conv => whnf) | ((refine wkV_tu ?_); conv => whnf) | ((refine wkV_ag ?_); conv => whnf) | (conv => whnf))))))
      all_goals first | rfl | (rw [e]; done) | (rw [e]; rfl) | trace_state
    | true =>
      cases t2 : tb (bor (bor (bor (inForce r).full (inForce r).wit) (inForce r).learn) (inForce r).lwit) 0 with
      | true =>
        rw [t1, t2] at hdef
        rw [t1] at ha
        rw [t2] at hb
        have e : nxt (newB (inForce r) c) n r.next 1 = nxt (newB (inForce r) c) n r.next 0 := nxt_no hdef
        conv => whnf
        ((try ((refine Exists.intro none ?_); (conv => whnf))); first | ((with_reducible refine call_by (kal c) ?_); conv => whnf))
        ((try ((refine Exists.intro none ?_); (conv => whnf))); first | ((with_reducible refine call_by (ha) ?_); conv => whnf))
        ((try ((refine Exists.intro none ?_); (conv => whnf))); first | ((with_reducible refine call_by (kal (inForce r)) ?_); conv => whnf))
        ((try ((refine Exists.intro none ?_); (conv => whnf))); first | ((with_reducible refine call_by (hb) ?_); conv => whnf))
        refine ⟨1, [], ⟨by omega, by omega⟩, ?_⟩
        conv => whnf
        (refine And.intro (And.intro (by with_unfolding_all rfl) (by intro q h; cases h)) ?_; refine And.intro ?_ (And.intro ?_ ?_) <;> (conv => whnf) <;> (repeat' (first | exact True.intro | (with_reducible exact rfl) | exact (rfl : List.replicate 0 PV.bad = []) | ((with_reducible refine And.intro ?_ ?_) <;> (first | (with_reducible exact wkV_same _ rfl) | exact wkV_pt rfl rfl | exact wkV_ow rfl rfl rfl | (refine wkV_ow rfl rfl ?_) | (refine wkV_sc (congrArg (Value.int .i64) ?_)) | (refine wkV_sc (congrArg Value.bool ?_)) | exact wkV_ls rfl | ((refine wkV_cl ?_); conv => whnf) | ((refine wkV_tu ?_); conv => whnf) | ((refine wkV_ag ?_); conv => whnf) | (conv => whnf))))))
        all_goals first | rfl | (rw [e]; done) | (rw [e]; rfl) | trace_state
      | false =>
        rw [t1, t2] at hdef
        rw [t1] at ha
        rw [t2] at hb
        have e : nxt (newB (inForce r) c) n r.next 1 = (nxt (newB (inForce r) c) n r.next 0).put 0 n := nxt_yes hdef
        conv => whnf
        ((try ((refine Exists.intro none ?_); (conv => whnf))); first | ((with_reducible refine call_by (kal c) ?_); conv => whnf))
        ((try ((refine Exists.intro none ?_); (conv => whnf))); first | ((with_reducible refine call_by (ha) ?_); conv => whnf))
        ((try ((refine Exists.intro none ?_); (conv => whnf))); first | ((with_reducible refine call_by (kal (inForce r)) ?_); conv => whnf))
        ((try ((refine Exists.intro none ?_); (conv => whnf))); first | ((with_reducible refine call_by (hb) ?_); conv => whnf))
        refine ⟨⟨by decide, by decide⟩, ?_⟩
        conv => whnf
        refine ⟨1, [], ⟨by omega, by omega⟩, ?_⟩
        conv => whnf
        (refine And.intro (And.intro (by with_unfolding_all rfl) (by intro q h; cases h)) ?_; refine And.intro ?_ (And.intro ?_ ?_) <;> (conv => whnf) <;> (repeat' (first | exact True.intro | (with_reducible exact rfl) | exact (rfl : List.replicate 0 PV.bad = []) | ((with_reducible refine And.intro ?_ ?_) <;> (first | (with_reducible exact wkV_same _ rfl) | exact wkV_pt rfl rfl | exact wkV_ow rfl rfl rfl | (refine wkV_ow rfl rfl ?_) | (refine wkV_sc (congrArg (Value.int .i64) ?_)) | (refine wkV_sc (congrArg Value.bool ?_)) | exact wkV_ls rfl | ((refine wkV_cl ?_); conv => whnf) | ((refine wkV_tu ?_); conv => whnf) | ((refine wkV_ag ?_); conv => whnf) | (conv => whnf))))))
        all_goals first | rfl | (rw [e]; done) | (rw [e]; rfl) | trace_state
  · have ha := c_Has (bor (bor (bor c.full c.wit) c.learn) c.lwit) ((1 : Nat) : Int)
    have hb := c_Has (bor (bor (bor (inForce r).full (inForce r).wit) (inForce r).learn) (inForce r).lwit) ((1 : Nat) : Int)
    rw [hasB_nat _ 1 (by decide)] at ha hb
    have hdef : newB (inForce r) c 1 = (tb (bor (bor (bor c.full c.wit) c.learn) c.lwit) 1 && !tb (bor (bor (bor (inForce r).full (inForce r).wit) (inForce r).learn) (inForce r).lwit) 1) := rfl
    cases t1 : tb (bor (bor (bor c.full c.wit) c.learn) c.lwit) 1 with
    | false =>
      rw [t1] at ha hdef
      have e : nxt (newB (inForce r) c) n r.next 2 = nxt (newB (inForce r) c) n r.next 1 := nxt_no hdef
      conv => whnf
      ((try ((refine Exists.intro none ?_); (conv => whnf))); first | ((with_reducible refine call_by (kal c) ?_); conv => whnf))
      ((try ((refine Exists.intro none ?_); (conv => whnf))); first | ((with_reducible refine call_by (ha) ?_); conv => whnf))
      refine ⟨2, [], ⟨by omega, by omega⟩, ?_⟩
      conv => whnf
      (refine And.intro (And.intro (by with_unfolding_all rfl) (by intro q h; cases h)) ?_; refine And.intro ?_ (And.intro ?_ ?_) <;> (conv => whnf) <;> (repeat' (first | exact True.intro | (with_reducible exact rfl) | exact (rfl : List.replicate 0 PV.bad = []) | ((with_reducible refine And.intro ?_ ?_) <;> (first | (with_reducible exact wkV_same _ rfl) | exact wkV_pt rfl rfl | exact wkV_ow rfl rfl rfl | (refine wkV_ow rfl rfl ?_) | (refine wkV_sc (congrArg (Value.int .i64) ?_)) | (refine wkV_sc (congrArg Value.bool ?_)) | exact wkV_ls rfl | ((refine wkV_cl ?_); conv => whnf) | ((refine wkV_tu ?_); conv => whnf) | ((refine wkV_ag ?_); conv => whnf) | (conv => whnf))))))
      all_goals first | rfl | (rw [e]; done) | (rw [e]; rfl) | trace_state
    | true =>
      cases t2 : tb (bor (bor (bor (inForce r).full (inForce r).wit) (inForce r).learn) (inForce r).lwit) 1 with
      | true =>
        rw [t1, t2] at hdef
        rw [t1] at ha
        rw [t2] at hb
        have e : nxt (newB (inForce r) c) n r.next 2 = nxt (newB (inForce r) c) n r.next 1 := nxt_no hdef
        conv => whnf
        ((try ((refine Exists.intro none ?_); (conv => whnf))); first | ((with_reducible refine call_by (kal c) ?_); conv => whnf))
        ((try ((refine Exists.intro none ?_); (conv => whnf))); first | ((with_reducible refine call_by (ha) ?_); conv => whnf))
        ((try ((refine Exists.intro none ?_); (conv => whnf))); first | ((with_reducible refine call_by (kal (inForce r)) ?_); conv => whnf))
        ((try ((refine Exists.intro none ?_); (conv => whnf))); first | ((with_reducible refine call_by (hb) ?_); conv => whnf))
        refine ⟨2, [], ⟨by omega, by omega⟩, ?_⟩
        conv => whnf
        (refine And.intro (And.intro (by with_unfolding_all rfl) (by intro q h; cases h)) ?_; refine And.intro ?_ (And.intro ?_ ?_) <;> (conv => whnf) <;> (repeat' (first | exact True.intro | (with_reducible exact rfl) | exact (rfl : List.replicate 0 PV.bad = []) | ((with_reducible refine And.intro ?_ ?_) <;> (first | (with_reducible exact wkV_same _ rfl) | exact wkV_pt rfl rfl | exact wkV_ow rfl rfl rfl | (refine wkV_ow rfl rfl ?_) | (refine wkV_sc (congrArg (Value.int .i64) ?_)) | (refine wkV_sc (congrArg Value.bool ?_)) | exact wkV_ls rfl | ((refine wkV_cl ?_); conv => whnf) | ((refine wkV_tu ?_); conv => whnf) | ((refine wkV_ag ?_); conv => whnf) | (conv => whnf))))))
        all_goals first | rfl | (rw [e]; done) | (rw [e]; rfl) | trace_state
      | false =>
        rw [t1, t2] at hdef
        rw [t1] at ha
        rw [t2] at hb
        have e : nxt (newB (inForce r) c) n r.next 2 = (nxt (newB (inForce r) c) n r.next 1).put 1 n := nxt_yes hdef
        conv => whnf
        ((try ((refine Exists.intro none ?_); (conv => whnf))); first | ((with_reducible refine call_by (kal c) ?_); conv => whnf))
        ((try ((refine Exists.intro none ?_); (conv => whnf))); first | ((with_reducible refine call_by (ha) ?_); conv => whnf))
        ((try ((refine Exists.intro none ?_); (conv => whnf))); first | ((with_reducible refine call_by (kal (inForce r)) ?_); conv => whnf))
        ((try ((refine Exists.intro none ?_); (conv => whnf))); first | ((with_reducible refine call_by (hb) ?_); conv => whnf))
        refine ⟨⟨by decide, by decide⟩, ?_⟩
        conv => whnf
        refine ⟨2, [], ⟨by omega, by omega⟩, ?_⟩
        conv => whnf
        (refine And.intro (And.intro (by with_unfolding_all rfl) (by intro q h; cases h)) ?_; refine And.intro ?_ (And.intro ?_ ?_) <;> (conv => whnf) <;> (repeat' (first | exact True.intro | (with_reducible exact rfl) | exact (rfl : List.replicate 0 PV.bad = []) | ((with_reducible refine And.intro ?_ ?_) <;> (first | (with_reducible exact wkV_same _ rfl) | exact wkV_pt rfl rfl | exact wkV_ow rfl rfl rfl | (refine wkV_ow rfl rfl ?_) | (refine wkV_sc (congrArg (Value.int .i64) ?_)) | (refine wkV_sc (congrArg Value.bool ?_)) | exact wkV_ls rfl | ((refine wkV_cl ?_); conv => whnf) | ((refine wkV_tu ?_); conv => whnf) | ((refine wkV_ag ?_); conv => whnf) | (conv => whnf))))))
        all_goals first | rfl | (rw [e]; done) | (rw [e]; rfl) | trace_state
  · have ha := c_Has (bor (bor (bor c.full c.wit) c.learn) c.lwit) ((2 : Nat) : Int)
    have hb := c_Has (bor (bor (bor (inForce r).full (inForce r).wit) (inForce r).learn) (inForce r).lwit) ((2 : Nat) : Int)
    rw [hasB_nat _ 2 (by decide)] at ha hb
    have hdef : newB (inForce r) c 2 = (tb (bor (bor (bor c.full c.wit) c.learn) c.lwit) 2 && !tb (bor (bor (bor (inForce r).full (inForce r).wit) (inForce r).learn) (inForce r).lwit) 2) := rfl
    cases t1 : tb (bor (bor (bor c.full c.wit) c.learn) c.lwit) 2 with
    | false =>
      rw [t1] at ha hdef
      have e : nxt (newB (inForce r) c) n r.next 3 = nxt (newB (inForce r) c) n r.next 2 := nxt_no hdef
      conv => whnf
      ((try ((refine Exists.intro none ?_); (conv => whnf))); first | ((with_reducible refine call_by (kal c) ?_); conv => whnf))
      ((try ((refine Exists.intro none ?_); (conv => whnf))); first | ((with_reducible refine call_by (ha) ?_); conv => whnf))
      refine ⟨3, [], ⟨by omega, by omega⟩, ?_⟩
      conv => whnf
      (refine And.intro (And.intro (by with_unfolding_all rfl) (by intro q h; cases h)) ?_; refine And.intro ?_ (And.intro ?_ ?_) <;> (conv => whnf) <;> (repeat' (first | exact True.intro | (with_reducible exact rfl) | exact (rfl : List.replicate 0 PV.bad = []) | ((with_reducible refine And.intro ?_ ?_) <;> (first | (with_reducible exact wkV_same _ rfl) | exact wkV_pt rfl rfl | exact wkV_ow rfl rfl rfl | (refine wkV_ow rfl rfl ?_) | (refine wkV_sc (congrArg (Value.int .i64) ?_)) | (refine wkV_sc (congrArg Value.bool ?_)) | exact wkV_ls rfl | ((refine wkV_cl ?_); conv => whnf) | ((refine wkV_tu ?_); conv => whnf) | ((refine wkV_ag ?_); conv => whnf) | (conv => whnf))))))
      all_goals first | rfl | (rw [e]; done) | (rw [e]; rfl) | trace_state
    | true =>
      cases t2 : tb (bor (bor (bor (inForce r).full (inForce r).wit) (inForce r).learn) (inForce r).lwit) 2 with
      | true =>
        rw [t1, t2] at hdef
        rw [t1] at ha
        rw [t2] at hb
        have e : nxt (newB (inForce r) c) n r.next 3 = nxt (newB (inForce r) c) n r.next 2 := nxt_no hdef
        conv => whnf
        ((try ((refine Exists.intro none ?_); (conv => whnf))); first | ((with_reducible refine call_by (kal c) ?_); conv => whnf))
        ((try ((refine Exists.intro none ?_); (conv => whnf))); first | ((with_reducible refine call_by (ha) ?_); conv => whnf))
        ((try ((refine Exists.intro none ?_); (conv => whnf))); first | ((with_reducible refine call_by (kal (inForce r)) ?_); conv => whnf))
        ((try ((refine Exists.intro none ?_); (conv => whnf))); first | ((with_reducible refine call_by (hb) ?_); conv => whnf))
        refine ⟨3, [], ⟨by omega, by omega⟩, ?_⟩
        conv => whnf
        (refine And.intro (And.intro (by with_unfolding_all rfl) (by intro q h; cases h)) ?_; refine And.intro ?_ (And.intro ?_ ?_) <;> (conv => whnf) <;> (repeat' (first | exact True.intro | (with_reducible exact rfl) | exact (rfl : List.replicate 0 PV.bad = []) | ((with_reducible refine And.intro ?_ ?_) <;> (first | (with_reducible exact wkV_same _ rfl) | exact wkV_pt rfl rfl | exact wkV_ow rfl rfl rfl | (refine wkV_ow rfl rfl ?_) | (refine wkV_sc (congrArg (Value.int .i64) ?_)) | (refine wkV_sc (congrArg Value.bool ?_)) | exact wkV_ls rfl | ((refine wkV_cl ?_); conv => whnf) | ((refine wkV_tu ?_); conv => whnf) | ((refine wkV_ag ?_); conv => whnf) | (conv => whnf))))))
        all_goals first | rfl | (rw [e]; done) | (rw [e]; rfl) | trace_state
      | false =>
        rw [t1, t2] at hdef
        rw [t1] at ha
        rw [t2] at hb
        have e : nxt (newB (inForce r) c) n r.next 3 = (nxt (newB (inForce r) c) n r.next 2).put 2 n := nxt_yes hdef
        conv => whnf
        ((try ((refine Exists.intro none ?_); (conv => whnf))); first | ((with_reducible refine call_by (kal c) ?_); conv => whnf))
        ((try ((refine Exists.intro none ?_); (conv => whnf))); first | ((with_reducible refine call_by (ha) ?_); conv => whnf))
        ((try ((refine Exists.intro none ?_); (conv => whnf))); first | ((with_reducible refine call_by (kal (inForce r)) ?_); conv => whnf))
        ((try ((refine Exists.intro none ?_); (conv => whnf))); first | ((with_reducible refine call_by (hb) ?_); conv => whnf))
        refine ⟨⟨by decide, by decide⟩, ?_⟩
        conv => whnf
        refine ⟨3, [], ⟨by omega, by omega⟩, ?_⟩
        conv => whnf
        (refine And.intro (And.intro (by with_unfolding_all rfl) (by intro q h; cases h)) ?_; refine And.intro ?_ (And.intro ?_ ?_) <;> (conv => whnf) <;> (repeat' (first | exact True.intro | (with_reducible exact rfl) | exact (rfl : List.replicate 0 PV.bad = []) | ((with_reducible refine And.intro ?_ ?_) <;> (first | (with_reducible exact wkV_same _ rfl) | exact wkV_pt rfl rfl | exact wkV_ow rfl rfl rfl | (refine wkV_ow rfl rfl ?_) | (refine wkV_sc (congrArg (Value.int .i64) ?_)) | (refine wkV_sc (congrArg Value.bool ?_)) | exact wkV_ls rfl | ((refine wkV_cl ?_); conv => whnf) | ((refine wkV_tu ?_); conv => whnf) | ((refine wkV_ag ?_); conv => whnf) | (conv => whnf))))))
        all_goals first | rfl | (rw [e]; done) | (rw [e]; rfl) | trace_state
  · have ha := c_Has (bor (bor (bor c.full c.wit) c.learn) c.lwit) ((3 : Nat) : Int)
    have hb := c_Has (bor (bor (bor (inForce r).full (inForce r).wit) (inForce r).learn) (inForce r).lwit) ((3 : Nat) : Int)
    rw [hasB_nat _ 3 (by decide)] at ha hb
    have hdef : newB (inForce r) c 3 = (tb (bor (bor (bor c.full c.wit) c.learn) c.lwit) 3 && !tb (bor (bor (bor (inForce r).full (inForce r).wit) (inForce r).learn) (inForce r).lwit) 3) := rfl
    cases t1 : tb (bor (bor (bor c.full c.wit) c.learn) c.lwit) 3 with
    | false =>
      rw [t1] at ha hdef
      have e : nxt (newB (inForce r) c) n r.next 4 = nxt (newB (inForce r) c) n r.next 3 := nxt_no hdef
      conv => whnf
      ((try ((refine Exists.intro none ?_); (conv => whnf))); first | ((with_reducible refine call_by (kal c) ?_); conv => whnf))
      ((try ((refine Exists.intro none ?_); (conv => whnf))); first | ((with_reducible refine call_by (ha) ?_); conv => whnf))
      refine ⟨4, [], ⟨by omega, by omega⟩, ?_⟩
      conv => whnf
      (refine And.intro (And.intro (by with_unfolding_all rfl) (by intro q h; cases h)) ?_; refine And.intro ?_ (And.intro ?_ ?_) <;> (conv => whnf) <;> (repeat' (first | exact True.intro | (with_reducible exact rfl) | exact (rfl : List.replicate 0 PV.bad = []) | ((with_reducible refine And.intro ?_ ?_) <;> (first | (with_reducible exact wkV_same _ rfl) | exact wkV_pt rfl rfl | exact wkV_ow rfl rfl rfl | (refine wkV_ow rfl rfl ?_) | (refine wkV_sc (congrArg (Value.int .i64) ?_)) | (refine wkV_sc (congrArg Value.bool ?_)) | exact wkV_ls rfl | ((refine wkV_cl ?_); conv => whnf) | ((refine wkV_tu ?_); conv => whnf) | ((refine wkV_ag ?_); conv => whnf) | (conv => whnf))))))
      all_goals first | rfl | (rw [e]; done) | (rw [e]; rfl) | trace_state
    | true =>
      cases t2 : tb (bor (bor (bor (inForce r).full (inForce r).wit) (inForce r).learn) (inForce r).lwit) 3 with
      | true =>
        rw [t1, t2] at hdef
        rw [t1] at ha
        rw [t2] at hb
        have e : nxt (newB (inForce r) c) n r.next 4 = nxt (newB (inForce r) c) n r.next 3 := nxt_no hdef
        conv => whnf
        ((try ((refine Exists.intro none ?_); (conv => whnf))); first | ((with_reducible refine call_by (kal c) ?_); conv => whnf))
        ((try ((refine Exists.intro none ?_); (conv => whnf))); first | ((with_reducible refine call_by (ha) ?_); conv => whnf))
        ((try ((refine Exists.intro none ?_); (conv => whnf))); first | ((with_reducible refine call_by (kal (inForce r)) ?_); conv => whnf))
        ((try ((refine Exists.intro none ?_); (conv => whnf))); first | ((with_reducible refine call_by (hb) ?_); conv => whnf))
        refine ⟨4, [], ⟨by omega, by omega⟩, ?_⟩
        conv => whnf
        (refine And.intro (And.intro (by with_unfolding_all rfl) (by intro q h; cases h)) ?_; refine And.intro ?_ (And.intro ?_ ?_) <;> (conv => whnf) <;> (repeat' (first | exact True.intro | (with_reducible exact rfl) | exact (rfl : List.replicate 0 PV.bad = []) | ((with_reducible refine And.intro ?_ ?_) <;> (first | (with_reducible exact wkV_same _ rfl) | exact wkV_pt rfl rfl | exact wkV_ow rfl rfl rfl | (refine wkV_ow rfl rfl ?_) | (refine wkV_sc (congrArg (Value.int .i64) ?_)) | (refine wkV_sc (congrArg Value.bool ?_)) | exact wkV_ls rfl | ((refine wkV_cl ?_); conv => whnf) | ((refine wkV_tu ?_); conv => whnf) | ((refine wkV_ag ?_); conv => whnf) | (conv => whnf))))))
        all_goals first | rfl | (rw [e]; done) | (rw [e]; rfl) | trace_state
      | false =>
        rw [t1, t2] at hdef
        rw [t1] at ha
        rw [t2] at hb
        have e : nxt (newB (inForce r) c) n r.next 4 = (nxt (newB (inForce r) c) n r.next 3).put 3 n := nxt_yes hdef
        conv => whnf
        ((try ((refine Exists.intro none ?_); (conv => whnf))); first | ((with_reducible refine call_by (kal c) ?_); conv => whnf))
        ((try ((refine Exists.intro none ?_); (conv => whnf))); first | ((with_reducible refine call_by (ha) ?_); conv => whnf))
        ((try ((refine Exists.intro none ?_); (conv => whnf))); first | ((with_reducible refine call_by (kal (inForce r)) ?_); conv => whnf))
        ((try ((refine Exists.intro none ?_); (conv => whnf))); first | ((with_reducible refine call_by (hb) ?_); conv => whnf))
        refine ⟨⟨by decide, by decide⟩, ?_⟩
        conv => whnf
        refine ⟨4, [], ⟨by omega, by omega⟩, ?_⟩
        conv => whnf
        (refine And.intro (And.intro (by with_unfolding_all rfl) (by intro q h; cases h)) ?_; refine And.intro ?_ (And.intro ?_ ?_) <;> (conv => whnf) <;> (repeat' (first | exact True.intro | (with_reducible exact rfl) | exact (rfl : List.replicate 0 PV.bad = []) | ((with_reducible refine And.intro ?_ ?_) <;> (first | (with_reducible exact wkV_same _ rfl) | exact wkV_pt rfl rfl | exact wkV_ow rfl rfl rfl | (refine wkV_ow rfl rfl ?_) | (refine wkV_sc (congrArg (Value.int .i64) ?_)) | (refine wkV_sc (congrArg Value.bool ?_)) | exact wkV_ls rfl | ((refine wkV_cl ?_); conv => whnf) | ((refine wkV_tu ?_); conv => whnf) | ((refine wkV_ag ?_); conv => whnf) | (conv => whnf))))))
        all_goals first | rfl | (rw [e]; done) | (rw [e]; rfl) | trace_state
  · have ha := c_Has (bor (bor (bor c.full c.wit) c.learn) c.lwit) ((4 : Nat) : Int)
    have hb := c_Has (bor (bor (bor (inForce r).full (inForce r).wit) (inForce r).learn) (inForce r).lwit) ((4 : Nat) : Int)
    rw [hasB_nat _ 4 (by decide)] at ha hb
    have hdef : newB (inForce r) c 4 = (tb (bor (bor (bor c.full c.wit) c.learn) c.lwit) 4 && !tb (bor (bor (bor (inForce r).full (inForce r).wit) (inForce r).learn) (inForce r).lwit) 4) := rfl
    cases t1 : tb (bor (bor (bor c.full c.wit) c.learn) c.lwit) 4 with
    | false =>
      rw [t1] at ha hdef
      have e : nxt (newB (inForce r) c) n r.next 5 = nxt (newB (inForce r) c) n r.next 4 := nxt_no hdef
      conv => whnf
      ((try ((refine Exists.intro none ?_); (conv => whnf))); first | ((with_reducible refine call_by (kal c) ?_); conv => whnf))
      ((try ((refine Exists.intro none ?_); (conv => whnf))); first | ((with_reducible refine call_by (ha) ?_); conv => whnf))
      refine ⟨5, [], ⟨by omega, by omega⟩, ?_⟩
      conv => whnf
      (refine And.intro (And.intro (by with_unfolding_all rfl) (by intro q h; cases h)) ?_; refine And.intro ?_ (And.intro ?_ ?_) <;> (conv => whnf) <;> (repeat' (first | exact True.intro | (with_reducible exact rfl) | exact (rfl : List.replicate 0 PV.bad = []) | ((with_reducible refine And.intro ?_ ?_) <;> (first | (with_reducible exact wkV_same _ rfl) | exact wkV_pt rfl rfl | exact wkV_ow rfl rfl rfl | (refine wkV_ow rfl rfl ?_) | (refine wkV_sc (congrArg (Value.int .i64) ?_)) | (refine wkV_sc (congrArg Value.bool ?_)) | exact wkV_ls rfl | ((refine wkV_cl ?_); conv => whnf) | ((refine wkV_tu ?_); conv => whnf) | ((refine wkV_ag ?_); conv => whnf) | (conv => whnf))))))
      all_goals first | rfl | (rw [e]; done) | (rw [e]; rfl) | trace_state
    | true =>
      cases t2 : tb (bor (bor (bor (inForce r).full (inForce r).wit) (inForce r).learn) (inForce r).lwit) 4 with
      | true =>
        rw [t1, t2] at hdef
        rw [t1] at ha
        rw [t2] at hb
        have e : nxt (newB (inForce r) c) n r.next 5 = nxt (newB (inForce r) c) n r.next 4 := nxt_no hdef
        conv => whnf
        ((try ((refine Exists.intro none ?_); (conv => whnf))); first | ((with_reducible refine call_by (kal c) ?_); conv => whnf))
        ((try ((refine Exists.intro none ?_); (conv => whnf))); first | ((with_reducible refine call_by (ha) ?_); conv => whnf))
        ((try ((refine Exists.intro none ?_); (conv => whnf))); first | ((with_reducible refine call_by (kal (inForce r)) ?_); conv => whnf))
        ((try ((refine Exists.intro none ?_); (conv => whnf))); first | ((with_reducible refine call_by (hb) ?_); conv => whnf))
        refine ⟨5, [], ⟨by omega, by omega⟩, ?_⟩
        conv => whnf
        (refine And.intro (And.intro (by with_unfolding_all rfl) (by intro q h; cases h)) ?_; refine And.intro ?_ (And.intro ?_ ?_) <;> (conv => whnf) <;> (repeat' (first | exact True.intro | (with_reducible exact rfl) | exact (rfl : List.replicate 0 PV.bad = []) | ((with_reducible refine And.intro ?_ ?_) <;> (first | (with_reducible exact wkV_same _ rfl) | exact wkV_pt rfl rfl | exact wkV_ow rfl rfl rfl | (refine wkV_ow rfl rfl ?_) | (refine wkV_sc (congrArg (Value.int .i64) ?_)) | (refine wkV_sc (congrArg Value.bool ?_)) | exact wkV_ls rfl | ((refine wkV_cl ?_); conv => whnf) | ((refine wkV_tu ?_); conv => whnf) | ((refine wkV_ag ?_); conv => whnf) | (conv => whnf))))))
        all_goals first | rfl | (rw [e]; done) | (rw [e]; rfl) | trace_state
      | false =>
        rw [t1, t2] at hdef
        rw [t1] at ha
        rw [t2] at hb
        have e : nxt (newB (inForce r) c) n r.next 5 = (nxt (newB (inForce r) c) n r.next 4).put 4 n := nxt_yes hdef
        conv => whnf
        ((try ((refine Exists.intro none ?_); (conv => whnf))); first | ((with_reducible refine call_by (kal c) ?_); conv => whnf))
        ((try ((refine Exists.intro none ?_); (conv => whnf))); first | ((with_reducible refine call_by (ha) ?_); conv => whnf))
        ((try ((refine Exists.intro none ?_); (conv => whnf))); first | ((with_reducible refine call_by (kal (inForce r)) ?_); conv => whnf))
        ((try ((refine Exists.intro none ?_); (conv => whnf))); first | ((with_reducible refine call_by (hb) ?_); conv => whnf))
        refine ⟨⟨by decide, by decide⟩, ?_⟩
        conv => whnf
        refine ⟨5, [], ⟨by omega, by omega⟩, ?_⟩
        conv => whnf
        (refine And.intro (And.intro (by with_unfolding_all rfl) (by intro q h; cases h)) ?_; refine And.intro ?_ (And.intro ?_ ?_) <;> (conv => whnf) <;> (repeat' (first | exact True.intro | (with_reducible exact rfl) | exact (rfl : List.replicate 0 PV.bad = []) | ((with_reducible refine And.intro ?_ ?_) <;> (first | (with_reducible exact wkV_same _ rfl) | exact wkV_pt rfl rfl | exact wkV_ow rfl rfl rfl | (refine wkV_ow rfl rfl ?_) | (refine wkV_sc (congrArg (Value.int .i64) ?_)) | (refine wkV_sc (congrArg Value.bool ?_)) | exact wkV_ls rfl | ((refine wkV_cl ?_); conv => whnf) | ((refine wkV_tu ?_); conv => whnf) | ((refine wkV_ag ?_); conv => whnf) | (conv => whnf))))))
        all_goals first | rfl | (rw [e]; done) | (rw [e]; rfl) | trace_state
  · have ha := c_Has (bor (bor (bor c.full c.wit) c.learn) c.lwit) ((5 : Nat) : Int)
    have hb := c_Has (bor (bor (bor (inForce r).full (inForce r).wit) (inForce r).learn) (inForce r).lwit) ((5 : Nat) : Int)
    rw [hasB_nat _ 5 (by decide)] at ha hb
    have hdef : newB (inForce r) c 5 = (tb (bor (bor (bor c.full c.wit) c.learn) c.lwit) 5 && !tb (bor (bor (bor (inForce r).full (inForce r).wit) (inForce r).learn) (inForce r).lwit) 5) := rfl
    cases t1 : tb (bor (bor (bor c.full c.wit) c.learn) c.lwit) 5 with
    | false =>
      rw [t1] at ha hdef
      have e : nxt (newB (inForce r) c) n r.next 6 = nxt (newB (inForce r) c) n r.next 5 := nxt_no hdef
      conv => whnf
      ((try ((refine Exists.intro none ?_); (conv => whnf))); first | ((with_reducible refine call_by (kal c) ?_); conv => whnf))
      ((try ((refine Exists.intro none ?_); (conv => whnf))); first | ((with_reducible refine call_by (ha) ?_); conv => whnf))
      refine ⟨6, [], ⟨by omega, by omega⟩, ?_⟩
      conv => whnf
      (refine And.intro (And.intro (by with_unfolding_all rfl) (by intro q h; cases h)) ?_; refine And.intro ?_ (And.intro ?_ ?_) <;> (conv => whnf) <;> (repeat' (first | exact True.intro | (with_reducible exact rfl) | exact (rfl : List.replicate 0 PV.bad = []) | ((with_reducible refine And.intro ?_ ?_) <;> (first | (with_reducible exact wkV_same _ rfl) | exact wkV_pt rfl rfl | exact wkV_ow rfl rfl rfl | (refine wkV_ow rfl rfl ?_) | (refine wkV_sc (congrArg (Value.int .i64) ?_)) | (refine wkV_sc (congrArg Value.bool ?_)) | exact wkV_ls rfl | ((refine wkV_cl ?_); conv => whnf) | ((refine wkV_tu ?_); conv => whnf) | ((refine wkV_ag ?_); conv => whnf) | (conv => whnf))))))
      all_goals first | rfl | (rw [e]; done) | (rw [e]; rfl) | trace_state
    | true =>
      cases t2 : tb (bor (bor (bor (inForce r).full (inForce r).wit) (inForce r).learn) (inForce r).lwit) 5 with
      | true =>
        rw [t1, t2] at hdef
        rw [t1] at ha
        rw [t2] at hb
        have e : nxt (newB (inForce r) c) n r.next 6 = nxt (newB (inForce r) c) n r.next 5 := nxt_no hdef
        conv => whnf
        ((try ((refine Exists.intro none ?_); (conv => whnf))); first | ((with_reducible refine call_by (kal c) ?_); conv => whnf))
        ((try ((refine Exists.intro none ?_); (conv => whnf))); first | ((with_reducible refine call_by (ha) ?_); conv => whnf))
        ((try ((refine Exists.intro none ?_); (conv => whnf))); first | ((with_reducible refine call_by (kal (inForce r)) ?_); conv => whnf))
        ((try ((refine Exists.intro none ?_); (conv => whnf))); first | ((with_reducible refine call_by (hb) ?_); conv => whnf))
        refine ⟨6, [], ⟨by omega, by omega⟩, ?_⟩
        conv => whnf
        (refine And.intro (And.intro (by with_unfolding_all rfl) (by intro q h; cases h)) ?_; refine And.intro ?_ (And.intro ?_ ?_) <;> (conv => whnf) <;> (repeat' (first | exact True.intro | (with_reducible exact rfl) | exact (rfl : List.replicate 0 PV.bad = []) | ((with_reducible refine And.intro ?_ ?_) <;> (first | (with_reducible exact wkV_same _ rfl) | exact wkV_pt rfl rfl | exact wkV_ow rfl rfl rfl | (refine wkV_ow rfl rfl ?_) | (refine wkV_sc (congrArg (Value.int .i64) ?_)) | (refine wkV_sc (congrArg Value.bool ?_)) | exact wkV_ls rfl | ((refine wkV_cl ?_); conv => whnf) | ((refine wkV_tu ?_); conv => whnf) | ((refine wkV_ag ?_); conv => whnf) | (conv => whnf))))))
        all_goals first | rfl | (rw [e]; done) | (rw [e]; rfl) | trace_state
      | false =>
        rw [t1, t2] at hdef
        rw [t1] at ha
        rw [t2] at hb
        have e : nxt (newB (inForce r) c) n r.next 6 = (nxt (newB (inForce r) c) n r.next 5).put 5 n := nxt_yes hdef
        conv => whnf
        ((try ((refine Exists.intro none ?_); (conv => whnf))); first | ((with_reducible refine call_by (kal c) ?_); conv => whnf))
        ((try ((refine Exists.intro none ?_); (conv => whnf))); first | ((with_reducible refine call_by (ha) ?_); conv => whnf))
        ((try ((refine Exists.intro none ?_); (conv => whnf))); first | ((with_reducible refine call_by (kal (inForce r)) ?_); conv => whnf))
        ((try ((refine Exists.intro none ?_); (conv => whnf))); first | ((with_reducible refine call_by (hb) ?_); conv => whnf))
        refine ⟨⟨by decide, by decide⟩, ?_⟩
        conv => whnf
        refine ⟨6, [], ⟨by omega, by omega⟩, ?_⟩
        conv => whnf
        (refine And.intro (And.intro (by with_unfolding_all rfl) (by intro q h; cases h)) ?_; refine And.intro ?_ (And.intro ?_ ?_) <;> (conv => whnf) <;> (repeat' (first | exact True.intro | (with_reducible exact rfl) | exact (rfl : List.replicate 0 PV.bad = []) | ((with_reducible refine And.intro ?_ ?_) <;> (first | (with_reducible exact wkV_same _ rfl) | exact wkV_pt rfl rfl | exact wkV_ow rfl rfl rfl | (refine wkV_ow rfl rfl ?_) | (refine wkV_sc (congrArg (Value.int .i64) ?_)) | (refine wkV_sc (congrArg Value.bool ?_)) | exact wkV_ls rfl | ((refine wkV_cl ?_); conv => whnf) | ((refine wkV_tu ?_); conv => whnf) | ((refine wkV_ag ?_); conv => whnf) | (conv => whnf))))))
        all_goals first | rfl | (rw [e]; done) | (rw [e]; rfl) | trace_state
  · have ha := c_Has (bor (bor (bor c.full c.wit) c.learn) c.lwit) ((6 : Nat) : Int)
    have hb := c_Has (bor (bor (bor (inForce r).full (inForce r).wit) (inForce r).learn) (inForce r).lwit) ((6 : Nat) : Int)
    rw [hasB_nat _ 6 (by decide)] at ha hb
    have hdef : newB (inForce r) c 6 = (tb (bor (bor (bor c.full c.wit) c.learn) c.lwit) 6 && !tb (bor (bor (bor (inForce r).full (inForce r).wit) (inForce r).learn) (inForce r).lwit) 6) := rfl
    cases t1 : tb (bor (bor (bor c.full c.wit) c.learn) c.lwit) 6 with
    | false =>
      rw [t1] at ha hdef
      have e : nxt (newB (inForce r) c) n r.next 7 = nxt (newB (inForce r) c) n r.next 6 := nxt_no hdef
      conv => whnf
      ((try ((refine Exists.intro none ?_); (conv => whnf))); first | ((with_reducible refine call_by (kal c) ?_); conv => whnf))
      ((try ((refine Exists.intro none ?_); (conv => whnf))); first | ((with_reducible refine call_by (ha) ?_); conv => whnf))
      refine ⟨7, [], ⟨by omega, by omega⟩, ?_⟩
      conv => whnf
      (refine And.intro (And.intro (by with_unfolding_all rfl) (by intro q h; cases h)) ?_; refine And.intro ?_ (And.intro ?_ ?_) <;> (conv => whnf) <;> (repeat' (first | exact True.intro | (with_reducible exact rfl) | exact (rfl : List.replicate 0 PV.bad = []) | ((with_reducible refine And.intro ?_ ?_) <;> (first | (with_reducible exact wkV_same _ rfl) | exact wkV_pt rfl rfl | exact wkV_ow rfl rfl rfl | (refine wkV_ow rfl rfl ?_) | (refine wkV_sc (congrArg (Value.int .i64) ?_)) | (refine wkV_sc (congrArg Value.bool ?_)) | exact wkV_ls rfl | ((refine wkV_cl ?_); conv => whnf) | ((refine wkV_tu ?_); conv => whnf) | ((refine wkV_ag ?_); conv => whnf) | (conv => whnf))))))
      all_goals first | rfl | (rw [e]; done) | (rw [e]; rfl) | trace_state
    | true =>
      cases t2 : tb (bor (bor (bor (inForce r).full (inForce r).wit) (inForce r).learn) (inForce r).lwit) 6 with
      | true =>
        rw [t1, t2] at hdef
        rw [t1] at ha
        rw [t2] at hb
        have e : nxt (newB (inForce r) c) n r.next 7 = nxt (newB (inForce r) c) n r.next 6 := nxt_no hdef
        conv => whnf
        ((try ((refine Exists.intro none ?_); (conv => whnf))); first | ((with_reducible refine call_by (kal c) ?_); conv => whnf))
        ((try ((refine Exists.intro none ?_); (conv => whnf))); first | ((with_reducible refine call_by (ha) ?_); conv => whnf))
        ((try ((refine Exists.intro none ?_); (conv => whnf))); first | ((with_reducible refine call_by (kal (inForce r)) ?_); conv => whnf))
        ((try ((refine Exists.intro none ?_); (conv => whnf))); first | ((with_reducible refine call_by (hb) ?_); conv => whnf))
        refine ⟨7, [], ⟨by omega, by omega⟩, ?_⟩
        conv => whnf
        (refine And.intro (And.intro (by with_unfolding_all rfl) (by intro q h; cases h)) ?_; refine And.intro ?_ (And.intro ?_ ?_) <;> (conv => whnf) <;> (repeat' (first | exact True.intro | (with_reducible exact rfl) | exact (rfl : List.replicate 0 PV.bad = []) | ((with_reducible refine And.intro ?_ ?_) <;> (first | (with_reducible exact wkV_same _ rfl) | exact wkV_pt rfl rfl | exact wkV_ow rfl rfl rfl | (refine wkV_ow rfl rfl ?_) | (refine wkV_sc (congrArg (Value.int .i64) ?_)) | (refine wkV_sc (congrArg Value.bool ?_)) | exact wkV_ls rfl | ((refine wkV_cl ?_); conv => whnf) | ((refine wkV_tu ?_); conv => whnf) | ((refine wkV_ag ?_); conv => whnf) | (conv => whnf))))))
        all_goals first | rfl | (rw [e]; done) | (rw [e]; rfl) | trace_state
      | false =>
        rw [t1, t2] at hdef
        rw [t1] at ha
        rw [t2] at hb
        have e : nxt (newB (inForce r) c) n r.next 7 = (nxt (newB (inForce r) c) n r.next 6).put 6 n := nxt_yes hdef
        conv => whnf
        ((try ((refine Exists.intro none ?_); (conv => whnf))); first | ((with_reducible refine call_by (kal c) ?_); conv => whnf))
        ((try ((refine Exists.intro none ?_); (conv => whnf))); first | ((with_reducible refine call_by (ha) ?_); conv => whnf))
        ((try ((refine Exists.intro none ?_); (conv => whnf))); first | ((with_reducible refine call_by (kal (inForce r)) ?_); conv => whnf))
        ((try ((refine Exists.intro none ?_); (conv => whnf))); first | ((with_reducible refine call_by (hb) ?_); conv => whnf))
        refine ⟨⟨by decide, by decide⟩, ?_⟩
        conv => whnf
        refine ⟨7, [], ⟨by omega, by omega⟩, ?_⟩
        conv => whnf
        (refine And.intro (And.intro (by with_unfolding_all rfl) (by intro q h; cases h)) ?_; refine And.intro ?_ (And.intro ?_ ?_) <;> (conv => whnf) <;> (repeat' (first | exact True.intro | (with_reducible exact rfl) | exact (rfl : List.replicate 0 PV.bad = []) | ((with_reducible refine And.intro ?_ ?_) <;> (first | (with_reducible exact wkV_same _ rfl) | exact wkV_pt rfl rfl | exact wkV_ow rfl rfl rfl | (refine wkV_ow rfl rfl ?_) | (refine wkV_sc (congrArg (Value.int .i64) ?_)) | (refine wkV_sc (congrArg Value.bool ?_)) | exact wkV_ls rfl | ((refine wkV_cl ?_); conv => whnf) | ((refine wkV_tu ?_); conv => whnf) | ((refine wkV_ag ?_); conv => whnf) | (conv => whnf))))))
        all_goals first | rfl | (rw [e]; done) | (rw [e]; rfl) | trace_state
  · conv => whnf
    ((try ((refine Exists.intro none ?_); (conv => whnf))); refine call_eq (kc) (by kernel_rfl) ?_; conv => whnf)
    exact exit_plain rfl rfl
end Go.Proofs
