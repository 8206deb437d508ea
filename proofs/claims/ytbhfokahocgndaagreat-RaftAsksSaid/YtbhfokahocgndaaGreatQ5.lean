/- Contracts of functions: a configuration is put into the log, by the program and by the page. -/
import Derived.Test.YtbhfokahocgndaaGreatQ4
import Derived.Test.YtbhfokahocgndaaGreatTConfSteps
import Derived.Test.YtbhfokahocgndaaGreatC10
set_option linter.unusedSimpArgs false
set_option linter.unusedVariables false
namespace Go.Proofs
open Go.Pv
set_option maxRecDepth 100000

noncomputable abbrev mayB (r : Rft) : Bool := fits r.hard r.commit r.hard.term && decide ((force r.hard (lastI r.hard)).2 ≤ r.commit)
noncomputable def chgE (r : Rft) (c : Conf) : Int := if leadsE r = 0 then (if mayB r = true then (if nearR (inForce r) c = true ∧ ¬ inForce r = c then (if r.hard.log.length < 64 then 0 else 5) else 14) else 13) else 11
/-- Who comes in is sent what is behind the last entry. -/
def nxt (f : Nat → Bool) (v : Int) (a : Arr) : Nat → Arr
  | 0 => a
  | k + 1 => if f k = true then (nxt f v a k).put k v else nxt f v a k
theorem nxt_yes {f : Nat → Bool} {v : Int} {a : Arr} {k : Nat} (h : f k = true) : nxt f v a (k + 1) = (nxt f v a k).put k v := if_pos h
theorem nxt_no {f : Nat → Bool} {v : Int} {a : Arr} {k : Nat} (h : f k = false) : nxt f v a (k + 1) = nxt f v a k := if_neg (by rw [h]; decide)
noncomputable def newB (was c : Conf) (k : Nat) : Bool := tb (allB c) k && !tb (allB was) k
set_option maxHeartbeats 4000000 in
theorem c_Chg_err (r : Rft) (c : Conf) (hl0 : r.hard.log.length < 4294967) (hr : rightB r = true) (he : ¬ chgE r c = 0) : Ctr Tryz.prog 12 [.ag r.enc, .ag c.enc] (.tu [.ag rzv, iv 0, iv (chgE r c)]) [] := by
  have hg := rgt_of hr
  have hf := hg.fit hl0
  have hb := hf.base
  have ko := c_of r hf.snap (by omega) (by have := hf.reads; omega) hr
  have kl := c_leads r (smallM (by omega))
  have kv := c_vConf r (smallM (by omega))
  have km := c_May r.hard (smallM (by omega)) (by unfold isI; omega) r.commit (hg.comI hl0)
  have kn := c_Near (inForce r) c
  unfold chgE at he ⊢
  rcases leadsE_cases r with h1 | h1
  · rw [if_pos h1] at he ⊢
    rw [h1] at kl
    cases hw : mayB r with
    | false =>
      rw [show (fits r.hard r.commit r.hard.term && decide ((force r.hard (lastI r.hard)).2 ≤ r.commit)) = false from hw] at km
      rw [if_neg (by decide)]
      refine spec_of_body mixed Tryz.func12 rfl (by kernel_rfl) (by kernel_rfl) ?_; conv => whnf
      ((refine Exists.intro (some ([(28, 500)], [], [(0, 600), (1, 601), (2, 602), (3, 603)])) ?_); (conv => whnf); first | ((with_reducible refine callE_by (ko) ?_); conv => whnf))
      ((try ((refine Exists.intro none ?_); (conv => whnf))); first | ((with_reducible refine call_by (kl) ?_); conv => whnf))
      ((try ((refine Exists.intro none ?_); (conv => whnf))); first | ((with_reducible refine call_by (kv) ?_); conv => whnf))
      ((try ((refine Exists.intro none ?_); (conv => whnf))); first | ((with_reducible refine call_by (km) ?_); conv => whnf))
      exact exit_plain rfl rfl
    | true =>
      rw [show (fits r.hard r.commit r.hard.term && decide ((force r.hard (lastI r.hard)).2 ≤ r.commit)) = true from hw] at km
      rw [hw, if_pos rfl] at he
      rw [if_pos rfl]
      cases hn : nearR (inForce r) c with
      | false =>
        rw [hn] at kn
        rw [if_neg (by intro h; cases h.1)]
        refine spec_of_body mixed Tryz.func12 rfl (by kernel_rfl) (by kernel_rfl) ?_; conv => whnf
        ((refine Exists.intro (some ([(28, 500)], [], [(0, 600), (1, 601), (2, 602), (3, 603)])) ?_); (conv => whnf); first | ((with_reducible refine callE_by (ko) ?_); conv => whnf))
        ((try ((refine Exists.intro none ?_); (conv => whnf))); first | ((with_reducible refine call_by (kl) ?_); conv => whnf))
        ((try ((refine Exists.intro none ?_); (conv => whnf))); first | ((with_reducible refine call_by (kv) ?_); conv => whnf))
        ((try ((refine Exists.intro none ?_); (conv => whnf))); first | ((with_reducible refine call_by (km) ?_); conv => whnf))
        ((try ((refine Exists.intro none ?_); (conv => whnf))); first | ((with_reducible refine call_by (kn) ?_); conv => whnf))
        exact exit_plain rfl rfl
      | true =>
        rw [hn] at kn
        by_cases h2 : inForce r = c
        · rw [if_neg (fun h => h.2 h2)]
          refine spec_of_body mixed Tryz.func12 rfl (by kernel_rfl) (by kernel_rfl) ?_; conv => whnf
          ((refine Exists.intro (some ([(28, 500)], [], [(0, 600), (1, 601), (2, 602), (3, 603)])) ?_); (conv => whnf); first | ((with_reducible refine callE_by (ko) ?_); conv => whnf))
          ((try ((refine Exists.intro none ?_); (conv => whnf))); first | ((with_reducible refine call_by (kl) ?_); conv => whnf))
          ((try ((refine Exists.intro none ?_); (conv => whnf))); first | ((with_reducible refine call_by (kv) ?_); conv => whnf))
          ((try ((refine Exists.intro none ?_); (conv => whnf))); first | ((with_reducible refine call_by (km) ?_); conv => whnf))
          ((try ((refine Exists.intro none ?_); (conv => whnf))); first | ((with_reducible refine call_by (kn) ?_); conv => whnf))
          refine ⟨eqOk23, _, eqConf _ c, ?_⟩
          conv => whnf
          ((first | (with_reducible refine split_dec (fun h => ?_) (fun h => ?_)) | (with_reducible refine split_beq (fun h => ?_) (fun h => ?_)) | (with_reducible refine split_bne (fun h => ?_) (fun h => ?_)) | (with_reducible refine split_not (fun h => ?_) (fun h => ?_)) | (with_reducible refine split_beqS (fun h => ?_) (fun h => ?_)) | (with_reducible refine split_intro (fun h => ?_) (fun h => ?_))) <;> conv => whnf)
          · exact exit_plain rfl rfl
          · exact absurd h2 (by first | exact h | (simpa using h))
        · rw [hn, if_pos ⟨rfl, h2⟩] at he
          rw [if_pos ⟨rfl, h2⟩]
          by_cases h3 : r.hard.log.length < 64
          · rw [if_pos h3] at he; exact absurd rfl he
          · rw [if_neg h3]
            refine spec_of_body mixed Tryz.func12 rfl (by kernel_rfl) (by kernel_rfl) ?_; conv => whnf
            ((refine Exists.intro (some ([(28, 500)], [], [(0, 600), (1, 601), (2, 602), (3, 603)])) ?_); (conv => whnf); first | ((with_reducible refine callE_by (ko) ?_); conv => whnf))
            ((try ((refine Exists.intro none ?_); (conv => whnf))); first | ((with_reducible refine call_by (kl) ?_); conv => whnf))
            ((try ((refine Exists.intro none ?_); (conv => whnf))); first | ((with_reducible refine call_by (kv) ?_); conv => whnf))
            ((try ((refine Exists.intro none ?_); (conv => whnf))); first | ((with_reducible refine call_by (km) ?_); conv => whnf))
            ((try ((refine Exists.intro none ?_); (conv => whnf))); first | ((with_reducible refine call_by (kn) ?_); conv => whnf))
            refine ⟨eqOk23, _, eqConf _ c, ?_⟩
            conv => whnf
            ((first | (with_reducible refine split_dec (fun h => ?_) (fun h => ?_)) | (with_reducible refine split_beq (fun h => ?_) (fun h => ?_)) | (with_reducible refine split_bne (fun h => ?_) (fun h => ?_)) | (with_reducible refine split_not (fun h => ?_) (fun h => ?_)) | (with_reducible refine split_beqS (fun h => ?_) (fun h => ?_)) | (with_reducible refine split_intro (fun h => ?_) (fun h => ?_))) <;> conv => whnf)
            · exact absurd (by first | exact h | (simpa using h)) h2
            clear h
            ((first | (with_reducible refine split_dec (fun h => ?_) (fun h => ?_)) | (with_reducible refine split_beq (fun h => ?_) (fun h => ?_)) | (with_reducible refine split_bne (fun h => ?_) (fun h => ?_)) | (with_reducible refine split_not (fun h => ?_) (fun h => ?_)) | (with_reducible refine split_beqS (fun h => ?_) (fun h => ?_)) | (with_reducible refine split_intro (fun h => ?_) (fun h => ?_))) <;> conv => whnf)
            · exact exit_plain rfl rfl
            · simp only [List.length_map] at h
              omega
  · rw [if_neg (by omega)]
    rw [h1] at kl
    refine spec_of_body mixed Tryz.func12 rfl (by kernel_rfl) (by kernel_rfl) ?_; conv => whnf
    ((refine Exists.intro (some ([(28, 500)], [], [(0, 600), (1, 601), (2, 602), (3, 603)])) ?_); (conv => whnf); first | ((with_reducible refine callE_by (ko) ?_); conv => whnf))
    ((try ((refine Exists.intro none ?_); (conv => whnf))); first | ((with_reducible refine call_by (kl) ?_); conv => whnf))
    ((try ((refine Exists.intro none ?_); (conv => whnf))); first | ((with_reducible refine call_by (kv) ?_); conv => whnf))
    exact exit_plain rfl rfl
theorem newB_bit (was c : Conf) {k : Nat} (hk : k < 64) : (band (shr (bandn (bor (bor (bor c.full c.wit) c.learn) c.lwit) (bor (bor (bor was.full was.wit) was.learn) was.lwit)) k) 1 = 1 → newB was c k = true) ∧ (¬ band (shr (bandn (bor (bor (bor c.full c.wit) c.learn) c.lwit) (bor (bor (bor was.full was.wit) was.learn) was.lwit)) k) 1 = 1 → newB was c k = false) := by
  rw [bit_shr _ k hk, tb_andn _ _ k hk]
  show (nb (newB was c k) = 1 → _) ∧ (¬ nb (newB was c k) = 1 → _)
  cases newB was c k with
  | true => exact ⟨fun _ => rfl, fun h => absurd rfl h⟩
  | false => exact ⟨fun h => absurd h (by decide), fun _ => rfl⟩
theorem chgE_ok {r : Rft} {c : Conf} (he : chgE r c = 0) : leadsE r = 0 ∧ mayB r = true ∧ nearR (inForce r) c = true ∧ ¬ inForce r = c ∧ r.hard.log.length < 64 := by
  unfold chgE at he
  by_cases h1 : leadsE r = 0
  · rw [if_pos h1] at he
    by_cases h2 : mayB r = true
    · rw [if_pos h2] at he
      by_cases h3 : nearR (inForce r) c = true ∧ ¬ inForce r = c
      · rw [if_pos h3] at he
        by_cases h4 : r.hard.log.length < 64
        · exact ⟨h1, h2, h3.1, h3.2, h4⟩
        · rw [if_neg h4] at he; omega
      · rw [if_neg h3] at he; omega
    · rw [if_neg h2] at he; omega
  · rw [if_neg h1] at he; omega
abbrev ecf (r : Rft) (c : Conf) : Ent := ⟨r.hard.term, 2, kz, c⟩
/-- Who comes in is sent what is behind the last entry. -/
noncomputable abbrev nxR (r : Rft) (c : Conf) (k : Nat) : Rft := { r with next := nxt (newB (inForce r) c) (lastI r.hard + 1) r.next k }
set_option maxHeartbeats 8000000 in
theorem c_Chg_ok (r : Rft) (c : Conf) (hl0 : r.hard.log.length < 4294967) (hr : rightB r = true) (he : chgE r c = 0) : Ctr Tryz.prog 12 [.ag r.enc, .ag c.enc] (.tu [.ag (addR (nxR r c 7) (ecf r c)).enc, iv (lastI (logR r (ecf r c))), iv 0]) [] := by
  have hg := rgt_of hr
  have hf := hg.fit hl0
  have hb := hf.base
  have ko := c_of r hf.snap (by omega) (by have := hf.reads; omega) hr
  have kl := c_leads r (smallM (by omega))
  have kv := c_vConf r (smallM (by omega))
  have km := c_May r.hard (smallM (by omega)) (by unfold isI; omega) r.commit (hg.comI hl0)
  have kn := c_Near (inForce r) c
  have kla := c_Last r.hard (smallM (by omega))
  have kal := fun d : Conf => c_All d
  obtain ⟨h1, h2, h3, h4, h5⟩ := chgE_ok he
  rw [h1] at kl
  rw [show (fits r.hard r.commit r.hard.term && decide ((force r.hard (lastI r.hard)).2 ≤ r.commit)) = true from h2] at km
  rw [h3] at kn
  have ka := c_add (nxR r c 7) hf.id (by show r.hard.log.length ≤ _; omega) hf.base.1 hf.base.2 [] (ecf r c)
  generalize hx : addR (nxR r c 7) (ecf r c) = x at *
  have hla : lastI r.hard = r.hard.base + r.hard.log.length := lastI_sum (h := r.hard) hb.1 (by omega)
  have ewl : IntKind.i64.wrap (lastI r.hard + 1) = lastI r.hard + 1 := wrap_id (by omega) (by omega)
  refine spec_of_body mixed Tryz.func12 rfl (by kernel_rfl) (by kernel_rfl) ?_; conv => whnf
  ((refine Exists.intro (some ([(28, 500)], [], [(0, 600), (1, 601), (2, 602), (3, 603)])) ?_); (conv => whnf); first | ((with_reducible refine callE_by (ko) ?_); conv => whnf))
  ((try ((refine Exists.intro none ?_); (conv => whnf))); first | ((with_reducible refine call_by (kl) ?_); conv => whnf))
  ((try ((refine Exists.intro none ?_); (conv => whnf))); first | ((with_reducible refine call_by (kv) ?_); conv => whnf))
  ((try ((refine Exists.intro none ?_); (conv => whnf))); first | ((with_reducible refine call_by (km) ?_); conv => whnf))
  ((try ((refine Exists.intro none ?_); (conv => whnf))); first | ((with_reducible refine call_by (kn) ?_); conv => whnf))
  refine ⟨eqOk23, _, eqConf _ c, ?_⟩
  conv => whnf
  ((first | (with_reducible refine split_dec (fun h => ?_) (fun h => ?_)) | (with_reducible refine split_beq (fun h => ?_) (fun h => ?_)) | (with_reducible refine split_bne (fun h => ?_) (fun h => ?_)) | (with_reducible refine split_not (fun h => ?_) (fun h => ?_)) | (with_reducible refine split_beqS (fun h => ?_) (fun h => ?_)) | (with_reducible refine split_intro (fun h => ?_) (fun h => ?_))) <;> conv => whnf)
  · exact absurd (by first | exact h | (simpa using h)) h4
  clear h
  ((first | (with_reducible refine split_dec (fun h => ?_) (fun h => ?_)) | (with_reducible refine split_beq (fun h => ?_) (fun h => ?_)) | (with_reducible refine split_bne (fun h => ?_) (fun h => ?_)) | (with_reducible refine split_not (fun h => ?_) (fun h => ?_)) | (with_reducible refine split_beqS (fun h => ?_) (fun h => ?_)) | (with_reducible refine split_intro (fun h => ?_) (fun h => ?_))) <;> conv => whnf)
  · simp only [List.length_map] at h
    omega
  clear h
  ((try ((refine Exists.intro none ?_); (conv => whnf))); first | ((with_reducible refine call_by (kla) ?_); conv => whnf))
  refine tri_forO mixed (by kernel_rfl) (fun k : Nat => k ≤ 7) (fun k => [(62, iv k)]) (fun k => [(2, r.enc), (3, c.enc), (4, rzv), (500, repV (nxR r c k) (snW r 600) (lgW r 601) (rdW r 602) (.ow 603 0 0)), (9, (inForce r).enc)]) (fun _ => [(600, snO r), (601, lgO r), (602, rdO r), (603, some (false, 16, []))]) [(600, 600), (601, 601), (602, 602), (603, 603)] (fun k => 7 - k) 0 (by decide) ?_ ?_
  · conv => whnf
    (refine And.intro (And.intro (by with_unfolding_all rfl) (by intro q h; cases h)) ?_; refine And.intro ?_ (And.intro ?_ ?_) <;> (conv => whnf) <;> (repeat' (first | exact True.intro | (with_reducible exact rfl) | exact (rfl : List.replicate 0 PV.bad = []) | ((with_reducible refine And.intro ?_ ?_) <;> (first | (with_reducible exact wkV_same _ rfl) | exact wkV_pt rfl rfl | exact wkV_ow rfl rfl rfl | (refine wkV_ow rfl rfl ?_) | (refine wkV_sc (congrArg (Value.int .i64) ?_)) | (refine wkV_sc (congrArg Value.bool ?_)) | exact wkV_ls rfl | ((refine wkV_cl ?_); conv => whnf) | ((refine wkV_tu ?_); conv => whnf) | ((refine wkV_ag ?_); conv => whnf) | (conv => whnf))))))
    all_goals first | rfl | trace_state
  intro k hk
  rcases (by omega : k = 0 ∨ k = 1 ∨ k = 2 ∨ k = 3 ∨ k = 4 ∨ k = 5 ∨ k = 6 ∨ k = 7) with rfl | rfl | rfl | rfl | rfl | rfl | rfl | rfl
  · have hb' := newB_bit (inForce r) c (k := 0) (by decide)
    conv => whnf
    ((try ((refine Exists.intro none ?_); (conv => whnf))); first | ((with_reducible refine call_by (kal c) ?_); conv => whnf))
    ((try ((refine Exists.intro none ?_); (conv => whnf))); first | ((with_reducible refine call_by (kal (inForce r)) ?_); conv => whnf))
    ((with_reducible refine And.intro (And.intro (by first | decide | omega) (by first | decide | omega)) ?_); conv => whnf)
    ((first | (with_reducible refine split_dec (fun h => ?_) (fun h => ?_)) | (with_reducible refine split_beq (fun h => ?_) (fun h => ?_)) | (with_reducible refine split_bne (fun h => ?_) (fun h => ?_)) | (with_reducible refine split_not (fun h => ?_) (fun h => ?_)) | (with_reducible refine split_beqS (fun h => ?_) (fun h => ?_)) | (with_reducible refine split_intro (fun h => ?_) (fun h => ?_))) <;> conv => whnf)
    · have e : (nxR r c 1).next = (nxR r c 0).next.put 0 (lastI r.hard + 1) := nxt_yes (hb'.1 h)
      refine ⟨⟨by decide, by decide⟩, ?_⟩
      conv => whnf
      refine ⟨1, [(600, 600), (601, 601), (602, 602), (603, 603)], ⟨by omega, by omega⟩, ?_⟩
      conv => whnf
      (refine And.intro (And.intro (by with_unfolding_all rfl) (by intro q h; cases h)) ?_; refine And.intro ?_ (And.intro ?_ ?_) <;> (conv => whnf) <;> (repeat' (first | exact True.intro | (with_reducible exact rfl) | exact (rfl : List.replicate 0 PV.bad = []) | ((with_reducible refine And.intro ?_ ?_) <;> (first | (with_reducible exact wkV_same _ rfl) | exact wkV_pt rfl rfl | exact wkV_ow rfl rfl rfl | (refine wkV_ow rfl rfl ?_) | (refine wkV_sc (congrArg (Value.int .i64) ?_)) | (refine wkV_sc (congrArg Value.bool ?_)) | exact wkV_ls rfl | ((refine wkV_cl ?_); conv => whnf) | ((refine wkV_tu ?_); conv => whnf) | ((refine wkV_ag ?_); conv => whnf) | (conv => whnf))))))
      all_goals first | rfl | (rw [e]; done) | (rw [e]; rfl) | (rw [e]; exact ewl) | trace_state
    · have e : (nxR r c 1).next = (nxR r c 0).next := nxt_no (hb'.2 h)
      refine ⟨1, [(600, 600), (601, 601), (602, 602), (603, 603)], ⟨by omega, by omega⟩, ?_⟩
      conv => whnf
      (refine And.intro (And.intro (by with_unfolding_all rfl) (by intro q h; cases h)) ?_; refine And.intro ?_ (And.intro ?_ ?_) <;> (conv => whnf) <;> (repeat' (first | exact True.intro | (with_reducible exact rfl) | exact (rfl : List.replicate 0 PV.bad = []) | ((with_reducible refine And.intro ?_ ?_) <;> (first | (with_reducible exact wkV_same _ rfl) | exact wkV_pt rfl rfl | exact wkV_ow rfl rfl rfl | (refine wkV_ow rfl rfl ?_) | (refine wkV_sc (congrArg (Value.int .i64) ?_)) | (refine wkV_sc (congrArg Value.bool ?_)) | exact wkV_ls rfl | ((refine wkV_cl ?_); conv => whnf) | ((refine wkV_tu ?_); conv => whnf) | ((refine wkV_ag ?_); conv => whnf) | (conv => whnf))))))
      all_goals first | rfl | (rw [e]; done) | (rw [e]; rfl) | trace_state
  · have hb' := newB_bit (inForce r) c (k := 1) (by decide)
    conv => whnf
    ((try ((refine Exists.intro none ?_); (conv => whnf))); first | ((with_reducible refine call_by (kal c) ?_); conv => whnf))
    ((try ((refine Exists.intro none ?_); (conv => whnf))); first | ((with_reducible refine call_by (kal (inForce r)) ?_); conv => whnf))
    ((with_reducible refine And.intro (And.intro (by first | decide | omega) (by first | decide | omega)) ?_); conv => whnf)
    ((first | (with_reducible refine split_dec (fun h => ?_) (fun h => ?_)) | (with_reducible refine split_beq (fun h => ?_) (fun h => ?_)) | (with_reducible refine split_bne (fun h => ?_) (fun h => ?_)) | (with_reducible refine split_not (fun h => ?_) (fun h => ?_)) | (with_reducible refine split_beqS (fun h => ?_) (fun h => ?_)) | (with_reducible refine split_intro (fun h => ?_) (fun h => ?_))) <;> conv => whnf)
    · have e : (nxR r c 2).next = (nxR r c 1).next.put 1 (lastI r.hard + 1) := nxt_yes (hb'.1 h)
      refine ⟨⟨by decide, by decide⟩, ?_⟩
      conv => whnf
      refine ⟨2, [(600, 600), (601, 601), (602, 602), (603, 603)], ⟨by omega, by omega⟩, ?_⟩
      conv => whnf
      (refine And.intro (And.intro (by with_unfolding_all rfl) (by intro q h; cases h)) ?_; refine And.intro ?_ (And.intro ?_ ?_) <;> (conv => whnf) <;> (repeat' (first | exact True.intro | (with_reducible exact rfl) | exact (rfl : List.replicate 0 PV.bad = []) | ((with_reducible refine And.intro ?_ ?_) <;> (first | (with_reducible exact wkV_same _ rfl) | exact wkV_pt rfl rfl | exact wkV_ow rfl rfl rfl | (refine wkV_ow rfl rfl ?_) | (refine wkV_sc (congrArg (Value.int .i64) ?_)) | (refine wkV_sc (congrArg Value.bool ?_)) | exact wkV_ls rfl | ((refine wkV_cl ?_); conv => whnf) | ((refine wkV_tu ?_); conv => whnf) | ((refine wkV_ag ?_); conv => whnf) | (conv => whnf))))))
      all_goals first | rfl | (rw [e]; done) | (rw [e]; rfl) | (rw [e]; exact ewl) | trace_state
    · have e : (nxR r c 2).next = (nxR r c 1).next := nxt_no (hb'.2 h)
      refine ⟨2, [(600, 600), (601, 601), (602, 602), (603, 603)], ⟨by omega, by omega⟩, ?_⟩
      conv => whnf
      (refine And.intro (And.intro (by with_unfolding_all rfl) (by intro q h; cases h)) ?_; refine And.intro ?_ (And.intro ?_ ?_) <;> (conv => whnf) <;> (repeat' (first | exact True.intro | (with_reducible exact rfl) | exact (rfl : List.replicate 0 PV.bad = []) | ((with_reducible refine And.intro ?_ ?_) <;> (first | (with_reducible exact wkV_same _ rfl) | exact wkV_pt rfl rfl | exact wkV_ow rfl rfl rfl | (refine wkV_ow rfl rfl ?_) | (refine wkV_sc (congrArg (Value.int .i64) ?_)) | (refine wkV_sc (congrArg Value.bool ?_)) | exact wkV_ls rfl | ((refine wkV_cl ?_); conv => whnf) | ((refine wkV_tu ?_); conv => whnf) | ((refine wkV_ag ?_); conv => whnf) | (conv => whnf))))))
      all_goals first | rfl | (rw [e]; done) | (rw [e]; rfl) | trace_state
  · have hb' := newB_bit (inForce r) c (k := 2) (by decide)
    conv => whnf
    ((try ((refine Exists.intro none ?_); (conv => whnf))); first | ((with_reducible refine call_by (kal c) ?_); conv => whnf))
    ((try ((refine Exists.intro none ?_); (conv => whnf))); first | ((with_reducible refine call_by (kal (inForce r)) ?_); conv => whnf))
    ((with_reducible refine And.intro (And.intro (by first | decide | omega) (by first | decide | omega)) ?_); conv => whnf)
    ((first | (with_reducible refine split_dec (fun h => ?_) (fun h => ?_)) | (with_reducible refine split_beq (fun h => ?_) (fun h => ?_)) | (with_reducible refine split_bne (fun h => ?_) (fun h => ?_)) | (with_reducible refine split_not (fun h => ?_) (fun h => ?_)) | (with_reducible refine split_beqS (fun h => ?_) (fun h => ?_)) | (with_reducible refine split_intro (fun h => ?_) (fun h => ?_))) <;> conv => whnf)
    · have e : (nxR r c 3).next = (nxR r c 2).next.put 2 (lastI r.hard + 1) := nxt_yes (hb'.1 h)
      refine ⟨⟨by decide, by decide⟩, ?_⟩
      conv => whnf
      refine ⟨3, [(600, 600), (601, 601), (602, 602), (603, 603)], ⟨by omega, by omega⟩, ?_⟩
      conv => whnf
      (refine And.intro (And.intro (by with_unfolding_all rfl) (by intro q h; cases h)) ?_; refine And.intro ?_ (And.intro ?_ ?_) <;> (conv => whnf) <;> (repeat' (first | exact True.intro | (with_reducible exact rfl) | exact (rfl : List.replicate 0 PV.bad = []) | ((with_reducible refine And.intro ?_ ?_) <;> (first | (with_reducible exact wkV_same _ rfl) | exact wkV_pt rfl rfl | exact wkV_ow rfl rfl rfl | (refine wkV_ow rfl rfl ?_) | (refine wkV_sc (congrArg (Value.int .i64) ?_)) | (refine wkV_sc (congrArg Value.bool ?_)) | exact wkV_ls rfl | ((refine wkV_cl ?_); conv => whnf) | ((refine wkV_tu ?_); conv => whnf) | ((refine wkV_ag ?_); conv => whnf) | (conv => whnf))))))
      all_goals first | rfl | (rw [e]; done) | (rw [e]; rfl) | (rw [e]; exact ewl) | trace_state
    · have e : (nxR r c 3).next = (nxR r c 2).next := nxt_no (hb'.2 h)
      refine ⟨3, [(600, 600), (601, 601), (602, 602), (603, 603)], ⟨by omega, by omega⟩, ?_⟩
      conv => whnf
      (refine And.intro (And.intro (by with_unfolding_all rfl) (by intro q h; cases h)) ?_; refine And.intro ?_ (And.intro ?_ ?_) <;> (conv => whnf) <;> (repeat' (first | exact True.intro | (with_reducible exact rfl) | exact (rfl : List.replicate 0 PV.bad = []) | ((with_reducible refine And.intro ?_ ?_) <;> (first | (with_reducible exact wkV_same _ rfl) | exact wkV_pt rfl rfl | exact wkV_ow rfl rfl rfl | (refine wkV_ow rfl rfl ?_) | (refine wkV_sc (congrArg (Value.int .i64) ?_)) | (refine wkV_sc (congrArg Value.bool ?_)) | exact wkV_ls rfl | ((refine wkV_cl ?_); conv => whnf) | ((refine wkV_tu ?_); conv => whnf) | ((refine wkV_ag ?_); conv => whnf) | (conv => whnf))))))
      all_goals first | rfl | (rw [e]; done) | (rw [e]; rfl) | trace_state
  · have hb' := newB_bit (inForce r) c (k := 3) (by decide)
    conv => whnf
    ((try ((refine Exists.intro none ?_); (conv => whnf))); first | ((with_reducible refine call_by (kal c) ?_); conv => whnf))
    ((try ((refine Exists.intro none ?_); (conv => whnf))); first | ((with_reducible refine call_by (kal (inForce r)) ?_); conv => whnf))
    ((with_reducible refine And.intro (And.intro (by first | decide | omega) (by first | decide | omega)) ?_); conv => whnf)
    ((first | (with_reducible refine split_dec (fun h => ?_) (fun h => ?_)) | (with_reducible refine split_beq (fun h => ?_) (fun h => ?_)) | (with_reducible refine split_bne (fun h => ?_) (fun h => ?_)) | (with_reducible refine split_not (fun h => ?_) (fun h => ?_)) | (with_reducible refine split_beqS (fun h => ?_) (fun h => ?_)) | (with_reducible refine split_intro (fun h => ?_) (fun h => ?_))) <;> conv => whnf)
    · have e : (nxR r c 4).next = (nxR r c 3).next.put 3 (lastI r.hard + 1) := nxt_yes (hb'.1 h)
      refine ⟨⟨by decide, by decide⟩, ?_⟩
      conv => whnf
      refine ⟨4, [(600, 600), (601, 601), (602, 602), (603, 603)], ⟨by omega, by omega⟩, ?_⟩
      conv => whnf
      (refine And.intro (And.intro (by with_unfolding_all rfl) (by intro q h; cases h)) ?_; refine And.intro ?_ (And.intro ?_ ?_) <;> (conv => whnf) <;> (repeat' (first | exact True.intro | (with_reducible exact rfl) | exact (rfl : List.replicate 0 PV.bad = []) | ((with_reducible refine And.intro ?_ ?_) <;> (first | (with_reducible exact wkV_same _ rfl) | exact wkV_pt rfl rfl | exact wkV_ow rfl rfl rfl | (refine wkV_ow rfl rfl ?_) | (refine wkV_sc (congrArg (Value.int .i64) ?_)) | (refine wkV_sc (congrArg Value.bool ?_)) | exact wkV_ls rfl | ((refine wkV_cl ?_); conv => whnf) | ((refine wkV_tu ?_); conv => whnf) | ((refine wkV_ag ?_); conv => whnf) | (conv => whnf))))))
      all_goals first | rfl | (rw [e]; done) | (rw [e]; rfl) | (rw [e]; exact ewl) | trace_state
    · have e : (nxR r c 4).next = (nxR r c 3).next := nxt_no (hb'.2 h)
      refine ⟨4, [(600, 600), (601, 601), (602, 602), (603, 603)], ⟨by omega, by omega⟩, ?_⟩
      conv => whnf
      (refine And.intro (And.intro (by with_unfolding_all rfl) (by intro q h; cases h)) ?_; refine And.intro ?_ (And.intro ?_ ?_) <;> (conv => whnf) <;> (repeat' (first | exact True.intro | (with_reducible exact rfl) | exact (rfl : List.replicate 0 PV.bad = []) | ((with_reducible refine And.intro ?_ ?_) <;> (first | (with_reducible exact wkV_same _ rfl) | exact wkV_pt rfl rfl | exact wkV_ow rfl rfl rfl | (refine wkV_ow rfl rfl ?_) | (refine wkV_sc (congrArg (Value.int .i64) ?_)) | (refine wkV_sc (congrArg Value.bool ?_)) | exact wkV_ls rfl | ((refine wkV_cl ?_); conv => whnf) | ((refine wkV_tu ?_); conv => whnf) | ((refine wkV_ag ?_); conv => whnf) | (conv => whnf))))))
      all_goals first | rfl | (rw [e]; done) | (rw [e]; rfl) | trace_state
  · have hb' := newB_bit (inForce r) c (k := 4) (by decide)
    conv => whnf
    ((try ((refine Exists.intro none ?_); (conv => whnf))); first | ((with_reducible refine call_by (kal c) ?_); conv => whnf))
    ((try ((refine Exists.intro none ?_); (conv => whnf))); first | ((with_reducible refine call_by (kal (inForce r)) ?_); conv => whnf))
    ((with_reducible refine And.intro (And.intro (by first | decide | omega) (by first | decide | omega)) ?_); conv => whnf)
    ((first | (with_reducible refine split_dec (fun h => ?_) (fun h => ?_)) | (with_reducible refine split_beq (fun h => ?_) (fun h => ?_)) | (with_reducible refine split_bne (fun h => ?_) (fun h => ?_)) | (with_reducible refine split_not (fun h => ?_) (fun h => ?_)) | (with_reducible refine split_beqS (fun h => ?_) (fun h => ?_)) | (with_reducible refine split_intro (fun h => ?_) (fun h => ?_))) <;> conv => whnf)
    · have e : (nxR r c 5).next = (nxR r c 4).next.put 4 (lastI r.hard + 1) := nxt_yes (hb'.1 h)
      refine ⟨⟨by decide, by decide⟩, ?_⟩
      conv => whnf
      refine ⟨5, [(600, 600), (601, 601), (602, 602), (603, 603)], ⟨by omega, by omega⟩, ?_⟩
      conv => whnf
      (refine And.intro (And.intro (by with_unfolding_all rfl) (by intro q h; cases h)) ?_; refine And.intro ?_ (And.intro ?_ ?_) <;> (conv => whnf) <;> (repeat' (first | exact True.intro | (with_reducible exact rfl) | exact (rfl : List.replicate 0 PV.bad = []) | ((with_reducible refine And.intro ?_ ?_) <;> (first | (with_reducible exact wkV_same _ rfl) | exact wkV_pt rfl rfl | exact wkV_ow rfl rfl rfl | (refine wkV_ow rfl rfl ?_) | (refine wkV_sc (congrArg (Value.int .i64) ?_)) | (refine wkV_sc (congrArg Value.bool ?_)) | exact wkV_ls rfl | ((refine wkV_cl ?_); conv => whnf) | ((refine wkV_tu ?_); conv => whnf) | ((refine wkV_ag ?_); conv => whnf) | (conv => whnf))))))
      all_goals first | rfl | (rw [e]; done) | (rw [e]; rfl) | (rw [e]; exact ewl) | trace_state
    · have e : (nxR r c 5).next = (nxR r c 4).next := nxt_no (hb'.2 h)
      refine ⟨5, [(600, 600), (601, 601), (602, 602), (603, 603)], ⟨by omega, by omega⟩, ?_⟩
      conv => whnf
      (refine And.intro (And.intro (by with_unfolding_all rfl) (by intro q h; cases h)) ?_; refine And.intro ?_ (And.intro ?_ ?_) <;> (conv => whnf) <;> (repeat' (first | exact True.intro | (with_reducible exact rfl) | exact (rfl : List.replicate 0 PV.bad = []) | ((with_reducible refine And.intro ?_ ?_) <;> (first | (with_reducible exact wkV_same _ rfl) | exact wkV_pt rfl rfl | exact wkV_ow rfl rfl rfl | (refine wkV_ow rfl rfl ?_) | (refine wkV_sc (congrArg (Value.int .i64) ?_)) | (refine wkV_sc (congrArg Value.bool ?_)) | exact wkV_ls rfl | ((refine wkV_cl ?_); conv => whnf) | ((refine wkV_tu ?_); conv => whnf) | ((refine wkV_ag ?_); conv => whnf) | (conv => whnf))))))
      all_goals first | rfl | (rw [e]; done) | (rw [e]; rfl) | trace_state
  · have hb' := newB_bit (inForce r) c (k := 5) (by decide)
    conv => whnf
    ((try ((refine Exists.intro none ?_); (conv => whnf))); first | ((with_reducible refine call_by (kal c) ?_); conv => whnf))
    ((try ((refine Exists.intro none ?_); (conv => whnf))); first | ((with_reducible refine call_by (kal (inForce r)) ?_); conv => whnf))
    ((with_reducible refine And.intro (And.intro (by first | decide | omega) (by first | decide | omega)) ?_); conv => whnf)
    ((first | (with_reducible refine split_dec (fun h => ?_) (fun h => ?_)) | (with_reducible refine split_beq (fun h => ?_) (fun h => ?_)) | (with_reducible refine split_bne (fun h => ?_) (fun h => ?_)) | (with_reducible refine split_not (fun h => ?_) (fun h => ?_)) | (with_reducible refine split_beqS (fun h => ?_) (fun h => ?_)) | (with_reducible refine split_intro (fun h => ?_) (fun h => ?_))) <;> conv => whnf)
    · have e : (nxR r c 6).next = (nxR r c 5).next.put 5 (lastI r.hard + 1) := nxt_yes (hb'.1 h)
      refine ⟨⟨by decide, by decide⟩, ?_⟩
      conv => whnf
      refine ⟨6, [(600, 600), (601, 601), (602, 602), (603, 603)], ⟨by omega, by omega⟩, ?_⟩
      conv => whnf
      (refine And.intro (And.intro (by with_unfolding_all rfl) (by intro q h; cases h)) ?_; refine And.intro ?_ (And.intro ?_ ?_) <;> (conv => whnf) <;> (repeat' (first | exact True.intro | (with_reducible exact rfl) | exact (rfl : List.replicate 0 PV.bad = []) | ((with_reducible refine And.intro ?_ ?_) <;> (first | (with_reducible exact wkV_same _ rfl) | exact wkV_pt rfl rfl | exact wkV_ow rfl rfl rfl | (refine wkV_ow rfl rfl ?_) | (refine wkV_sc (congrArg (Value.int .i64) ?_)) | (refine wkV_sc (congrArg Value.bool ?_)) | exact wkV_ls rfl | ((refine wkV_cl ?_); conv => whnf) | ((refine wkV_tu ?_); conv => whnf) | ((refine wkV_ag ?_); conv => whnf) | (conv => whnf))))))
      all_goals first | rfl | (rw [e]; done) | (rw [e]; rfl) | (rw [e]; exact ewl) | trace_state
    · have e : (nxR r c 6).next = (nxR r c 5).next := nxt_no (hb'.2 h)
      refine ⟨6, [(600, 600), (601, 601), (602, 602), (603, 603)], ⟨by omega, by omega⟩, ?_⟩
      conv => whnf
      (refine And.intro (And.intro (by with_unfolding_all rfl) (by intro q h; cases h)) ?_; refine And.intro ?_ (And.intro ?_ ?_) <;> (conv => whnf) <;> (repeat' (first | exact True.intro | (with_reducible exact rfl) | exact (rfl : List.replicate 0 PV.bad = []) | ((with_reducible refine And.intro ?_ ?_) <;> (first | (with_reducible exact wkV_same _ rfl) | exact wkV_pt rfl rfl | exact wkV_ow rfl rfl rfl | (refine wkV_ow rfl rfl ?_) | (refine wkV_sc (congrArg (Value.int .i64) ?_)) | (refine wkV_sc (congrArg Value.bool ?_)) | exact wkV_ls rfl | ((refine wkV_cl ?_); conv => whnf) | ((refine wkV_tu ?_); conv => whnf) | ((refine wkV_ag ?_); conv => whnf) | (conv => whnf))))))
      all_goals first | rfl | (rw [e]; done) | (rw [e]; rfl) | trace_state
  · have hb' := newB_bit (inForce r) c (k := 6) (by decide)
    conv => whnf
    ((try ((refine Exists.intro none ?_); (conv => whnf))); first | ((with_reducible refine call_by (kal c) ?_); conv => whnf))
    ((try ((refine Exists.intro none ?_); (conv => whnf))); first | ((with_reducible refine call_by (kal (inForce r)) ?_); conv => whnf))
    ((with_reducible refine And.intro (And.intro (by first | decide | omega) (by first | decide | omega)) ?_); conv => whnf)
    ((first | (with_reducible refine split_dec (fun h => ?_) (fun h => ?_)) | (with_reducible refine split_beq (fun h => ?_) (fun h => ?_)) | (with_reducible refine split_bne (fun h => ?_) (fun h => ?_)) | (with_reducible refine split_not (fun h => ?_) (fun h => ?_)) | (with_reducible refine split_beqS (fun h => ?_) (fun h => ?_)) | (with_reducible refine split_intro (fun h => ?_) (fun h => ?_))) <;> conv => whnf)
    · have e : (nxR r c 7).next = (nxR r c 6).next.put 6 (lastI r.hard + 1) := nxt_yes (hb'.1 h)
      refine ⟨⟨by decide, by decide⟩, ?_⟩
      conv => whnf
      refine ⟨7, [(600, 600), (601, 601), (602, 602), (603, 603)], ⟨by omega, by omega⟩, ?_⟩
      conv => whnf
      (refine And.intro (And.intro (by with_unfolding_all rfl) (by intro q h; cases h)) ?_; refine And.intro ?_ (And.intro ?_ ?_) <;> (conv => whnf) <;> (repeat' (first | exact True.intro | (with_reducible exact rfl) | exact (rfl : List.replicate 0 PV.bad = []) | ((with_reducible refine And.intro ?_ ?_) <;> (first | (with_reducible exact wkV_same _ rfl) | exact wkV_pt rfl rfl | exact wkV_ow rfl rfl rfl | (refine wkV_ow rfl rfl ?_) | (refine wkV_sc (congrArg (Value.int .i64) ?_)) | (refine wkV_sc (congrArg Value.bool ?_)) | exact wkV_ls rfl | ((refine wkV_cl ?_); conv => whnf) | ((refine wkV_tu ?_); conv => whnf) | ((refine wkV_ag ?_); conv => whnf) | (conv => whnf))))))
      all_goals first | rfl | (rw [e]; done) | (rw [e]; rfl) | (rw [e]; exact ewl) | trace_state
    · have e : (nxR r c 7).next = (nxR r c 6).next := nxt_no (hb'.2 h)
      refine ⟨7, [(600, 600), (601, 601), (602, 602), (603, 603)], ⟨by omega, by omega⟩, ?_⟩
      conv => whnf
      (refine And.intro (And.intro (by with_unfolding_all rfl) (by intro q h; cases h)) ?_; refine And.intro ?_ (And.intro ?_ ?_) <;> (conv => whnf) <;> (repeat' (first | exact True.intro | (with_reducible exact rfl) | exact (rfl : List.replicate 0 PV.bad = []) | ((with_reducible refine And.intro ?_ ?_) <;> (first | (with_reducible exact wkV_same _ rfl) | exact wkV_pt rfl rfl | exact wkV_ow rfl rfl rfl | (refine wkV_ow rfl rfl ?_) | (refine wkV_sc (congrArg (Value.int .i64) ?_)) | (refine wkV_sc (congrArg Value.bool ?_)) | exact wkV_ls rfl | ((refine wkV_cl ?_); conv => whnf) | ((refine wkV_tu ?_); conv => whnf) | ((refine wkV_ag ?_); conv => whnf) | (conv => whnf))))))
      all_goals first | rfl | (rw [e]; done) | (rw [e]; rfl) | trace_state
  · conv => whnf
    ((refine Exists.intro (some ([(1000000, 500)], [(1000000, 600), (1000001, 601), (1000002, 602), (1000003, 603)], [(1, 4000)])) ?_); (conv => whnf); refine callE_eq (ka) (by kernel_rfl) (by kernel_rfl) (by kernel_rfl) ?_; conv => whnf)
    refine exit_fz [(600, false, 1, x.hard.snap.map encB), (4000, false, 16, x.hard.log.map Ent.enc), (602, false, 13, x.reads.map Rd.enc)] ?_ (wkV_tu ⟨wkV_ag ?_, wkV_same _ rfl, wkV_same _ rfl, rfl⟩)
    · intro q hq
      simp only [List.mem_cons, List.mem_nil_iff, or_false] at hq
      rcases hq with rfl | rfl | rfl <;> rfl
    conv => whnf
    repeat' (first | exact rfl | ((with_reducible refine And.intro ?_ ?_) <;> (first | (with_reducible exact wkV_same _ rfl) | (refine wkV_fz (b := false) (List.Mem.head _) rfl) | (refine wkV_fz (b := false) (List.Mem.tail _ (List.Mem.head _)) rfl) | (refine wkV_fz (b := false) (List.Mem.tail _ (List.Mem.tail _ (List.Mem.head _))) rfl) | (conv => whnf))))
end Go.Proofs
