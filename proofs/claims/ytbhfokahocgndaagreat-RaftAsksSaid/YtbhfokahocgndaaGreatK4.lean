/- Contracts of functions: a call is put into the log. -/
import Derived.Test.YtbhfokahocgndaaGreatK3
import Derived.Test.YtbhfokahocgndaaGreatC22
set_option linter.unusedSimpArgs false
set_option linter.unusedVariables false
namespace Go.Proofs
open Go.Pv
set_option maxRecDepth 100000

noncomputable def leadsE (r : Rft) : Int := if r.role = 3 then (if bitB (inForce r).full r.id = true then 0 else 11) else 11
theorem kindR_kind (c : Conf) (i : Int) : kindR c i = kind c i := by
  rw [kind_eq]
  cases h : withinB i 0 6 with
  | false =>
    unfold kindR
    rw [h, if_neg (by decide)]
    simp only [bitB_out h]; rfl
  | true =>
    have hi : 0 ≤ i ∧ i ≤ 6 := by simpa [withinB] using h
    obtain ⟨n, rfl⟩ : ∃ n : Nat, i = n := ⟨i.toNat, by omega⟩
    have hn : n < 7 := by omega
    rw [kindR_eq c hn]
    have e : ∀ b, bitB b n = tb b n := fun b => by rw [← hasB_eq h, hasB_nat b n (by omega)]
    simp only [e]
theorem c_leads (r : Rft) (hm : r.hard.log.length ≤ maxLen) : Ctr Tryz.prog 40 [.ag r.enc] (iv (leadsE r)) [] := by
  have kc := c_vConf r hm
  have kk := c_Kind0 (inForce r) r.id
  unfold leadsE
  refine spec_of_body mixed Tryz.func40 rfl (by kernel_rfl) (by kernel_rfl) ?_; conv => whnf
  ((first | (with_reducible refine split_dec (fun h => ?_) (fun h => ?_)) | (with_reducible refine split_beq (fun h => ?_) (fun h => ?_)) | (with_reducible refine split_bne (fun h => ?_) (fun h => ?_)) | (with_reducible refine split_not (fun h => ?_) (fun h => ?_)) | (with_reducible refine split_beqS (fun h => ?_) (fun h => ?_)) | (with_reducible refine split_intro (fun h => ?_) (fun h => ?_))) <;> conv => whnf)
  · have h : ¬ r.role = 3 := h
    rw [if_neg h]
    exact exit_plain rfl rfl
  · have h : r.role = 3 := by first | exact h | exact Classical.byContradiction h
    rw [if_pos h]
    ((try ((refine Exists.intro none ?_); (conv => whnf))); first | ((with_reducible refine call_by (kc) ?_); conv => whnf))
    ((try ((refine Exists.intro none ?_); (conv => whnf))); first | ((with_reducible refine call_by (kk) ?_); conv => whnf))
    have hk : ((kindR (inForce r) r.id).toList == (ByteArray.mk #[102, 117, 108, 108]).toList) = bitB (inForce r).full r.id := by rw [kindR_kind]; exact kind_full _ _
    ((first | (with_reducible refine split_dec (fun h => ?_) (fun h => ?_)) | (with_reducible refine split_beq (fun h => ?_) (fun h => ?_)) | (with_reducible refine split_bne (fun h => ?_) (fun h => ?_)) | (with_reducible refine split_not (fun h => ?_) (fun h => ?_)) | (with_reducible refine split_beqS (fun h => ?_) (fun h => ?_)) | (with_reducible refine split_intro (fun h => ?_) (fun h => ?_))) <;> conv => whnf)
    · have h : ((kindR (inForce r) r.id).toList == (ByteArray.mk #[102, 117, 108, 108]).toList) = false := h
      rw [hk] at h
      rw [if_neg (by intro e; rw [e] at h; cases h)]
      exact exit_plain rfl rfl
    · have h : ((kindR (inForce r) r.id).toList == (ByteArray.mk #[102, 117, 108, 108]).toList) = true := h
      rw [hk] at h
      rw [if_pos h]
      exact exit_plain rfl rfl
abbrev ec (r : Rft) (c : VCall) : Ent := ⟨r.hard.term, 1, c, cz⟩
noncomputable def propE (r : Rft) (c : VCall) : Int := if leadsE r = 0 then (if callR c = 0 then (if r.hard.log.length < 64 then 0 else 5) else callR c) else 11
set_option maxHeartbeats 4000000 in
theorem c_Prop_err (r : Rft) (c : VCall) (hf : Fit r) (hr : rightB r = true) (he : ¬ propE r c = 0) : Ctr Tryz.prog 9 [.ag r.enc, .ag c.enc] (.tu [.ag rzv, iv 0, iv (propE r c)]) [] := by
  have hl0 := hf.log
  have ko := c_of r hf.snap (by omega) (by have := hf.reads; omega) hr
  have kl := c_leads r (smallM (by omega))
  have ks := c_sRight c
  unfold propE at he ⊢
  by_cases h1 : leadsE r = 0
  · rw [if_pos h1] at he ⊢
    rw [h1] at kl
    by_cases h2 : callR c = 0
    · rw [if_pos h2] at he ⊢
      rw [h2] at ks
      by_cases h3 : r.hard.log.length < 64
      · rw [if_pos h3] at he; exact absurd rfl he
      · rw [if_neg h3]
        refine spec_of_body mixed Tryz.func9 rfl (by kernel_rfl) (by kernel_rfl) ?_; conv => whnf
        ((refine Exists.intro (some ([(28, 500)], [], [(0, 600), (1, 601), (2, 602), (3, 603)])) ?_); (conv => whnf); first | ((with_reducible refine callE_by (ko) ?_); conv => whnf))
        ((try ((refine Exists.intro none ?_); (conv => whnf))); first | ((with_reducible refine call_by (kl) ?_); conv => whnf))
        ((try ((refine Exists.intro none ?_); (conv => whnf))); first | ((with_reducible refine call_by (ks) ?_); conv => whnf))
        ((first | (with_reducible refine split_dec (fun h => ?_) (fun h => ?_)) | (with_reducible refine split_beq (fun h => ?_) (fun h => ?_)) | (with_reducible refine split_bne (fun h => ?_) (fun h => ?_)) | (with_reducible refine split_not (fun h => ?_) (fun h => ?_)) | (with_reducible refine split_beqS (fun h => ?_) (fun h => ?_)) | (with_reducible refine split_intro (fun h => ?_) (fun h => ?_))) <;> conv => whnf)
        · exact exit_plain rfl rfl
        · simp only [List.length_map] at h
          omega
    · rw [if_neg h2]
      generalize callR c = e at *
      refine spec_of_body mixed Tryz.func9 rfl (by kernel_rfl) (by kernel_rfl) ?_; conv => whnf
      ((refine Exists.intro (some ([(28, 500)], [], [(0, 600), (1, 601), (2, 602), (3, 603)])) ?_); (conv => whnf); first | ((with_reducible refine callE_by (ko) ?_); conv => whnf))
      ((try ((refine Exists.intro none ?_); (conv => whnf))); first | ((with_reducible refine call_by (kl) ?_); conv => whnf))
      ((try ((refine Exists.intro none ?_); (conv => whnf))); first | ((with_reducible refine call_by (ks) ?_); conv => whnf))
      repeat' ((first | (with_reducible refine split_dec (fun h => ?_) (fun h => ?_)) | (with_reducible refine split_beq (fun h => ?_) (fun h => ?_)) | (with_reducible refine split_bne (fun h => ?_) (fun h => ?_)) | (with_reducible refine split_not (fun h => ?_) (fun h => ?_)) | (with_reducible refine split_beqS (fun h => ?_) (fun h => ?_)) | (with_reducible refine split_intro (fun h => ?_) (fun h => ?_))) <;> conv => whnf)
      all_goals first | exact exit_plain rfl rfl | (exact absurd (by first | exact h | (simpa using h)) h2) | omega | trace_state
  · rw [if_neg h1]
    have h1' : leadsE r = 11 := by unfold leadsE at h1 ⊢; split <;> (try split) <;> simp_all
    rw [h1'] at kl
    refine spec_of_body mixed Tryz.func9 rfl (by kernel_rfl) (by kernel_rfl) ?_; conv => whnf
    ((refine Exists.intro (some ([(28, 500)], [], [(0, 600), (1, 601), (2, 602), (3, 603)])) ?_); (conv => whnf); first | ((with_reducible refine callE_by (ko) ?_); conv => whnf))
    ((try ((refine Exists.intro none ?_); (conv => whnf))); first | ((with_reducible refine call_by (kl) ?_); conv => whnf))
    exact exit_plain rfl rfl
set_option maxHeartbeats 4000000 in
theorem c_Prop_ok (r : Rft) (c : VCall) (hf : Fit r) (hr : rightB r = true) (he : propE r c = 0) : Ctr Tryz.prog 9 [.ag r.enc, .ag c.enc] (.tu [.ag (addR r (ec r c)).enc, iv (lastI (logR r (ec r c))), iv 0]) [] := by
  have hl0 := hf.log
  have ko := c_of r hf.snap (by omega) (by have := hf.reads; omega) hr
  have kl := c_leads r (smallM (by omega))
  have ks := c_sRight c
  have ka := c_add r hf.id (by omega) hf.base.1 hf.base.2 [] (ec r c)
  unfold propE at he
  have h1 : leadsE r = 0 := by
    apply Classical.byContradiction; intro h; rw [if_neg h] at he; omega
  rw [if_pos h1] at he
  have h2 : callR c = 0 := by
    apply Classical.byContradiction; intro h; rw [if_neg h] at he; omega
  rw [if_pos h2] at he
  have h3 : r.hard.log.length < 64 := by
    apply Classical.byContradiction; intro h; rw [if_neg h] at he; omega
  rw [h1] at kl
  rw [h2] at ks
  generalize hx : addR r (ec r c) = x at *
  refine spec_of_body mixed Tryz.func9 rfl (by kernel_rfl) (by kernel_rfl) ?_; conv => whnf
  ((refine Exists.intro (some ([(28, 500)], [], [(0, 600), (1, 601), (2, 602), (3, 603)])) ?_); (conv => whnf); first | ((with_reducible refine callE_by (ko) ?_); conv => whnf))
  ((try ((refine Exists.intro none ?_); (conv => whnf))); first | ((with_reducible refine call_by (kl) ?_); conv => whnf))
  ((try ((refine Exists.intro none ?_); (conv => whnf))); first | ((with_reducible refine call_by (ks) ?_); conv => whnf))
  ((first | (with_reducible refine split_dec (fun h => ?_) (fun h => ?_)) | (with_reducible refine split_beq (fun h => ?_) (fun h => ?_)) | (with_reducible refine split_bne (fun h => ?_) (fun h => ?_)) | (with_reducible refine split_not (fun h => ?_) (fun h => ?_)) | (with_reducible refine split_beqS (fun h => ?_) (fun h => ?_)) | (with_reducible refine split_intro (fun h => ?_) (fun h => ?_))) <;> conv => whnf)
  · simp only [List.length_map] at h
    omega
  ((refine Exists.intro (some ([(1000000, 500)], [(1000000, 600), (1000001, 601), (1000002, 602), (1000003, 603)], [(1, 4000)])) ?_); (conv => whnf); refine callE_eq (ka) (by kernel_rfl) (by kernel_rfl) (by kernel_rfl) ?_; conv => whnf)
  refine exit_fz [(600, false, 1, x.hard.snap.map encB), (4000, false, 16, x.hard.log.map Ent.enc), (602, false, 13, x.reads.map Rd.enc)] ?_ (wkV_tu ⟨wkV_ag ?_, wkV_same _ rfl, wkV_same _ rfl, rfl⟩)
  · intro q hq
    simp only [List.mem_cons, List.mem_nil_iff, or_false] at hq
    rcases hq with rfl | rfl | rfl <;> rfl
  conv => whnf
  repeat' (first | exact rfl | ((with_reducible refine And.intro ?_ ?_) <;> (first | (with_reducible exact wkV_same _ rfl) | (refine wkV_fz (b := false) (List.Mem.head _) rfl) | (refine wkV_fz (b := false) (List.Mem.tail _ (List.Mem.head _)) rfl) | (refine wkV_fz (b := false) (List.Mem.tail _ (List.Mem.tail _ (List.Mem.head _))) rfl) | (conv => whnf))))
end Go.Proofs
