/- Contracts of functions: a question, those that are ready, a snapshot. -/
import Derived.Test.YtbhfokahocgndaaGreatK4
import Derived.Test.YtbhfokahocgndaaGreatC10
import Derived.Test.YtbhfokahocgndaaGreatC16
import Derived.Test.YtbhfokahocgndaaGreatC47
set_option linter.unusedSimpArgs false
set_option linter.unusedVariables false
namespace Go.Proofs
open Go.Pv
set_option maxRecDepth 100000

abbrev qR (r : Rft) (c : VCall) : Rd := ⟨c, r.commit, farM (r.round + 1), shl 1 r.id⟩
noncomputable abbrev askR (r : Rft) (c : VCall) : Rft := { r with reads := r.reads ++ [qR r c] }
noncomputable abbrev ownB (r : Rft) : Bool := fits r.hard r.commit r.hard.term
noncomputable def askE (r : Rft) (c : VCall) : Int := if leadsE r = 0 then (if ownB r = true then (if callR c = 0 then (if r.reads.length < 4 then 0 else 12) else callR c) else 13) else 11
theorem leadsE_cases (r : Rft) : leadsE r = 0 ∨ leadsE r = 11 := by
  unfold leadsE
  split
  · split
    · exact .inl rfl
    · exact .inr rfl
  · exact .inr rfl
theorem Rgt.comI {r : Rft} (h : Rgt r) (hm : r.hard.log.length < 4294967) : isI r.commit := by
  have hb := (hardB_A h.hard).1.b
  have hc := h.com
  rw [lastI_sum hb.1 (by omega)] at hc
  unfold isI; omega
set_option maxHeartbeats 4000000 in
theorem c_Ask_err (r : Rft) (c : VCall) (hl0 : r.hard.log.length < 4294967) (hr : rightB r = true) (he : ¬ askE r c = 0) : Ctr Tryz.prog 14 [.ag r.enc, .ag c.enc] (.tu [.ag rzv, iv (askE r c)]) [] := by
  have hg := rgt_of hr
  have hf := hg.fit hl0
  have hb := hf.base
  have ko := c_of r hf.snap (by omega) (by have := hf.reads; omega) hr
  have kl := c_leads r (smallM (by omega))
  have kw := c_Own r.hard (smallM (by omega)) (by unfold isI; omega) r.commit (hg.comI hl0)
  have ks := c_sRight c
  unfold askE at he ⊢
  rcases leadsE_cases r with h1 | h1
  · rw [if_pos h1] at he ⊢
    rw [h1] at kl
    cases hw : ownB r with
    | false =>
      rw [show fits r.hard r.commit r.hard.term = false from hw] at kw
      rw [if_neg (by decide)]
      refine spec_of_body mixed Tryz.func14 rfl (by kernel_rfl) (by kernel_rfl) ?_; conv => whnf
      ((refine Exists.intro (some ([(28, 500)], [], [(0, 600), (1, 601), (2, 602), (3, 603)])) ?_); (conv => whnf); first | ((with_reducible refine callE_by (ko) ?_); conv => whnf))
      ((try ((refine Exists.intro none ?_); (conv => whnf))); first | ((with_reducible refine call_by (kl) ?_); conv => whnf))
      ((try ((refine Exists.intro none ?_); (conv => whnf))); first | ((with_reducible refine call_by (kw) ?_); conv => whnf))
      exact exit_plain rfl rfl
    | true =>
      rw [show fits r.hard r.commit r.hard.term = true from hw] at kw
      rw [hw, if_pos rfl] at he
      rw [if_pos rfl]
      by_cases h2 : callR c = 0
      · rw [if_pos h2] at he ⊢
        rw [h2] at ks
        by_cases h3 : r.reads.length < 4
        · rw [if_pos h3] at he; exact absurd rfl he
        · rw [if_neg h3]
          refine spec_of_body mixed Tryz.func14 rfl (by kernel_rfl) (by kernel_rfl) ?_; conv => whnf
          ((refine Exists.intro (some ([(28, 500)], [], [(0, 600), (1, 601), (2, 602), (3, 603)])) ?_); (conv => whnf); first | ((with_reducible refine callE_by (ko) ?_); conv => whnf))
          ((try ((refine Exists.intro none ?_); (conv => whnf))); first | ((with_reducible refine call_by (kl) ?_); conv => whnf))
          ((try ((refine Exists.intro none ?_); (conv => whnf))); first | ((with_reducible refine call_by (kw) ?_); conv => whnf))
          ((try ((refine Exists.intro none ?_); (conv => whnf))); first | ((with_reducible refine call_by (ks) ?_); conv => whnf))
          ((first | (with_reducible refine split_dec (fun h => ?_) (fun h => ?_)) | (with_reducible refine split_beq (fun h => ?_) (fun h => ?_)) | (with_reducible refine split_bne (fun h => ?_) (fun h => ?_)) | (with_reducible refine split_not (fun h => ?_) (fun h => ?_)) | (with_reducible refine split_beqS (fun h => ?_) (fun h => ?_)) | (with_reducible refine split_intro (fun h => ?_) (fun h => ?_))) <;> conv => whnf)
          · exact exit_plain rfl rfl
          · simp only [List.length_map] at h
            omega
      · rw [if_neg h2]
        generalize callR c = e at *
        refine spec_of_body mixed Tryz.func14 rfl (by kernel_rfl) (by kernel_rfl) ?_; conv => whnf
        ((refine Exists.intro (some ([(28, 500)], [], [(0, 600), (1, 601), (2, 602), (3, 603)])) ?_); (conv => whnf); first | ((with_reducible refine callE_by (ko) ?_); conv => whnf))
        ((try ((refine Exists.intro none ?_); (conv => whnf))); first | ((with_reducible refine call_by (kl) ?_); conv => whnf))
        ((try ((refine Exists.intro none ?_); (conv => whnf))); first | ((with_reducible refine call_by (kw) ?_); conv => whnf))
        ((try ((refine Exists.intro none ?_); (conv => whnf))); first | ((with_reducible refine call_by (ks) ?_); conv => whnf))
        (first | (with_reducible refine split_dt (by first | assumption | omega) ?_) | (with_reducible refine split_df (by first | assumption | omega) ?_) | (with_reducible refine split_et (by first | assumption | omega) ?_) | (with_reducible refine split_ef (by first | assumption | omega) ?_) | (with_reducible refine split_bt (by first | assumption | omega) ?_) | (with_reducible refine split_bf (by first | assumption | omega) ?_) | (with_reducible refine split_nt (by assumption) ?_) | (with_reducible refine split_nf (by assumption) ?_) | (with_reducible refine split_t (by assumption) ?_) | (with_reducible refine split_f (by assumption) ?_))
        conv => whnf
        ((first | (with_reducible refine split_dec (fun h => ?_) (fun h => ?_)) | (with_reducible refine split_beq (fun h => ?_) (fun h => ?_)) | (with_reducible refine split_bne (fun h => ?_) (fun h => ?_)) | (with_reducible refine split_not (fun h => ?_) (fun h => ?_)) | (with_reducible refine split_beqS (fun h => ?_) (fun h => ?_)) | (with_reducible refine split_intro (fun h => ?_) (fun h => ?_))) <;> conv => whnf)
        · exact exit_plain rfl rfl
        · exact absurd (by first | exact h | (simpa using h)) h2
  · rw [if_neg (by omega)]
    rw [h1] at kl
    refine spec_of_body mixed Tryz.func14 rfl (by kernel_rfl) (by kernel_rfl) ?_; conv => whnf
    ((refine Exists.intro (some ([(28, 500)], [], [(0, 600), (1, 601), (2, 602), (3, 603)])) ?_); (conv => whnf); first | ((with_reducible refine callE_by (ko) ?_); conv => whnf))
    ((try ((refine Exists.intro none ?_); (conv => whnf))); first | ((with_reducible refine call_by (kl) ?_); conv => whnf))
    exact exit_plain rfl rfl
theorem askE_ok {r : Rft} {c : VCall} (he : askE r c = 0) : leadsE r = 0 ∧ ownB r = true ∧ callR c = 0 ∧ r.reads.length < 4 := by
  unfold askE at he
  by_cases h1 : leadsE r = 0
  · rw [if_pos h1] at he
    by_cases h2 : ownB r = true
    · rw [if_pos h2] at he
      by_cases h3 : callR c = 0
      · rw [if_pos h3] at he
        by_cases h4 : r.reads.length < 4
        · exact ⟨h1, h2, h3, h4⟩
        · rw [if_neg h4] at he; omega
      · rw [if_neg h3] at he; exact absurd he h3
    · rw [if_neg h2] at he; omega
  · rw [if_neg h1] at he; omega
set_option maxHeartbeats 4000000 in
theorem c_Ask_ok (r : Rft) (c : VCall) (hl0 : r.hard.log.length < 4294967) (hr : rightB r = true) (he : askE r c = 0) : Ctr Tryz.prog 14 [.ag r.enc, .ag c.enc] (.tu [.ag (askR r c).enc, iv 0]) [] := by
  have hg := rgt_of hr
  have hf := hg.fit hl0
  have hb := hf.base
  have hid := hf.id
  have hro := hf.round
  have ko := c_of r hf.snap (by omega) (by have := hf.reads; omega) hr
  have kl := c_leads r (smallM (by omega))
  have kw := c_Own r.hard (smallM (by omega)) (by unfold isI; omega) r.commit (hg.comI hl0)
  have ks := c_sRight c
  obtain ⟨h1, h2, h3, h4⟩ := askE_ok he
  rw [h1] at kl
  rw [show fits r.hard r.commit r.hard.term = true from h2] at kw
  rw [h3] at ks
  have ew : IntKind.i64.wrap (r.round + 1) = r.round + 1 := wrap_id (by omega) (by omega)
  have b1 : ((r.reads.map Rd.enc).length + 1) * 128 ≤ 140737488355328 := by rw [List.length_map]; omega
  have b2 : (r.reads.map Rd.enc).length + 1 ≤ maxLen := smallM (by rw [List.length_map]; omega)
  refine spec_of_body mixed Tryz.func14 rfl (by kernel_rfl) (by kernel_rfl) ?_; conv => whnf
  ((refine Exists.intro (some ([(28, 500)], [], [(0, 600), (1, 601), (2, 602), (3, 603)])) ?_); (conv => whnf); first | ((with_reducible refine callE_by (ko) ?_); conv => whnf))
  ((try ((refine Exists.intro none ?_); (conv => whnf))); first | ((with_reducible refine call_by (kl) ?_); conv => whnf))
  ((try ((refine Exists.intro none ?_); (conv => whnf))); first | ((with_reducible refine call_by (kw) ?_); conv => whnf))
  ((try ((refine Exists.intro none ?_); (conv => whnf))); first | ((with_reducible refine call_by (ks) ?_); conv => whnf))
  ((first | (with_reducible refine split_dec (fun h => ?_) (fun h => ?_)) | (with_reducible refine split_beq (fun h => ?_) (fun h => ?_)) | (with_reducible refine split_bne (fun h => ?_) (fun h => ?_)) | (with_reducible refine split_not (fun h => ?_) (fun h => ?_)) | (with_reducible refine split_beqS (fun h => ?_) (fun h => ?_)) | (with_reducible refine split_intro (fun h => ?_) (fun h => ?_))) <;> conv => whnf)
  · simp only [List.length_map] at h
    omega
  clear h
  refine ⟨⟨by decide, hid.1⟩, ?_⟩
  conv => whnf
  (refine And.intro rfl ?_; (conv => whnf); refine And.intro (And.intro (And.intro (by kernel_rfl) (And.intro (Nat.le_refl _) (And.intro (b1) (And.intro (b2) (by intro r hr; rw [List.mem_singleton.1 hr]; rfl))))) (And.intro (by decide) rfl)) ?_; conv => whnf)
  have erow : List.take (r.reads.map Rd.enc).length (r.reads.map Rd.enc) ++ [(⟨c, r.commit, farM (IntKind.i64.wrap (r.round + 1)), shl 1 r.id⟩ : Rd).enc] = (askR r c).reads.map Rd.enc := by
    rw [ew, List.take_of_length_le (Nat.le_refl _), List.map_append]; rfl
  refine exit_fz [(600, false, 1, r.hard.snap.map encB), (601, false, 16, r.hard.log.map Ent.enc), (1120, false, 13, (askR r c).reads.map Rd.enc)] ?_ (wkV_tu ⟨wkV_ag ?_, wkV_same _ rfl, rfl⟩)
  · intro q hq
    simp only [List.mem_cons, List.mem_nil_iff, or_false] at hq
    rcases hq with rfl | rfl | rfl
    · rfl
    · rfl
    · refine Eq.trans ?_ (congrArg (fun l => some (some (false, 13, l))) erow)
      kernel_rfl
  conv => whnf
  repeat' (first | exact rfl | ((with_reducible refine And.intro ?_ ?_) <;> (first | (with_reducible exact wkV_same _ rfl) | (refine wkV_fz (b := false) (List.Mem.head _) rfl) | (refine wkV_fz (b := false) (List.Mem.tail _ (List.Mem.head _)) rfl) | (refine wkV_fz (b := false) (List.Mem.tail _ (List.Mem.tail _ (List.Mem.head _))) rfl) | (conv => whnf))))
  refine wkV_fz (rn := []) (kb := []) (b := false) (List.Mem.tail _ (List.Mem.tail _ (List.Mem.head _))) ?_
  show _ = ((r.reads ++ [qR r c]).map Rd.enc).length
  rw [List.map_append, List.length_append]; rfl
set_option maxHeartbeats 4000000 in
theorem c_rfReady (r : Rft) (hl0 : r.hard.log.length < 4294967) (hr : rightB r = true) (a : Int) : Ctr Tryz.prog 16 [.ag r.enc, iv a] (.tu [.ag ({ r with reads := r.reads.filter fun x => !rdy (inForce r) a x } : Rft).enc, .sl 13 ((r.reads.filter (rdy (inForce r) a)).map Rd.enc), iv 0]) [] := by
  have hg := rgt_of hr
  have hf := hg.fit hl0
  have hrl := hf.reads
  have ko := c_of r hf.snap (by omega) (by omega) hr
  have kc := c_vConf r (smallM (by omega))
  have ky := c_Ready r.reads (by omega) (inForce r) a
  refine spec_of_body mixed Tryz.func16 rfl (by kernel_rfl) (by kernel_rfl) ?_; conv => whnf
  ((refine Exists.intro (some ([(28, 500)], [], [(0, 600), (1, 601), (2, 602), (3, 603)])) ?_); (conv => whnf); first | ((with_reducible refine callE_by (ko) ?_); conv => whnf))
  ((try ((refine Exists.intro none ?_); (conv => whnf))); first | ((with_reducible refine call_by (kc) ?_); conv => whnf))
  ((try ((refine Exists.intro none ?_); (conv => whnf))); (first | (with_reducible refine And.intro (Nat.le_of_eq (Nat.zero_add _)) ?_) | (refine And.intro (by simp only [List.length_map, List.length_set, Nat.zero_add]; omega) ?_)); conv => whnf)
  ((try ((refine Exists.intro none ?_); (conv => whnf))); first | (refine call_eq (ky) (by simp only [List.drop_zero, List.take_length]) ?_; conv => whnf))
  (refine Exists.intro _ (And.intro rfl (And.intro (by intro q hq; first | (cases hq; done) | (simp only [List.mem_cons, List.not_mem_nil, or_false] at hq; rcases hq with rfl | rfl <;> (simp only [List.length_cons, List.length_nil]; omega)) | (simp only [List.mem_cons, List.not_mem_nil, or_false] at hq; subst hq; simp only [List.length_cons, List.length_nil]; omega)) (And.intro (by intro i hi; rcases i with _ | _ | i; rfl; rfl; exact absurd hi (by simp)) ?_))); conv => whnf)
  refine exit_fz [(600, false, 1, r.hard.snap.map encB), (601, false, 16, r.hard.log.map Ent.enc), (465, false, 13, (r.reads.filter fun x => !rdy (inForce r) a x).map Rd.enc), (464, false, 13, (r.reads.filter (rdy (inForce r) a)).map Rd.enc)] ?_ (wkV_tu ⟨wkV_ag ?_, wkV_fz (b := false) (List.Mem.tail _ (List.Mem.tail _ (List.Mem.tail _ (List.Mem.head _)))) rfl, wkV_same _ rfl, rfl⟩)
  · intro q hq
    simp only [List.mem_cons, List.mem_nil_iff, or_false] at hq
    rcases hq with rfl | rfl | rfl | rfl <;> rfl
  conv => whnf
  repeat' (first | exact rfl | ((with_reducible refine And.intro ?_ ?_) <;> (first | (with_reducible exact wkV_same _ rfl) | (refine wkV_fz (b := false) (List.Mem.head _) rfl) | (refine wkV_fz (b := false) (List.Mem.tail _ (List.Mem.head _)) rfl) | (refine wkV_fz (b := false) (List.Mem.tail _ (List.Mem.tail _ (List.Mem.head _))) rfl) | (conv => whnf))))
set_option maxHeartbeats 4000000 in
theorem c_rfCompact (r : Rft) (hl0 : r.hard.log.length < 4294967) (hr : rightB r = true) (s : List Int) (hs : s.length ≤ 4294967296) : Ctr Tryz.prog 20 [.ag r.enc, .sl 1 (s.map encB)] (if compE r.hard r.commit s = 0 then .tu [.ag ({ r with hard := compH r.hard r.commit s } : Rft).enc, iv 0] else .tu [.ag rzv, iv (compE r.hard r.commit s)]) [] := by
  have hg := rgt_of hr
  have hf := hg.fit hl0
  have hb := hf.base
  have ko := c_of r hf.snap (by omega) (by have := hf.reads; omega) hr
  have kc := c_CompactW r.hard (by omega) (by unfold isI; omega) r.commit (hg.comI hl0) s hs
  unfold resW at kc
  by_cases he : compE r.hard r.commit s = 0
  · rw [if_pos he] at kc ⊢
    refine spec_of_body mixed Tryz.func20 rfl (by kernel_rfl) (by kernel_rfl) ?_; conv => whnf
    ((refine Exists.intro (some ([(28, 500)], [], [(0, 600), (1, 601), (2, 602), (3, 603)])) ?_); (conv => whnf); first | ((with_reducible refine callE_by (ko) ?_); conv => whnf))
    ((try ((refine Exists.intro none ?_); (conv => whnf))); (first | (with_reducible refine And.intro (Nat.le_of_eq (Nat.zero_add _)) ?_) | (refine And.intro (by simp only [List.length_map, List.length_set, Nat.zero_add]; omega) ?_)); conv => whnf)
    ((try ((refine Exists.intro none ?_); (conv => whnf))); (first | (with_reducible refine And.intro (Nat.le_of_eq (Nat.zero_add _)) ?_) | (refine And.intro (by simp only [List.length_map, List.length_set, Nat.zero_add]; omega) ?_)); conv => whnf)
    ((try ((refine Exists.intro none ?_); (conv => whnf))); first | (refine call_eq (kc) (by simp only [List.drop_zero, List.take_length]) ?_; conv => whnf))
    (refine Exists.intro _ (And.intro rfl (And.intro (by intro q _; simp only [List.length_nil]; omega) (And.intro (by intro i hi; exact absurd hi (Nat.not_lt_zero i)) ?_))); conv => whnf)
    refine exit_fz [(602, false, 13, r.reads.map Rd.enc)] ?_ (wkV_tu ⟨wkV_ag ?_, wkV_same _ rfl, rfl⟩)
    · intro q hq
      rw [List.mem_singleton.1 hq]; rfl
    conv => whnf
    repeat' (first | exact rfl | ((with_reducible refine And.intro ?_ ?_) <;> (first | (with_reducible exact wkV_same _ rfl) | (refine wkV_fz (b := false) (List.Mem.head _) rfl) | (refine wkV_fz (b := false) (List.Mem.tail _ (List.Mem.head _)) rfl) | (refine wkV_fz (b := false) (List.Mem.tail _ (List.Mem.tail _ (List.Mem.head _))) rfl) | (conv => whnf))))
  · rw [if_neg he] at kc ⊢
    generalize compE r.hard r.commit s = e at *
    refine spec_of_body mixed Tryz.func20 rfl (by kernel_rfl) (by kernel_rfl) ?_; conv => whnf
    ((refine Exists.intro (some ([(28, 500)], [], [(0, 600), (1, 601), (2, 602), (3, 603)])) ?_); (conv => whnf); first | ((with_reducible refine callE_by (ko) ?_); conv => whnf))
    ((try ((refine Exists.intro none ?_); (conv => whnf))); (first | (with_reducible refine And.intro (Nat.le_of_eq (Nat.zero_add _)) ?_) | (refine And.intro (by simp only [List.length_map, List.length_set, Nat.zero_add]; omega) ?_)); conv => whnf)
    ((try ((refine Exists.intro none ?_); (conv => whnf))); (first | (with_reducible refine And.intro (Nat.le_of_eq (Nat.zero_add _)) ?_) | (refine And.intro (by simp only [List.length_map, List.length_set, Nat.zero_add]; omega) ?_)); conv => whnf)
    ((try ((refine Exists.intro none ?_); (conv => whnf))); first | (refine call_eq (kc) (by simp only [List.drop_zero, List.take_length]) ?_; conv => whnf))
    ((first | (with_reducible refine split_dec (fun h => ?_) (fun h => ?_)) | (with_reducible refine split_beq (fun h => ?_) (fun h => ?_)) | (with_reducible refine split_bne (fun h => ?_) (fun h => ?_)) | (with_reducible refine split_not (fun h => ?_) (fun h => ?_)) | (with_reducible refine split_beqS (fun h => ?_) (fun h => ?_)) | (with_reducible refine split_intro (fun h => ?_) (fun h => ?_))) <;> conv => whnf)
    · exact exit_plain rfl rfl
    · exact absurd (by first | exact h | (simpa using h)) he
end Go.Proofs
