import Derived.Test.YtnphfgphajejaaaC64
import Derived.Test.YtnphfgphajejaaaC65
import Derived.Test.YtnphfgphajejaaaC66
import Derived.Test.YtnphfgphajejaaaC50
import Derived.Test.YtnphfgphajejaaaTAuditExact
set_option linter.unusedSimpArgs false
set_option linter.unusedVariables false
namespace Go.Proofs
open Go.Pv
set_option maxRecDepth 100000

theorem s_EntriesN : Ctr Try.prog 126 [.nl, .nl] (bv true) [] := by
  have := s_Entries [] (by simp)
  refine this.deep ?_
  repeat' (first | exact subVL_nil | refine subVL_cons ?_ ?_ | exact SubV.refl _ | exact subV_nl | refine subV_ag ?_)
theorem c_SpoilEntriesZ : Ctr Try.prog 134 [.nl] (.tu []) [] := by
  refine spec_of_body mixed Try.func134 rfl (by kernel_rfl) (by kernel_rfl) ?_; conv => whnf
  refine tri_for0 mixed (by kernel_rfl) (fun i : Nat => i = 0) (fun i => [(2, iv i)]) [] (fun _ => 0) 0 rfl ?_ ?_
  · conv => whnf
    (refine And.intro (And.intro (by with_unfolding_all rfl) (by intro q h; cases h)) ?_; refine And.intro ?_ (And.intro ?_ ?_) <;> (conv => whnf) <;> (repeat' (first | exact True.intro | (with_reducible exact rfl) | exact (rfl : List.replicate 0 PV.bad = []) | ((with_reducible refine And.intro ?_ ?_) <;> (first | (with_reducible exact wkV_same _ rfl) | exact wkV_pt rfl rfl | exact wkV_ow rfl rfl rfl | (refine wkV_ow rfl rfl ?_) | (refine wkV_sc (congrArg (Value.int .i64) ?_)) | (refine wkV_sc (congrArg Value.bool ?_)) | exact wkV_ls rfl | ((refine wkV_cl ?_); conv => whnf) | ((refine wkV_tu ?_); conv => whnf) | ((refine wkV_ag ?_); conv => whnf) | (conv => whnf))))))
    all_goals rfl
  intro i hi
  conv => whnf
  exact exit_plain rfl rfl

set_option maxHeartbeats 8000000 in
theorem l_AuditMerges (l : List Ent) (r : Rft) (hr : r.ok) (c : Conf) (m : Mac) : Ctr Try.prog 29 [.sl 16 (l.map Ent.enc), .ag r.enc, .ag c.enc, .ag m.enc] (bv true) [] := by
  have h26 := c_heavy26 [r]
  refine spec_of_body mixed Try.func29 rfl (by kernel_rfl) (by kernel_rfl) ?_; conv => whnf
  ((try ((refine Exists.intro none ?_); (conv => whnf))); first | ((with_reducible refine call_by (c_HeavyEntries l) ?_); conv => whnf))
  ((first | (with_reducible refine split_dec (fun h => ?_) (fun h => ?_)) | (with_reducible refine split_beq (fun h => ?_) (fun h => ?_)) | (with_reducible refine split_bne (fun h => ?_) (fun h => ?_)) | (with_reducible refine split_not (fun h => ?_) (fun h => ?_)) | (with_reducible refine split_beqS (fun h => ?_) (fun h => ?_)) | (with_reducible refine split_intro (fun h => ?_) (fun h => ?_))) <;> conv => whnf)
  · exact exit_plain rfl rfl
  have hll : l.length ≤ 200 := by
    simp only [heavyEs, Bool.or_eq_false_iff, decide_eq_false_iff_not] at h
    omega
  clear h
  ((try ((refine Exists.intro none ?_); (conv => whnf))); refine call_deep (h26) (by (repeat' (first | exact subVL_nil | exact subVR_nil | refine subVL_cons ?_ ?_ | refine subVR_cons ?_ ?_ | exact SubV.refl _ | exact subV_nl | (with_reducible exact subV_tk rfl) | refine subV_ag ?_ | refine subV_sl ?_ | refine subV_ep ?_))) ?_; conv => whnf)
  ((first | (with_reducible refine split_dec (fun h => ?_) (fun h => ?_)) | (with_reducible refine split_beq (fun h => ?_) (fun h => ?_)) | (with_reducible refine split_bne (fun h => ?_) (fun h => ?_)) | (with_reducible refine split_not (fun h => ?_) (fun h => ?_)) | (with_reducible refine split_beqS (fun h => ?_) (fun h => ?_)) | (with_reducible refine split_intro (fun h => ?_) (fun h => ?_))) <;> conv => whnf)
  · exact exit_plain rfl rfl
  have hh1 : heavy1 r = false := by
    simp only [heavyL, Bool.or_eq_false_iff, List.any_cons, List.any_nil, Bool.or_false] at h
    exact h.2
  clear h
  simp only [heavy1, heavyH, heavyEs, Bool.or_eq_false_iff, decide_eq_false_iff_not] at hh1
  have hlg : r.hard.log.length ≤ 200 := by omega
  have hsn : r.hard.snap.length ≤ 32768 := by omega
  have hrd : r.reads.length ≤ 200 := by omega
  have hrI : isI r.hard.base := hr.2.1.2.2.1
  have hcI : isI r.commit := hr.2.2.1
  have s : r.small := ⟨by omega, hrI, by omega, by omega⟩
  ((try ((refine Exists.intro none ?_); (conv => whnf))); first | ((with_reducible refine call_by (c_Heavy07 m) ?_); conv => whnf))
  ((first | (with_reducible refine split_dec (fun h => ?_) (fun h => ?_)) | (with_reducible refine split_beq (fun h => ?_) (fun h => ?_)) | (with_reducible refine split_bne (fun h => ?_) (fun h => ?_)) | (with_reducible refine split_not (fun h => ?_) (fun h => ?_)) | (with_reducible refine split_beqS (fun h => ?_) (fun h => ?_)) | (with_reducible refine split_intro (fun h => ?_) (fun h => ?_))) <;> conv => whnf)
  · exact exit_plain rfl rfl
  have hmp : m.pairs.length ≤ 200 := by
    simp only [heavyMac, heavyPs, Bool.or_eq_false_iff, decide_eq_false_iff_not] at h
    omega
  have hms : m.sess.length ≤ 200 := by
    simp only [heavyMac, heavyPs, Bool.or_eq_false_iff, decide_eq_false_iff_not] at h
    omega
  clear h
  have t1 := (c_TwinEntries l (by omega)).frz (wkV_fz (b := false) (List.Mem.head _) rfl)
  have t2 := c_TwinRaftV r s
  have u1 := c_Lasts l (by omega) r s
  have u2 := c_rLasts l (by omega) r s (by omega)
  have u3 := c_Confs l (by omega) c
  have u4 := c_rConfs l (by omega) c
  have u5 := c_Witness r s m (by omega) (by omega) (by omega)
  have u6 := c_rWitness r s m (by omega) (by omega) (by omega) (by omega)
  have u7 := s_Entries l (smallM (by omega))
  have u8 := s_Raft r (smallM (by omega)) s.len (smallM (by omega))
  ((try ((refine Exists.intro none ?_); (conv => whnf))); first | ((with_reducible refine call_by (t1) ?_); conv => whnf))
  (refine Exists.intro _ (And.intro rfl (And.intro (by intro q _; simp only [List.length_nil]; omega) (And.intro (by intro i hi; exact absurd hi (Nat.not_lt_zero i)) ?_))); conv => whnf)
  ((try ((refine Exists.intro none ?_); (conv => whnf))); first | ((with_reducible refine call_by (t2) ?_); conv => whnf))
  (refine Exists.intro _ (And.intro rfl (And.intro (by intro q _; simp only [List.length_nil]; omega) (And.intro (by intro i hi; exact absurd hi (Nat.not_lt_zero i)) ?_))); conv => whnf)
  by_cases hE : mrgE l r = 0
  · have hol := mrgO_len l r (mrgJ l r)
    have k1 := c_MergeOk l (by omega) r s (by omega) hE
    have k2 := c_rMergeOk l (by omega) r s (by omega) hcI hE
    generalize mrgO l r (mrgJ l r) = o at *
    have ks := s_Entries o (smallM (by omega))
    have ksp := c_SpoilEntries o (by omega)
    ((try ((refine Exists.intro none ?_); (conv => whnf))); first | ((with_reducible refine call_by (k1) ?_); conv => whnf))
    (refine Exists.intro _ (And.intro rfl (And.intro (by intro q hq; first | (cases hq; done) | (simp only [List.mem_cons, List.not_mem_nil, or_false] at hq; rcases hq with rfl | rfl <;> (simp only [List.length_cons, List.length_nil]; omega)) | (simp only [List.mem_cons, List.not_mem_nil, or_false] at hq; subst hq; simp only [List.length_cons, List.length_nil]; omega)) (And.intro (by intro i hi; simp only [List.length_cons, List.length_nil, Nat.lt_one_iff, Nat.zero_add] at hi; subst hi; rfl) ?_))); conv => whnf)
    ((try ((refine Exists.intro none ?_); (conv => whnf))); first | ((with_reducible refine call_by (k2) ?_); conv => whnf))
    (refine Exists.intro _ (And.intro rfl (And.intro (by intro q _; simp only [List.length_nil]; omega) (And.intro (by intro i hi; exact absurd hi (Nat.not_lt_zero i)) ?_))); conv => whnf)
    ((try ((refine Exists.intro none ?_); (conv => whnf))); (first | (with_reducible refine And.intro (Nat.le_of_eq (Nat.zero_add _)) ?_) | (refine And.intro (by simp only [List.length_map, List.length_set, Nat.zero_add]; omega) ?_)); conv => whnf)
    ((try ((refine Exists.intro none ?_); (conv => whnf))); first | (refine call_eq (ks) (by simp only [List.drop_zero, List.take_length]) ?_; conv => whnf))
    ((refine Exists.intro (some ([], [(1000000, 528)], [])) ?_); (conv => whnf); first | ((with_reducible refine callE_by (ksp) ?_); conv => whnf))
    ((try ((refine Exists.intro none ?_); (conv => whnf))); first | ((with_reducible refine call_by (u1) ?_); conv => whnf))
    ((try ((refine Exists.intro none ?_); (conv => whnf))); first | ((with_reducible refine call_by (u2) ?_); conv => whnf))
    ((with_reducible refine And.intro (show Try.prog.underlying _ = some .bool by kernel_rfl) ?_); conv => whnf)
    ((first | (with_reducible refine split_et rfl ?_) | (with_reducible refine split_bf rfl ?_) | (with_reducible refine split_t (beq_self_eq_true _) ?_) | (with_reducible refine split_f (bne_self_eq_false _) ?_)); conv => whnf)
    ((try ((refine Exists.intro none ?_); (conv => whnf))); first | ((with_reducible refine call_by (u3) ?_); conv => whnf))
    ((try ((refine Exists.intro none ?_); (conv => whnf))); first | ((with_reducible refine call_by (u4) ?_); conv => whnf))
    ((with_reducible refine And.intro (show Try.prog.underlying _ = some .bool by kernel_rfl) ?_); conv => whnf)
    ((first | (with_reducible refine split_et rfl ?_) | (with_reducible refine split_bf rfl ?_) | (with_reducible refine split_t (beq_self_eq_true _) ?_) | (with_reducible refine split_f (bne_self_eq_false _) ?_)); conv => whnf)
    ((try ((refine Exists.intro none ?_); (conv => whnf))); first | ((with_reducible refine call_by (u5) ?_); conv => whnf))
    ((try ((refine Exists.intro none ?_); (conv => whnf))); first | ((with_reducible refine call_by (u6) ?_); conv => whnf))
    ((with_reducible refine And.intro (show Try.prog.underlying _ = some .bool by kernel_rfl) ?_); conv => whnf)
    ((first | (with_reducible refine split_et rfl ?_) | (with_reducible refine split_bf rfl ?_) | (with_reducible refine split_t (beq_self_eq_true _) ?_) | (with_reducible refine split_f (bne_self_eq_false _) ?_)); conv => whnf)
    ((try ((refine Exists.intro none ?_); (conv => whnf))); first | ((with_reducible refine call_by (u7) ?_); conv => whnf))
    ((try ((refine Exists.intro none ?_); (conv => whnf))); first | ((with_reducible refine call_by (u8) ?_); conv => whnf))
    ((try ((refine Exists.intro none ?_); (conv => whnf))); first | ((with_reducible refine call_by (c_wakes26) ?_); conv => whnf))
    exact exit_plain rfl rfl
  · have k1 := c_MergeBad l (by omega) r s (by omega) hE
    have k2 := c_rMergeBad l (by omega) r s (by omega) hcI hE
    ((try ((refine Exists.intro none ?_); (conv => whnf))); first | ((with_reducible refine call_by (k1) ?_); conv => whnf))
    ((try ((refine Exists.intro none ?_); (conv => whnf))); first | ((with_reducible refine call_by (k2) ?_); conv => whnf))
    ((try ((refine Exists.intro none ?_); (conv => whnf))); first | ((with_reducible refine call_by (s_EntriesN) ?_); conv => whnf))
    ((first | (with_reducible refine split_et rfl ?_) | (with_reducible refine split_bf rfl ?_) | (with_reducible refine split_t (beq_self_eq_true _) ?_) | (with_reducible refine split_f (bne_self_eq_false _) ?_)); conv => whnf)
    ((try ((refine Exists.intro none ?_); (conv => whnf))); first | ((with_reducible refine call_by (c_SpoilEntriesZ) ?_); conv => whnf))
    ((try ((refine Exists.intro none ?_); (conv => whnf))); first | ((with_reducible refine call_by (u1) ?_); conv => whnf))
    ((try ((refine Exists.intro none ?_); (conv => whnf))); first | ((with_reducible refine call_by (u2) ?_); conv => whnf))
    ((with_reducible refine And.intro (show Try.prog.underlying _ = some .bool by kernel_rfl) ?_); conv => whnf)
    ((first | (with_reducible refine split_et rfl ?_) | (with_reducible refine split_bf rfl ?_) | (with_reducible refine split_t (beq_self_eq_true _) ?_) | (with_reducible refine split_f (bne_self_eq_false _) ?_)); conv => whnf)
    ((try ((refine Exists.intro none ?_); (conv => whnf))); first | ((with_reducible refine call_by (u3) ?_); conv => whnf))
    ((try ((refine Exists.intro none ?_); (conv => whnf))); first | ((with_reducible refine call_by (u4) ?_); conv => whnf))
    ((with_reducible refine And.intro (show Try.prog.underlying _ = some .bool by kernel_rfl) ?_); conv => whnf)
    ((first | (with_reducible refine split_et rfl ?_) | (with_reducible refine split_bf rfl ?_) | (with_reducible refine split_t (beq_self_eq_true _) ?_) | (with_reducible refine split_f (bne_self_eq_false _) ?_)); conv => whnf)
    ((try ((refine Exists.intro none ?_); (conv => whnf))); first | ((with_reducible refine call_by (u5) ?_); conv => whnf))
    ((try ((refine Exists.intro none ?_); (conv => whnf))); first | ((with_reducible refine call_by (u6) ?_); conv => whnf))
    ((with_reducible refine And.intro (show Try.prog.underlying _ = some .bool by kernel_rfl) ?_); conv => whnf)
    ((first | (with_reducible refine split_et rfl ?_) | (with_reducible refine split_bf rfl ?_) | (with_reducible refine split_t (beq_self_eq_true _) ?_) | (with_reducible refine split_f (bne_self_eq_false _) ?_)); conv => whnf)
    ((try ((refine Exists.intro none ?_); (conv => whnf))); first | ((with_reducible refine call_by (u7) ?_); conv => whnf))
    ((try ((refine Exists.intro none ?_); (conv => whnf))); first | ((with_reducible refine call_by (u8) ?_); conv => whnf))
    ((try ((refine Exists.intro none ?_); (conv => whnf))); first | ((with_reducible refine call_by (c_wakes26) ?_); conv => whnf))
    exact exit_plain rfl rfl

theorem told_AuditMerges (qs : List PV) (h : ArgsOf Try.prog [30, 36, 23, 140] qs) : Ctr Try.prog 29 qs (bv true) [] := by
  obtain ⟨p1, qs, rfl, h1, h⟩ := argsOf_cons h
  obtain ⟨p2, qs, rfl, h2, h⟩ := argsOf_cons h
  obtain ⟨p3, qs, rfl, h3, h⟩ := argsOf_cons h
  obtain ⟨p4, qs, rfl, h4, h⟩ := argsOf_cons h
  obtain rfl := argsOf_nil h
  obtain ⟨l, rfl, _⟩ := arg_Ents h1
  obtain ⟨r, rfl, hr⟩ := arg_Rft h2
  obtain ⟨c, rfl, _⟩ := arg_Conf h3
  obtain ⟨m, rfl⟩ := arg_Mac h4
  exact l_AuditMerges l r hr c m
end Go.Proofs
