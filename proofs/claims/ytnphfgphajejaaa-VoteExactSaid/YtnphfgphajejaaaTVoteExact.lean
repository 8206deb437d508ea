import Derived.Test.YtnphfgphajejaaaC14
namespace Go.Proofs
open Go.Pv
set_option maxRecDepth 100000

set_option maxHeartbeats 2000000 in
theorem l_VoteExact (r : Rft) (m : Mg) (c : Conf) (i : Int) (hr : r.ok) (hm : m.ok) : Ctr Try.prog 8 [.ag r.enc, .ag m.enc, .ag c.enc, iv i] (bv true) [] := by
  have hl : r.hard.log.length ≤ maxLen := hr.2.1.2.2.2.2.2.2.1
  have hs : r.hard.snap.length ≤ maxLen := hr.2.1.2.2.2.2.2.1.1
  have hd : r.reads.length ≤ maxLen := hr.2.2.2.2.2.2.2.2.2.2.2.2.1
  refine spec_of_body mixed Try.func8 rfl (by kernel_rfl) (by kernel_rfl) ?_; conv => whnf
  (first | ((with_reducible refine call_by (c_Heavy15 r) ?_); conv => whnf))
  ((first | (with_reducible refine split_dec (fun h => ?_) (fun h => ?_)) | (with_reducible refine split_beq (fun h => ?_) (fun h => ?_)) | (with_reducible refine split_bne (fun h => ?_) (fun h => ?_)) | (with_reducible refine split_not (fun h => ?_) (fun h => ?_)) | (with_reducible refine split_beqS (fun h => ?_) (fun h => ?_)) | (with_reducible refine split_intro (fun h => ?_) (fun h => ?_))) <;> conv => whnf)
  · exact exit_plain rfl rfl
  have hv := h
  (first | ((with_reducible refine call_by (c_HeavyMsg m hm) ?_); conv => whnf))
  ((first | (with_reducible refine split_dec (fun h => ?_) (fun h => ?_)) | (with_reducible refine split_beq (fun h => ?_) (fun h => ?_)) | (with_reducible refine split_bne (fun h => ?_) (fun h => ?_)) | (with_reducible refine split_not (fun h => ?_) (fun h => ?_)) | (with_reducible refine split_beqS (fun h => ?_) (fun h => ?_)) | (with_reducible refine split_intro (fun h => ?_) (fun h => ?_))) <;> conv => whnf)
  · exact exit_plain rfl rfl
  simp [heavyR, heavyH, heavyEs] at hv
  have b1 : r.hard.snap.length ≤ 4294967296 := by omega
  have b2 : r.hard.log.length ≤ 4294967296 := by omega
  have b3 : r.reads.length ≤ 4294967296 := by omega
  (first | ((with_reducible refine call_by (c_TwinRaft r b1 b2 b3) ?_); conv => whnf))
  refine ⟨_, rfl, (by intro q hq; cases hq), (by intro i hi; rfl), ?_⟩
  conv => whnf
  repeat' (first | ((with_reducible refine And.intro (Nat.le_of_eq (Nat.zero_add _)) ?_); conv => whnf) | (first | (refine call_eq (c_vConf r hl) (by simp only [List.drop_zero, List.take_length]) ?_; conv => whnf) | (refine call_eq (c_rConf15 r hl) (by simp only [List.drop_zero, List.take_length]) ?_; conv => whnf) | (refine call_eq (s_Conf (inForce r)) (by simp only [List.drop_zero, List.take_length]) ?_; conv => whnf) | (refine call_eq (c_Voter r hl) (by simp only [List.drop_zero, List.take_length]) ?_; conv => whnf) | (refine call_eq (c_rVoter r hl) (by simp only [List.drop_zero, List.take_length]) ?_; conv => whnf) | (refine call_eq (c_Delay c i) (by simp only [List.drop_zero, List.take_length]) ?_; conv => whnf) | (refine call_eq (c_rDelay c i) (by simp only [List.drop_zero, List.take_length]) ?_; conv => whnf) | (refine call_eq (c_Asked r hl m) (by simp only [List.drop_zero, List.take_length]) ?_; conv => whnf) | (refine call_eq (c_rAsked r hl m) (by simp only [List.drop_zero, List.take_length]) ?_; conv => whnf) | (refine call_eq (c_Voted r hl m) (by simp only [List.drop_zero, List.take_length]) ?_; conv => whnf) | (refine call_eq (c_rVoted r hl m) (by simp only [List.drop_zero, List.take_length]) ?_; conv => whnf) | (refine call_eq (c_Wins r hl) (by simp only [List.drop_zero, List.take_length]) ?_; conv => whnf) | (refine call_eq (c_rWins r hl) (by simp only [List.drop_zero, List.take_length]) ?_; conv => whnf) | (refine call_eq (s_Raft r hs hl hd) (by simp only [List.drop_zero, List.take_length]) ?_; conv => whnf) | (refine call_eq (c_wakes15) (by simp only [List.drop_zero, List.take_length]) ?_; conv => whnf)) | ((with_reducible refine And.intro (show Try.prog.underlying _ = some .bool by kernel_rfl) ?_); conv => whnf) | ((first | (with_reducible refine split_et rfl ?_) | (with_reducible refine split_bf rfl ?_) | (with_reducible refine split_t (beq_self_eq_true _) ?_) | (with_reducible refine split_f (bne_self_eq_false _) ?_)); conv => whnf))
  exact exit_plain rfl rfl

theorem told_VoteExact (qs : List PV) (h : ArgsOf Try.prog [36, 39, 23, 3] qs) : Ctr Try.prog 8 qs (bv true) [] := by
  obtain ⟨p1, qs, rfl, h1, h⟩ := argsOf_cons h
  obtain ⟨p2, qs, rfl, h2, h⟩ := argsOf_cons h
  obtain ⟨p3, qs, rfl, h3, h⟩ := argsOf_cons h
  obtain ⟨p4, qs, rfl, h4, h⟩ := argsOf_cons h
  obtain rfl := argsOf_nil h
  obtain ⟨r, rfl, hr⟩ := arg_Rft h1
  obtain ⟨m, rfl, hm⟩ := arg_Mg h2
  obtain ⟨c, rfl, _⟩ := arg_Conf h3
  obtain ⟨i, rfl, _⟩ := arg_i h4
  exact l_VoteExact r m c i hr hm
end Go.Proofs
