import Derived.Test.YtnphfgphajejaaaC7
namespace Go.Proofs
open Go.Pv
set_option maxRecDepth 100000

set_option maxHeartbeats 1000000 in
theorem l_VoteOnce (r : Rft) (m n : Mg) (hr : r.ok) (hm : m.ok) (hn : n.ok) : Ctr Try.prog 4 [.ag r.enc, .ag m.enc, .ag n.enc] (bv true) [] := by
  have hl : r.hard.log.length ≤ maxLen := hr.2.1.2.2.2.2.2.2.1
  have h1 : Ctr Try.prog 44 [.ag { r with hard := { r.hard with vote := m.frm } }.enc, .ag m.enc] (bv (m.term == r.hard.term && ((m.frm == -1 || m.frm == m.frm) && newer r.hard m.index m.logTerm))) [] := c_Voted { r with hard := { r.hard with vote := m.frm } } hl m
  have h2 : Ctr Try.prog 44 [.ag { r with hard := { r.hard with vote := m.frm } }.enc, .ag n.enc] (bv (n.term == r.hard.term && ((m.frm == -1 || m.frm == n.frm) && newer r.hard n.index n.logTerm))) [] := c_Voted { r with hard := { r.hard with vote := m.frm } } hl n
  refine spec_of_body mixed Try.func4 rfl (by kernel_rfl) (by kernel_rfl) ?_; conv => whnf
  repeat' (first | (first | ((with_reducible refine call_by (c_Heavy15 r) ?_); conv => whnf) | ((with_reducible refine call_by (c_HeavyMsg m hm) ?_); conv => whnf) | ((with_reducible refine call_by (c_HeavyMsg n hn) ?_); conv => whnf) | ((with_reducible refine call_by (c_rLast r.hard hl) ?_); conv => whnf) | ((with_reducible refine call_by (c_Voted r hl m) ?_); conv => whnf) | ((with_reducible refine call_by (h1) ?_); conv => whnf) | ((with_reducible refine call_by (h2) ?_); conv => whnf) | ((with_reducible refine call_by (c_wakes15) ?_); conv => whnf)) | ((first | (first | (with_reducible refine split_dt (by assumption) ?_) | (with_reducible refine split_df (by assumption) ?_) | (with_reducible refine split_et (by assumption) ?_) | (with_reducible refine split_ef (by assumption) ?_) | (with_reducible refine split_bt (by assumption) ?_) | (with_reducible refine split_bf (by assumption) ?_) | (with_reducible refine split_nt (by assumption) ?_) | (with_reducible refine split_nf (by assumption) ?_) | (with_reducible refine split_t (by assumption) ?_) | (with_reducible refine split_f (by assumption) ?_)) | (first | (with_reducible refine split_dec (fun h => ?_) (fun h => ?_)) | (with_reducible refine split_beq (fun h => ?_) (fun h => ?_)) | (with_reducible refine split_bne (fun h => ?_) (fun h => ?_)) | (with_reducible refine split_not (fun h => ?_) (fun h => ?_)) | (with_reducible refine split_beqS (fun h => ?_) (fun h => ?_)) | (with_reducible refine split_intro (fun h => ?_) (fun h => ?_)))) <;> conv => whnf))
  all_goals (refine exit_plain rfl ?_)
  all_goals first | rfl | skip
  all_goals exfalso
  all_goals clear h1 h2
  all_goals simp only [Bool.eq_false_iff, ne_eq, voted, newer, Bool.and_eq_true, Bool.or_eq_true, decide_eq_true_eq, beq_iff_eq, bne_iff_ne, or_true, true_or, true_and, and_true, not_true_eq_false, not_false_eq_true] at *
  all_goals omega

theorem told_VoteOnce (qs : List PV) (h : ArgsOf Try.prog [36, 39, 39] qs) : Ctr Try.prog 4 qs (bv true) [] := by
  obtain ⟨p1, qs, rfl, h1, h⟩ := argsOf_cons h
  obtain ⟨p2, qs, rfl, h2, h⟩ := argsOf_cons h
  obtain ⟨p3, qs, rfl, h3, h⟩ := argsOf_cons h
  obtain rfl := argsOf_nil h
  obtain ⟨r, rfl, hr⟩ := arg_Rft h1
  obtain ⟨m, rfl, hm⟩ := arg_Mg h2
  obtain ⟨n, rfl, hn⟩ := arg_Mg h3
  exact l_VoteOnce r m n hr hm hn
end Go.Proofs
