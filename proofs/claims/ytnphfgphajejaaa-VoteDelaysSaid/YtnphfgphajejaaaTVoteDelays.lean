import Derived.Test.YtnphfgphajejaaaC1
namespace Go.Proofs
open Go.Pv
set_option maxRecDepth 100000
set_option maxHeartbeats 1000000 in
theorem l_VoteDelays (c : Conf) (i k : Int) : Ctr Try.prog 3 [.ag c.enc, iv i, iv k] (bv true) [] := by
  refine spec_of_body mixed Try.func3 rfl (by kernel_rfl) (by kernel_rfl) ?_
  conv => whnf
  repeat' (first
    | (refine call_by (c_rConf _) ?_; conv => whnf)
    | (refine call_by (c_Delay _ _) ?_; conv => whnf)
    | (refine call_by (c_rKind _ _) ?_; conv => whnf)
    | (refine call_by c_wakes15 ?_; conv => whnf)
    | (refine And.intro (show Try.prog.underlying _ = some .bool by kernel_rfl) ?_; conv => whnf)
    | ((first | refine split_dt (by first | assumption | omega) ?_ | refine split_df (by first | assumption | omega) ?_ | refine split_dec (fun h => ?_) (fun h => ?_) | refine split_et (by first | assumption | omega) ?_ | refine split_ef (by first | assumption | omega) ?_ | refine split_beq (fun h => ?_) (fun h => ?_) | refine split_bt (by first | assumption | omega) ?_ | refine split_bf (by first | assumption | omega) ?_ | refine split_bne (fun h => ?_) (fun h => ?_) | refine split_nt (by assumption) ?_ | refine split_nf (by assumption) ?_ | refine split_not (fun h => ?_) (fun h => ?_) | refine split_t (by assumption) ?_ | refine split_f (by assumption) ?_ | refine split_intro (fun h => ?_) (fun h => ?_)) <;> conv => whnf))
  all_goals (refine exit_plain rfl ?_)
  all_goals first | rfl | skip
  all_goals exfalso
  all_goals simp only [kind_full, kind_wit, delay_eq] at *
  all_goals (
    have fi := @bitB_range c.full i
    have fk := @bitB_range c.full k
    have wi := @bitB_range c.wit i
    have wk := @bitB_range c.wit k
    generalize bitB c.full i = x1 at *
    generalize bitB c.full k = x2 at *
    generalize bitB c.wit i = x3 at *
    generalize bitB c.wit k = x4 at *
    cases x1 <;> cases x2 <;> cases x3 <;> cases x4 <;> simp at * <;> omega)

theorem told_VoteDelays (qs : List PV) (h : ArgsOf Try.prog [23, 3, 3] qs) : Ctr Try.prog 3 qs (bv true) [] := by
  obtain ⟨p1, qs, rfl, h1, h⟩ := argsOf_cons h
  obtain ⟨p2, qs, rfl, h2, h⟩ := argsOf_cons h
  obtain ⟨p3, qs, rfl, h3, h⟩ := argsOf_cons h
  obtain rfl := argsOf_nil h
  obtain ⟨c, rfl, _⟩ := arg_Conf h1
  obtain ⟨i, rfl, _⟩ := arg_i h2
  obtain ⟨k, rfl, _⟩ := arg_i h3
  exact l_VoteDelays c i k
end Go.Proofs
