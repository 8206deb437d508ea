import Derived.Test.YtnphfgphajejaaaC18
namespace Go.Proofs
open Go.Pv
set_option maxRecDepth 100000

set_option maxHeartbeats 1000000 in
theorem l_ConfMeets (a b : Conf) (x y : Int) : Ctr Try.prog 17 [.ag a.enc, .ag b.enc, iv x, iv y] (bv true) [] := by
  have F1 : quorum a x = true → quorum a y = true → ¬ band (band (band x y) (bor a.full a.wit)) 127 = 0 := by
    intro h1 h2 h3
    obtain ⟨i, hi, h4, h5, h6⟩ := quorum_meet h1 h2
    have := (and0.1 h3) i
    rw [tb_and, tb_and, tb_127, h4, h5, h6] at this
    simp [hi] at this
  have F2 : nearR a b = true → quorum a x = true → quorum b y = true → ¬ band (band x y) 127 = 0 := by
    intro h0 h1 h2 h3
    obtain ⟨i, hi, h5, h6⟩ := near_meet h0 h1 h2
    have := (and0.1 h3) i
    rw [tb_and, tb_127, h5, h6] at this
    simp [hi] at this
  refine spec_of_body mixed Try.func17 rfl (by kernel_rfl) (by kernel_rfl) ?_; conv => whnf
  repeat' (first
    | (first | ((with_reducible refine call_by (c_Quorum a _) ?_); conv => whnf) | ((with_reducible refine call_by (c_Quorum b _) ?_); conv => whnf) | ((with_reducible refine call_by (c_Near a b) ?_); conv => whnf) | ((with_reducible refine call_by (c_Voters a) ?_); conv => whnf) | ((with_reducible refine call_by (c_wakes08) ?_); conv => whnf))
    | ((first | (first | (with_reducible refine split_dt (by assumption) ?_) | (with_reducible refine split_df (by assumption) ?_) | (with_reducible refine split_et (by assumption) ?_) | (with_reducible refine split_ef (by assumption) ?_) | (with_reducible refine split_bt (by assumption) ?_) | (with_reducible refine split_bf (by assumption) ?_) | (with_reducible refine split_nt (by assumption) ?_) | (with_reducible refine split_nf (by assumption) ?_) | (with_reducible refine split_t (by assumption) ?_) | (with_reducible refine split_f (by assumption) ?_)) | (first | (with_reducible refine split_dec (fun h => ?_) (fun h => ?_)) | (with_reducible refine split_beq (fun h => ?_) (fun h => ?_)) | (with_reducible refine split_bne (fun h => ?_) (fun h => ?_)) | (with_reducible refine split_not (fun h => ?_) (fun h => ?_)) | (with_reducible refine split_beqS (fun h => ?_) (fun h => ?_)) | (with_reducible refine split_intro (fun h => ?_) (fun h => ?_)))) <;> conv => whnf))
  all_goals (refine exit_plain rfl ?_)
  all_goals first | rfl | skip
  all_goals exfalso
  all_goals simp_all

theorem told_ConfMeets (qs : List PV) (h : ArgsOf Try.prog [23, 23, 3, 3] qs) : Ctr Try.prog 17 qs (bv true) [] := by
  obtain ⟨p1, qs, rfl, h1, h⟩ := argsOf_cons h
  obtain ⟨p2, qs, rfl, h2, h⟩ := argsOf_cons h
  obtain ⟨p3, qs, rfl, h3, h⟩ := argsOf_cons h
  obtain ⟨p4, qs, rfl, h4, h⟩ := argsOf_cons h
  obtain rfl := argsOf_nil h
  obtain ⟨a, rfl, _⟩ := arg_Conf h1
  obtain ⟨b, rfl, _⟩ := arg_Conf h2
  obtain ⟨i, rfl, _⟩ := arg_i h3
  obtain ⟨k, rfl, _⟩ := arg_i h4
  exact l_ConfMeets a b i k
end Go.Proofs
