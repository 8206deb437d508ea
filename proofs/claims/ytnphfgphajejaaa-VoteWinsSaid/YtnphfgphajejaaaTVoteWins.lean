import Derived.Test.YtnphfgphajejaaaC8
import Derived.Test.YtnphfgphajejaaaC4
namespace Go.Proofs
open Go.Pv
set_option maxRecDepth 100000

noncomputable abbrev bnotV (x : Int) : Int := ixor .i64 (if IntKind.i64.signed then -1 else IntKind.i64.max) x
theorem tb_bnotV (x : Int) (i : Nat) (hi : i < 64) : tb (bnotV x) i = !tb x i := by
  show tb (bxor (if IntKind.i64.signed then -1 else IntKind.i64.max) x) i = _
  rw [tb_xor, show (if IntKind.i64.signed then (-1 : Int) else IntKind.i64.max) = -1 - 0 from rfl, tb_not _ _ hi, tb_zero]
  cases tb x i <;> rfl

set_option maxHeartbeats 1000000 in
theorem l_VoteWins (r : Rft) (a b : Int) (hr : r.ok) : Ctr Try.prog 6 [.ag r.enc, iv a, iv b] (bv true) [] := by
  have hl : r.hard.log.length ≤ maxLen := hr.2.1.2.2.2.2.2.2.1
  have F1 : quorum (inForce r) a = true → quorum (inForce r) (bor a b) = true := fun h => quorum_mono (fun j _ _ hb => by rw [tb_or, hb]; rfl) h
  have F2 : quorum (inForce r) b = true → quorum (inForce r) (bor a b) = true := fun h => quorum_mono (fun j _ _ hb => by rw [tb_or, hb]; simp) h
  have F3 : quorum (inForce r) a = true → quorum (inForce r) b = true → ¬ band (band (band a b) (bor (inForce r).full (inForce r).wit)) 127 = 0 := by
    intro h1 h2 h3
    obtain ⟨i, hi, h4, h5, h6⟩ := quorum_meet h1 h2
    have := (and0.1 h3) i
    rw [tb_and, tb_and, tb_127, h4, h5, h6] at this
    simp [hi] at this
  have F4 : quorum (inForce r) (bnotV (bor (inForce r).full (inForce r).wit)) = false := by
    rw [← Bool.not_eq_true, quorum_iff, show count (band (voters (inForce r)) (bnotV (bor (inForce r).full (inForce r).wit))) = count 0 from count_ext fun i hi => by rw [tb_and, tb_bnotV _ _ (by omega), tb_zero]; simp]
    have e : count 0 = 0 := by simp [count, cnt, tb_zero]
    have := (count_le (voters (inForce r))).1
    omega
  have h1 := c_Wins { r with votes := a } hl
  have h2 := c_Wins { r with votes := b } hl
  have h3 := c_Wins { r with votes := bor a b } hl
  have h4 := c_vConf { r with votes := bor a b } hl
  have h5 := c_Wins { r with votes := bnotV (bor (inForce r).full (inForce r).wit) } hl
  refine spec_of_body mixed Try.func6 rfl (by kernel_rfl) (by kernel_rfl) ?_; conv => whnf
  repeat' (first | (first | ((with_reducible refine call_by (c_Heavy15 r) ?_); conv => whnf) | ((with_reducible refine call_by (h1) ?_); conv => whnf) | ((with_reducible refine call_by (h2) ?_); conv => whnf) | ((with_reducible refine call_by (h3) ?_); conv => whnf) | ((with_reducible refine call_by (h4) ?_); conv => whnf) | ((with_reducible refine call_by (h5) ?_); conv => whnf) | ((with_reducible refine call_by (c_rVoters (inForce r)) ?_); conv => whnf) | ((with_reducible refine call_by (c_wakes15) ?_); conv => whnf)) | ((first | (first | (with_reducible refine split_dt (by assumption) ?_) | (with_reducible refine split_df (by assumption) ?_) | (with_reducible refine split_et (by assumption) ?_) | (with_reducible refine split_ef (by assumption) ?_) | (with_reducible refine split_bt (by assumption) ?_) | (with_reducible refine split_bf (by assumption) ?_) | (with_reducible refine split_nt (by assumption) ?_) | (with_reducible refine split_nf (by assumption) ?_) | (with_reducible refine split_t (by assumption) ?_) | (with_reducible refine split_f (by assumption) ?_)) | (first | (with_reducible refine split_dec (fun h => ?_) (fun h => ?_)) | (with_reducible refine split_beq (fun h => ?_) (fun h => ?_)) | (with_reducible refine split_bne (fun h => ?_) (fun h => ?_)) | (with_reducible refine split_not (fun h => ?_) (fun h => ?_)) | (with_reducible refine split_beqS (fun h => ?_) (fun h => ?_)) | (with_reducible refine split_intro (fun h => ?_) (fun h => ?_)))) <;> conv => whnf))
  all_goals (refine exit_plain rfl ?_)
  all_goals first | rfl | skip
  all_goals exfalso
  all_goals clear h1 h2 h3 h4 h5
  all_goals simp_all [inForce]

theorem told_VoteWins (qs : List PV) (h : ArgsOf Try.prog [36, 3, 3] qs) : Ctr Try.prog 6 qs (bv true) [] := by
  obtain ⟨p1, qs, rfl, h1, h⟩ := argsOf_cons h
  obtain ⟨p2, qs, rfl, h2, h⟩ := argsOf_cons h
  obtain ⟨p3, qs, rfl, h3, h⟩ := argsOf_cons h
  obtain rfl := argsOf_nil h
  obtain ⟨r, rfl, hr⟩ := arg_Rft h1
  obtain ⟨m, rfl, hm⟩ := arg_i h2
  obtain ⟨n, rfl, hn⟩ := arg_i h3
  exact l_VoteWins r m n hr
end Go.Proofs
