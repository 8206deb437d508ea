import Derived.Test.YtnphfgphajejaaaC4
namespace Go.Proofs
open Go.Pv
set_option maxRecDepth 100000

noncomputable abbrev bnot (x : Int) : Int := ixor .i64 (if IntKind.i64.signed then -1 else IntKind.i64.max) x
theorem tb_bnot (x : Int) (i : Nat) (hi : i < 64) : tb (bnot x) i = !tb x i := by
  show tb (bxor (if IntKind.i64.signed then -1 else IntKind.i64.max) x) i = _
  rw [tb_xor, show (if IntKind.i64.signed then (-1 : Int) else IntKind.i64.max) = -1 - 0 from rfl, tb_not _ _ hi, tb_zero]
  cases tb x i <;> rfl

set_option maxHeartbeats 1000000 in
theorem l_ConfAll (c : Conf) (x i : Int) : Ctr Try.prog 7 [.ag c.enc, iv x, iv i] (bv true) [] := by
  refine spec_of_body mixed Try.func7 rfl (by kernel_rfl) (by kernel_rfl) ?_; conv => whnf
  (first | ((with_reducible refine call_by (c_Check c) ?_); conv => whnf))
  cases hc : confB c
  · simp only [Bool.false_eq_true, if_false]
    conv => whnf
    (first | ((with_reducible refine call_by (c_wakes08) ?_); conv => whnf))
    exact exit_plain rfl rfl
  · simp only [if_true]
    have hk := (confB_iff c).1 hc
    have hp := hk.pos
    have F1 : quorum c 127 = true := by
      rw [quorum_iff, show count (band (voters c) 127) = count (voters c) from count_ext fun i hi => by rw [tb_and, tb_127]; simp [hi]]
      omega
    have F2 : quorum c 0 = false := by
      rw [← Bool.not_eq_true, quorum_iff, show band (voters c) 0 = 0 from by rw [and0]; intro i; simp [tb_zero]]
      have e : count 0 = 0 := by simp [count, cnt, tb_zero]
      have := (count_le (voters c)).1
      omega
    have F3 : quorum c (voters c) = true := by
      rw [quorum_iff, show count (band (voters c) (voters c)) = count (voters c) from count_ext fun i hi => by rw [tb_and]; simp]
      omega
    have F4 : quorum c x = true → quorum c (bor x (shl 1 (IntKind.u64.wrap i))) = true := fun h => quorum_mono (fun j _ _ hb => by rw [tb_or, hb]; rfl) h
    have F5 : quorum c x = true → quorum c (bnot x) = false := by
      intro h
      cases h2 : quorum c (bnot x)
      · rfl
      · obtain ⟨j, hj, _, h3, h4⟩ := quorum_meet h h2
        rw [tb_bnot _ _ (by omega), h3] at h4; cases h4
    have F6 : quorum c x = false → quorum c (bnot x) = false → (count (voters c)).tmod 2 = 0 := by
      intro h1 h2
      rw [← Bool.not_eq_true, quorum_iff] at h1 h2
      have := cnt_split' (x := band (voters c) x) (y := band (voters c) (bnot x)) (z := voters c) 7 (by
        intro i hi
        rw [tb_and, tb_and, tb_bnot _ _ (by omega)]
        cases tb (voters c) i <;> cases tb x i <;> rfl)
      have h3 := count_le (voters c)
      unfold count at *
      rw [Int.tmod_eq_emod_of_nonneg h3.1]
      omega
    conv => whnf
    repeat' (first
      | (first | ((with_reducible refine call_by (c_Quorum c _) ?_); conv => whnf) | ((with_reducible refine call_by (c_Voters c) ?_); conv => whnf) | ((with_reducible refine call_by (c_Count _) ?_); conv => whnf) | ((with_reducible refine call_by (c_wakes08) ?_); conv => whnf))
      | ((first | (first | (with_reducible refine split_dt (by assumption) ?_) | (with_reducible refine split_df (by assumption) ?_) | (with_reducible refine split_et (by assumption) ?_) | (with_reducible refine split_ef (by assumption) ?_) | (with_reducible refine split_bt (by assumption) ?_) | (with_reducible refine split_bf (by assumption) ?_) | (with_reducible refine split_nt (by assumption) ?_) | (with_reducible refine split_nf (by assumption) ?_) | (with_reducible refine split_t (by assumption) ?_) | (with_reducible refine split_f (by assumption) ?_)) | (first | (with_reducible refine split_dec (fun h => ?_) (fun h => ?_)) | (with_reducible refine split_beq (fun h => ?_) (fun h => ?_)) | (with_reducible refine split_bne (fun h => ?_) (fun h => ?_)) | (with_reducible refine split_not (fun h => ?_) (fun h => ?_)) | (with_reducible refine split_beqS (fun h => ?_) (fun h => ?_)) | (with_reducible refine split_intro (fun h => ?_) (fun h => ?_)))) <;> conv => whnf)
      | ((with_reducible refine And.intro (And.intro (by decide) (u64_nonneg _)) ?_); conv => whnf)
      | ((with_reducible refine And.intro (And.intro (by first | decide | omega) (by first | decide | omega)) ?_); conv => whnf)
      | ((with_reducible refine And.intro (show Try.prog.underlying _ = some .bool by kernel_rfl) ?_); conv => whnf))
    all_goals (refine exit_plain rfl ?_)
    all_goals first | rfl | skip
    all_goals exfalso
    all_goals simp_all [bnot]

theorem told_ConfAll (qs : List PV) (h : ArgsOf Try.prog [23, 3, 3] qs) : Ctr Try.prog 7 qs (bv true) [] := by
  obtain ⟨p1, qs, rfl, h1, h⟩ := argsOf_cons h
  obtain ⟨p2, qs, rfl, h2, h⟩ := argsOf_cons h
  obtain ⟨p3, qs, rfl, h3, h⟩ := argsOf_cons h
  obtain rfl := argsOf_nil h
  obtain ⟨c, rfl, _⟩ := arg_Conf h1
  obtain ⟨i, rfl, _⟩ := arg_i h2
  obtain ⟨k, rfl, _⟩ := arg_i h3
  exact l_ConfAll c i k
end Go.Proofs
