import Derived.Test.YtnphfgphajejaaaC56
import Derived.Test.YtnphfgphajejaaaTLogsPuts
set_option linter.unusedSimpArgs false
set_option linter.unusedVariables false
namespace Go.Proofs
open Go.Pv
set_option maxRecDepth 100000

set_option maxHeartbeats 4000000 in
theorem l_GrowTwice (a : Hrd) (hbI : isI a.base) (c : Int) (m : Mg) (hm : m.ok) : Ctr Try.prog 31 [.ag a.enc, iv c, .ag m.enc] (bv true) [] := by
  refine spec_of_body mixed Try.func31 rfl (by kernel_rfl) (by kernel_rfl) ?_; conv => whnf
  ((try ((refine Exists.intro none ?_); (conv => whnf))); first | ((with_reducible refine call_by (c_Heavy09 a) ?_); conv => whnf))
  ((first | (with_reducible refine split_dec (fun h => ?_) (fun h => ?_)) | (with_reducible refine split_beq (fun h => ?_) (fun h => ?_)) | (with_reducible refine split_bne (fun h => ?_) (fun h => ?_)) | (with_reducible refine split_not (fun h => ?_) (fun h => ?_)) | (with_reducible refine split_beqS (fun h => ?_) (fun h => ?_)) | (with_reducible refine split_intro (fun h => ?_) (fun h => ?_))) <;> conv => whnf)
  · exact exit_plain rfl rfl
  obtain ⟨hal, has⟩ := heavyH_len h
  clear h
  ((try ((refine Exists.intro none ?_); (conv => whnf))); first | ((with_reducible refine call_by (c_HeavyMsg m hm) ?_); conv => whnf))
  ((first | (with_reducible refine split_dec (fun h => ?_) (fun h => ?_)) | (with_reducible refine split_beq (fun h => ?_) (fun h => ?_)) | (with_reducible refine split_bne (fun h => ?_) (fun h => ?_)) | (with_reducible refine split_not (fun h => ?_) (fun h => ?_)) | (with_reducible refine split_beqS (fun h => ?_) (fun h => ?_)) | (with_reducible refine split_intro (fun h => ?_) (fun h => ?_))) <;> conv => whnf)
  · exact exit_plain rfl rfl
  obtain ⟨⟨hml, _⟩, _⟩ := heavyM_len h
  clear h
  have k1 := c_growV a (by omega) (by omega) hbI c m (by omega)
  by_cases e : growE a c m = 0
  · rw [(resG_ok e).2.2] at k1
    obtain ⟨q1, q2, q3, q4⟩ := grow_commits (by omega) e
    obtain ⟨g1, g2⟩ := grow_again (by omega) e
    have hxl := grow_len (by omega) e
    have hb0 := (hardB_A (growE_hard e).1).1.b
    have hcl := (growE_hard e).2.1.2
    rw [hard_last (growE_hard e).1 (by omega)] at hcl
    have hst := fun (j : Nat) (hj : a.base + 1 + j ≤ c) => grow_stays (h := a) (c := c) (m := m) (by omega) e hj
    have hsn : (growO a c m).h.snap = a.snap := grow_snap e
    have hxb : (growO a c m).h.base = a.base := grow_base e
    generalize growO a c m = o at *
    obtain ⟨x, d, yes, i⟩ := o
    simp only at k1 q1 q2 q3 q4 hxl g1 g2 hst hsn hxb
    have k2 := c_growV x (by rw [hsn]; omega) (by omega) (by rw [hxb]; exact hbI) d m (by omega)
    rw [(resG_ok g1).2.2, g2] at k2
    have ks := s_Hard x (smallM (by rw [hsn]; omega)) (smallM (by omega))
    ((try ((refine Exists.intro none ?_); (conv => whnf))); first | ((with_reducible refine call_by (k1) ?_); conv => whnf))
    (refine Exists.intro _ (And.intro rfl (And.intro (by intro q _; simp only [List.length_nil]; omega) (And.intro (by intro i hi; exact absurd hi (Nat.not_lt_zero i)) ?_))); conv => whnf)
    ((try ((refine Exists.intro none ?_); (conv => whnf))); first | ((with_reducible refine call_by (k2) ?_); conv => whnf))
    (refine Exists.intro _ (And.intro rfl (And.intro (by intro q _; simp only [List.length_nil]; omega) (And.intro (by intro i hi; exact absurd hi (Nat.not_lt_zero i)) ?_))); conv => whnf)
    ((try ((refine Exists.intro none ?_); (conv => whnf))); first | ((with_reducible refine call_by (ks) ?_); conv => whnf))
    ((first | (with_reducible refine split_et rfl ?_) | (with_reducible refine split_bf rfl ?_) | (with_reducible refine split_t (beq_self_eq_true _) ?_) | (with_reducible refine split_f (bne_self_eq_false _) ?_)); conv => whnf)
    ((try ((refine Exists.intro none ?_); (conv => whnf))); first | ((with_reducible refine call_by (s_ans yes i) ?_); conv => whnf))
    ((first | (with_reducible refine split_dec (fun h => ?_) (fun h => ?_)) | (with_reducible refine split_beq (fun h => ?_) (fun h => ?_)) | (with_reducible refine split_bne (fun h => ?_) (fun h => ?_)) | (with_reducible refine split_not (fun h => ?_) (fun h => ?_)) | (with_reducible refine split_beqS (fun h => ?_) (fun h => ?_)) | (with_reducible refine split_intro (fun h => ?_) (fun h => ?_))) <;> conv => whnf)
    · exfalso; omega
    clear h
    have e1 : IntKind.i64.wrap (a.base + 1) = a.base + 1 := wrap_id (by omega) (by omega)
    rw [e1]
    refine tri_for0 mixed (by kernel_rfl) (fun j : Nat => j ≤ (c - a.base).toNat) (fun j => [(14, iv (a.base + 1 + (j : Int)))]) [] (fun j => (c - a.base).toNat - j) 0 (Nat.zero_le _) ?_ ?_
    · conv => whnf
      (refine And.intro (And.intro (by with_unfolding_all rfl) (by intro q h; cases h)) ?_; refine And.intro ?_ (And.intro ?_ ?_) <;> (conv => whnf) <;> (repeat' (first | exact True.intro | (with_reducible exact rfl) | exact (rfl : List.replicate 0 PV.bad = []) | ((with_reducible refine And.intro ?_ ?_) <;> (first | (with_reducible exact wkV_same _ rfl) | exact wkV_pt rfl rfl | exact wkV_ow rfl rfl rfl | (refine wkV_ow rfl rfl ?_) | (refine wkV_sc (congrArg (Value.int .i64) ?_)) | (refine wkV_sc (congrArg Value.bool ?_)) | exact wkV_ls rfl | ((refine wkV_cl ?_); conv => whnf) | ((refine wkV_tu ?_); conv => whnf) | ((refine wkV_ag ?_); conv => whnf) | (conv => whnf))))))
      all_goals first | rfl | (show a.base + 1 = a.base + 1 + ((0 : Nat) : Int); omega) | (show iv (a.base + 1) = iv (a.base + 1 + ((0 : Nat) : Int)); congr 2; omega)
    intro j hj
    conv => whnf
    ((first | (with_reducible refine split_dec (fun h => ?_) (fun h => ?_)) | (with_reducible refine split_beq (fun h => ?_) (fun h => ?_)) | (with_reducible refine split_bne (fun h => ?_) (fun h => ?_)) | (with_reducible refine split_not (fun h => ?_) (fun h => ?_)) | (with_reducible refine split_beqS (fun h => ?_) (fun h => ?_)) | (with_reducible refine split_intro (fun h => ?_) (fun h => ?_))) <;> conv => whnf)
    · have iI : isI (a.base + 1 + (j : Int)) := by unfold isI; omega
      obtain ⟨_, y, hy1, hy2⟩ := hst j h
      have c1 := c_rAt a (smallM (by omega)) (by omega) (by omega) (a.base + 1 + (j : Int)) iI
      have c2 := c_rAt x (smallM (by omega)) (by omega) (by omega) (a.base + 1 + (j : Int)) iI
      rw [entAt_nat (m := j) rfl, hy1] at c1
      rw [entAt_nat (m := j) (by omega), hy2] at c2
      simp only [Option.getD_some, Option.isSome_some] at c1 c2
      ((try ((refine Exists.intro none ?_); (conv => whnf))); first | ((with_reducible refine call_by (c1) ?_); conv => whnf))
      ((try ((refine Exists.intro none ?_); (conv => whnf))); first | ((with_reducible refine call_by (c2) ?_); conv => whnf))
      ((try ((refine Exists.intro none ?_); (conv => whnf))); first | ((with_reducible refine call_by (s_Entry y) ?_); conv => whnf))
      refine ⟨j + 1, ⟨by omega, by omega⟩, ?_⟩
      conv => whnf
      (refine And.intro (And.intro (by with_unfolding_all rfl) (by intro q h; cases h)) ?_; refine And.intro ?_ (And.intro ?_ ?_) <;> (conv => whnf) <;> (repeat' (first | exact True.intro | (with_reducible exact rfl) | exact (rfl : List.replicate 0 PV.bad = []) | ((with_reducible refine And.intro ?_ ?_) <;> (first | (with_reducible exact wkV_same _ rfl) | exact wkV_pt rfl rfl | exact wkV_ow rfl rfl rfl | (refine wkV_ow rfl rfl ?_) | (refine wkV_sc (congrArg (Value.int .i64) ?_)) | (refine wkV_sc (congrArg Value.bool ?_)) | exact wkV_ls rfl | ((refine wkV_cl ?_); conv => whnf) | ((refine wkV_tu ?_); conv => whnf) | ((refine wkV_ag ?_); conv => whnf) | (conv => whnf))))))
      all_goals first | rfl | (rw [show IntKind.i64.wrap (a.base + 1 + (j : Int) + 1) = a.base + 1 + ((j + 1 : Nat) : Int) from by rw [wrap_id (by omega) (by omega)]; omega])
    · ((try ((refine Exists.intro none ?_); (conv => whnf))); first | ((with_reducible refine call_by (c_wakes16) ?_); conv => whnf))
      exact exit_plain rfl rfl
  · rw [(resG_no e).2.2] at k1
    ((try ((refine Exists.intro none ?_); (conv => whnf))); first | ((with_reducible refine call_by (k1) ?_); conv => whnf))
    repeat' (first | (exfalso; omega) | exact exit_plain rfl rfl | ((first | (with_reducible refine split_et rfl ?_) | (with_reducible refine split_bf rfl ?_) | (with_reducible refine split_t (beq_self_eq_true _) ?_) | (with_reducible refine split_f (bne_self_eq_false _) ?_)); conv => whnf) | ((try ((refine Exists.intro none ?_); (conv => whnf))); first | ((with_reducible refine call_by (c_wakes16) ?_); conv => whnf)) | ((first | (with_reducible refine split_dec (fun h => ?_) (fun h => ?_)) | (with_reducible refine split_beq (fun h => ?_) (fun h => ?_)) | (with_reducible refine split_bne (fun h => ?_) (fun h => ?_)) | (with_reducible refine split_not (fun h => ?_) (fun h => ?_)) | (with_reducible refine split_beqS (fun h => ?_) (fun h => ?_)) | (with_reducible refine split_intro (fun h => ?_) (fun h => ?_))) <;> conv => whnf))

theorem told_GrowTwice (qs : List PV) (h : ArgsOf Try.prog [32, 3, 39] qs) : Ctr Try.prog 31 qs (bv true) [] := by
  obtain ⟨p1, qs, rfl, h1, h⟩ := argsOf_cons h
  obtain ⟨p2, qs, rfl, h2, h⟩ := argsOf_cons h
  obtain ⟨p3, qs, rfl, h3, h⟩ := argsOf_cons h
  obtain rfl := argsOf_nil h
  obtain ⟨a, rfl, ha⟩ := arg_Hrd h1
  obtain ⟨c, rfl, _⟩ := arg_i h2
  obtain ⟨m, rfl, hm⟩ := arg_Mg h3
  exact l_GrowTwice a ha.2.2.1 c m hm
end Go.Proofs
