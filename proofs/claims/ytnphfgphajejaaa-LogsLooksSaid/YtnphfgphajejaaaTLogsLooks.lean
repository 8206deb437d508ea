import Derived.Test.YtnphfgphajejaaaC50
import Derived.Test.YtnphfgphajejaaaTLogsPuts
set_option linter.unusedSimpArgs false
set_option linter.unusedVariables false
namespace Go.Proofs
open Go.Pv
set_option maxRecDepth 100000

set_option maxHeartbeats 8000000 in
theorem l_LogsLooks (a : Hrd) (hbI : isI a.base) (i : Int) (hi : isI i) (m u t : Int) : Ctr Try.prog 26 [.ag a.enc, iv i, iv m, iv u, iv t] (bv true) [] := by
  refine spec_of_body mixed Try.func26 rfl (by kernel_rfl) (by kernel_rfl) ?_; conv => whnf
  ((try ((refine Exists.intro none ?_); (conv => whnf))); first | ((with_reducible refine call_by (c_Heavy09 a) ?_); conv => whnf))
  ((first | (with_reducible refine split_dec (fun h => ?_) (fun h => ?_)) | (with_reducible refine split_beq (fun h => ?_) (fun h => ?_)) | (with_reducible refine split_bne (fun h => ?_) (fun h => ?_)) | (with_reducible refine split_not (fun h => ?_) (fun h => ?_)) | (with_reducible refine split_beqS (fun h => ?_) (fun h => ?_)) | (with_reducible refine split_intro (fun h => ?_) (fun h => ?_))) <;> conv => whnf)
  · exact exit_plain rfl rfl
  obtain ⟨hal, has⟩ := heavyH_len h
  clear h
  ((try ((refine Exists.intro none ?_); (conv => whnf))); first | ((with_reducible refine call_by (c_looked09 a) ?_); conv => whnf))
  cases hL : lookedB a with
  | false =>
    conv => whnf
    exact exit_plain rfl rfl
  | true =>
  conv => whnf
  simp only [lookedB, decide_eq_true_eq] at hL
  have ma : a.log.length ≤ maxLen := smallM (by omega)
  have mas : a.snap.length ≤ maxLen := smallM (by omega)
  have c0 := c_TwinHardV a (by omega) (by omega)
  have c1 := c_Entry a ma hbI i hi
  have c2 := c_rAt a ma hL.1 (by omega) i hi
  have c3 := c_lCheck a ma
  have c4 := c_rHard a ma
  have c5 := c_Term a ma hbI i hi
  have c6 := c_rTerm a ma hL.1 (by omega) i hi
  have c7 := c_lFrom a (by omega) hbI i hi m
  have c8 := (c_rFrom a (by omega) hL i hi m).frz (wkV_fz (b := false) (List.Mem.head _) rfl)
  have c9 := c_Fits a ma hbI i hi t
  have c10 := c_rFits a ma hL.1 (by omega) i hi t
  have fl := fromL_len a i m
  have cs := s_Entries (fromL a i m) (smallM (by omega))
  have sh := s_Hard a mas ma
  ((try ((refine Exists.intro none ?_); (conv => whnf))); first | ((with_reducible refine call_by (c0) ?_); conv => whnf))
  (refine Exists.intro _ (And.intro rfl (And.intro (by intro q _; simp only [List.length_nil]; omega) (And.intro (by intro i hi; exact absurd hi (Nat.not_lt_zero i)) ?_))); conv => whnf)
  ((try ((refine Exists.intro none ?_); (conv => whnf))); first | ((with_reducible refine call_by (c_Last a ma) ?_); conv => whnf))
  ((try ((refine Exists.intro none ?_); (conv => whnf))); first | ((with_reducible refine call_by (c_rLast a ma) ?_); conv => whnf))
  ((try ((refine Exists.intro none ?_); (conv => whnf))); first | ((with_reducible refine call_by (c1) ?_); conv => whnf))
  ((try ((refine Exists.intro none ?_); (conv => whnf))); first | ((with_reducible refine call_by (c2) ?_); conv => whnf))
  ((try ((refine Exists.intro none ?_); (conv => whnf))); first | ((with_reducible refine call_by (c3) ?_); conv => whnf))
  ((try ((refine Exists.intro none ?_); (conv => whnf))); first | ((with_reducible refine call_by (c4) ?_); conv => whnf))
  cases hB : hardB a
  all_goals (
    conv => whnf
    ((with_reducible refine And.intro (show Try.prog.underlying _ = some .bool by kernel_rfl) ?_); conv => whnf)
    repeat' ((first | (with_reducible refine split_et rfl ?_) | (with_reducible refine split_bf rfl ?_) | (with_reducible refine split_t (beq_self_eq_true _) ?_) | (with_reducible refine split_f (bne_self_eq_false _) ?_)); conv => whnf)
    ((try ((refine Exists.intro none ?_); (conv => whnf))); first | ((with_reducible refine call_by (c5) ?_); conv => whnf))
    ((try ((refine Exists.intro none ?_); (conv => whnf))); first | ((with_reducible refine call_by (c6) ?_); conv => whnf))
    ((first | (with_reducible refine split_et rfl ?_) | (with_reducible refine split_bf rfl ?_) | (with_reducible refine split_t (beq_self_eq_true _) ?_) | (with_reducible refine split_f (bne_self_eq_false _) ?_)); conv => whnf)
    ((try ((refine Exists.intro none ?_); (conv => whnf))); first | ((with_reducible refine call_by (s_Entry ((entAt a i).getD ez)) ?_); conv => whnf))
    ((with_reducible refine And.intro (show Try.prog.underlying _ = some .bool by kernel_rfl) ?_); conv => whnf)
    ((first | (with_reducible refine split_et rfl ?_) | (with_reducible refine split_bf rfl ?_) | (with_reducible refine split_t (beq_self_eq_true _) ?_) | (with_reducible refine split_f (bne_self_eq_false _) ?_)); conv => whnf)
    ((try ((refine Exists.intro none ?_); (conv => whnf))); first | ((with_reducible refine call_by (c_lConf a ma u) ?_); conv => whnf))
    ((try ((refine Exists.intro none ?_); (conv => whnf))); first | ((with_reducible refine call_by (c_Force a ma u) ?_); conv => whnf))
    ((try ((refine Exists.intro none ?_); (conv => whnf))); first | ((with_reducible refine call_by (c7) ?_); conv => whnf))
    (refine Exists.intro _ (And.intro rfl (And.intro (by intro q hq; first | (cases hq; done) | (simp only [List.mem_cons, List.not_mem_nil, or_false] at hq; rcases hq with rfl | rfl <;> (simp only [List.length_cons, List.length_nil]; omega)) | (simp only [List.mem_cons, List.not_mem_nil, or_false] at hq; subst hq; simp only [List.length_cons, List.length_nil]; omega)) (And.intro (by intro i hi; simp only [List.length_cons, List.length_nil, Nat.lt_one_iff, Nat.zero_add] at hi; subst hi; rfl) ?_))); conv => whnf)
    ((try ((refine Exists.intro none ?_); (conv => whnf))); first | ((with_reducible refine call_by (s_Conf (force a u).1) ?_); conv => whnf))
    ((first | (with_reducible refine split_et rfl ?_) | (with_reducible refine split_bf rfl ?_) | (with_reducible refine split_t (beq_self_eq_true _) ?_) | (with_reducible refine split_f (bne_self_eq_false _) ?_)); conv => whnf)
    ((try ((refine Exists.intro none ?_); (conv => whnf))); first | ((with_reducible refine call_by (c8) ?_); conv => whnf))
    (refine Exists.intro _ (And.intro rfl (And.intro (by intro q _; simp only [List.length_nil]; omega) (And.intro (by intro i hi; exact absurd hi (Nat.not_lt_zero i)) ?_))); conv => whnf)
    ((try ((refine Exists.intro none ?_); (conv => whnf))); (first | (with_reducible refine And.intro (Nat.le_of_eq (Nat.zero_add _)) ?_) | (refine And.intro (by simp only [List.length_map, List.length_set, Nat.zero_add]; omega) ?_)); conv => whnf)
    ((try ((refine Exists.intro none ?_); (conv => whnf))); first | (refine call_eq (cs) (by simp only [List.drop_zero, List.take_length]) ?_; conv => whnf))
    ((try ((refine Exists.intro none ?_); (conv => whnf))); first | ((with_reducible refine call_by (c9) ?_); conv => whnf))
    ((try ((refine Exists.intro none ?_); (conv => whnf))); first | ((with_reducible refine call_by (c10) ?_); conv => whnf))
    ((with_reducible refine And.intro (show Try.prog.underlying _ = some .bool by kernel_rfl) ?_); conv => whnf)
    ((first | (with_reducible refine split_et rfl ?_) | (with_reducible refine split_bf rfl ?_) | (with_reducible refine split_t (beq_self_eq_true _) ?_) | (with_reducible refine split_f (bne_self_eq_false _) ?_)); conv => whnf)
    ((try ((refine Exists.intro none ?_); (conv => whnf))); first | ((with_reducible refine call_by (c_Newer a ma i t) ?_); conv => whnf))
    ((try ((refine Exists.intro none ?_); (conv => whnf))); first | ((with_reducible refine call_by (c_rNewer a ma i t) ?_); conv => whnf))
    ((with_reducible refine And.intro (show Try.prog.underlying _ = some .bool by kernel_rfl) ?_); conv => whnf)
    ((first | (with_reducible refine split_et rfl ?_) | (with_reducible refine split_bf rfl ?_) | (with_reducible refine split_t (beq_self_eq_true _) ?_) | (with_reducible refine split_f (bne_self_eq_false _) ?_)); conv => whnf)
    ((refine Exists.intro (some ([], [(1000000, 1712)], [])) ?_); (conv => whnf); first | ((with_reducible refine callE_by (c_SpoilEntries (fromL a i m) (by omega)) ?_); conv => whnf))
    ((try ((refine Exists.intro none ?_); (conv => whnf))); first | ((with_reducible refine call_by (sh) ?_); conv => whnf))
    ((try ((refine Exists.intro none ?_); (conv => whnf))); first | ((with_reducible refine call_by (c_wakes09) ?_); conv => whnf))
    exact exit_plain rfl rfl)

theorem told_LogsLooks (qs : List PV) (h : ArgsOf Try.prog [32, 3, 3, 3, 3] qs) : Ctr Try.prog 26 qs (bv true) [] := by
  obtain ⟨p1, qs, rfl, h1, h⟩ := argsOf_cons h
  obtain ⟨p2, qs, rfl, h2, h⟩ := argsOf_cons h
  obtain ⟨p3, qs, rfl, h3, h⟩ := argsOf_cons h
  obtain ⟨p4, qs, rfl, h4, h⟩ := argsOf_cons h
  obtain ⟨p5, qs, rfl, h5, h⟩ := argsOf_cons h
  obtain rfl := argsOf_nil h
  obtain ⟨a, rfl, ha⟩ := arg_Hrd h1
  obtain ⟨i, rfl, hi⟩ := arg_i h2
  obtain ⟨m, rfl, _⟩ := arg_i h3
  obtain ⟨u, rfl, _⟩ := arg_i h4
  obtain ⟨t, rfl, _⟩ := arg_i h5
  exact l_LogsLooks a ha.2.2.1 i hi m u t
end Go.Proofs
