/- Contracts of functions: what is compared with itself is the same. -/
import Derived.Test.YtnphfgphajejaaaC9
import Derived.Test.YtnphfgphajejaaaPvS
namespace Go.Proofs
open Go.Pv
set_option maxRecDepth 100000

theorem c_bits (x : Nat) : Ctr Try.prog 236 [.sc (.float .f64 x)] (.sc (.int .u64 x)) [] := by
  refine ctr_extern (e := Go.Extern.MathFloatBits.float64bits) Try.func236 (by kernel_rfl) (by kernel_rfl) (by kernel_rfl) (by kernel_rfl) ?_
  intro w M vs hv
  simp only [RVL, RV] at hv
  obtain ⟨c, r, rfl, rfl, rfl⟩ := hv
  rfl

theorem s_Float (x : Nat) : Ctr Try.prog 241 [.sc (.float .f64 x), .sc (.float .f64 x)] (bv true) [] := by
  refine spec_of_body mixed Try.func241 rfl (by kernel_rfl) (by kernel_rfl) ?_; conv => whnf
  repeat' (first | ((first | (first | (with_reducible refine split_dt (by assumption) ?_) | (with_reducible refine split_df (by assumption) ?_) | (with_reducible refine split_et (by assumption) ?_) | (with_reducible refine split_ef (by assumption) ?_) | (with_reducible refine split_bt (by assumption) ?_) | (with_reducible refine split_bf (by assumption) ?_) | (with_reducible refine split_nt (by assumption) ?_) | (with_reducible refine split_nf (by assumption) ?_) | (with_reducible refine split_t (by assumption) ?_) | (with_reducible refine split_f (by assumption) ?_)) | (first | (with_reducible refine split_dec (fun h => ?_) (fun h => ?_)) | (with_reducible refine split_beq (fun h => ?_) (fun h => ?_)) | (with_reducible refine split_bne (fun h => ?_) (fun h => ?_)) | (with_reducible refine split_not (fun h => ?_) (fun h => ?_)) | (with_reducible refine split_beqS (fun h => ?_) (fun h => ?_)) | (with_reducible refine split_intro (fun h => ?_) (fun h => ?_)))) <;> conv => whnf) | ((try ((refine Exists.intro none ?_); (conv => whnf))); first | ((with_reducible refine call_by (c_bits x) ?_); conv => whnf)))
  all_goals (refine exit_plain rfl ?_)
  all_goals first | rfl | simp_all
theorem s_Value (x : VVal) : Ctr Try.prog 229 [.ag x.enc, .ag x.enc] (bv true) [] := by
  refine spec_of_body mixed Try.func229 rfl (by kernel_rfl) (by kernel_rfl) ?_; conv => whnf
  repeat' (first | ((first | (with_reducible refine split_et rfl ?_) | (with_reducible refine split_bf rfl ?_) | (with_reducible refine split_t (beq_self_eq_true _) ?_) | (with_reducible refine split_f (bne_self_eq_false _) ?_)); conv => whnf) | ((try ((refine Exists.intro none ?_); (conv => whnf))); first | ((with_reducible refine call_by (s_Float x.num) ?_); conv => whnf)))
  exact exit_plain rfl (by simp)
theorem s_Cmd (x : VCmd) : Ctr Try.prog 204 [.ag x.enc, .ag x.enc] (bv true) [] := by
  refine spec_of_body mixed Try.func204 rfl (by kernel_rfl) (by kernel_rfl) ?_; conv => whnf
  repeat' (first | ((first | (with_reducible refine split_et rfl ?_) | (with_reducible refine split_bf rfl ?_) | (with_reducible refine split_t (beq_self_eq_true _) ?_) | (with_reducible refine split_f (bne_self_eq_false _) ?_)); conv => whnf) | ((try ((refine Exists.intro none ?_); (conv => whnf))); first | ((with_reducible refine call_by (s_Value x.old) ?_); conv => whnf) | ((with_reducible refine call_by (s_Value x.val) ?_); conv => whnf)))
  exact exit_plain rfl (by simp)
theorem s_Call (x : VCall) : Ctr Try.prog 116 [.ag x.enc, .ag x.enc] (bv true) [] := by
  refine spec_of_body mixed Try.func116 rfl (by kernel_rfl) (by kernel_rfl) ?_; conv => whnf
  repeat' (first | ((first | (with_reducible refine split_et rfl ?_) | (with_reducible refine split_bf rfl ?_) | (with_reducible refine split_t (beq_self_eq_true _) ?_) | (with_reducible refine split_f (bne_self_eq_false _) ?_)); conv => whnf) | ((try ((refine Exists.intro none ?_); (conv => whnf))); first | ((with_reducible refine call_by (s_Cmd x.cmd) ?_); conv => whnf)))
  exact exit_plain rfl (by simp)
theorem s_Conf (a : Conf) : Ctr Try.prog 56 [.ag a.enc, .ag a.enc] (bv true) [] := by
  refine spec_of_body mixed Try.func56 rfl (by kernel_rfl) (by kernel_rfl) ?_; conv => whnf
  repeat' ((first | (with_reducible refine split_et rfl ?_) | (with_reducible refine split_bf rfl ?_) | (with_reducible refine split_t (beq_self_eq_true _) ?_) | (with_reducible refine split_f (bne_self_eq_false _) ?_)); conv => whnf)
  exact exit_plain rfl (by simp)
theorem s_Entry (x : Ent) : Ctr Try.prog 92 [.ag x.enc, .ag x.enc] (bv true) [] := by
  refine spec_of_body mixed Try.func92 rfl (by kernel_rfl) (by kernel_rfl) ?_; conv => whnf
  repeat' (first | ((first | (with_reducible refine split_et rfl ?_) | (with_reducible refine split_bf rfl ?_) | (with_reducible refine split_t (beq_self_eq_true _) ?_) | (with_reducible refine split_f (bne_self_eq_false _) ?_)); conv => whnf) | ((try ((refine Exists.intro none ?_); (conv => whnf))); first | ((with_reducible refine call_by (s_Call x.call) ?_); conv => whnf) | ((with_reducible refine call_by (s_Conf x.conf) ?_); conv => whnf)))
  exact exit_plain rfl (by simp)
theorem s_nodes (x : Arr) : Ctr Try.prog 172 [.ag x.enc, .ag x.enc] (bv true) [] := by
  refine spec_of_body mixed Try.func172 rfl (by kernel_rfl) (by kernel_rfl) ?_; conv => whnf
  refine tri_rounds mixed (by kernel_rfl) 8 ?_
  conv => whnf
  repeat' (first | ((first | (with_reducible refine split_et rfl ?_) | (with_reducible refine split_bf rfl ?_) | (with_reducible refine split_t (beq_self_eq_true _) ?_) | (with_reducible refine split_f (bne_self_eq_false _) ?_)); conv => whnf) | ((with_reducible refine And.intro (And.intro (by first | decide | omega) (by first | decide | omega)) ?_); conv => whnf))
  exact exit_plain rfl rfl

theorem s_Entries (l : List Ent) (hm : l.length ≤ maxLen) : Ctr Try.prog 126 [.sl 16 (l.map Ent.enc), .sl 16 (l.map Ent.enc)] (bv true) [] := by
  have hm' : l.length ≤ 9223372036854775807 := Nat.le_trans hm (by decide)
  refine spec_of_body mixed Try.func126 rfl (by kernel_rfl) (by kernel_rfl) ?_; conv => whnf
  ((first | (with_reducible refine split_et rfl ?_) | (with_reducible refine split_bf rfl ?_) | (with_reducible refine split_t (beq_self_eq_true _) ?_) | (with_reducible refine split_f (bne_self_eq_false _) ?_)); conv => whnf)
  refine tri_for0 mixed (by kernel_rfl) (fun i : Nat => i ≤ l.length) (fun i => [(5, iv i)]) [] (fun i => l.length - i) 0 (Nat.zero_le _) ?_ ?_
  · conv => whnf
    (refine And.intro (And.intro (by with_unfolding_all rfl) (by intro q h; cases h)) ?_; refine And.intro ?_ (And.intro ?_ ?_) <;> (conv => whnf) <;> (repeat' (first | exact True.intro | (with_reducible exact rfl) | exact (rfl : List.replicate 0 PV.bad = []) | ((with_reducible refine And.intro ?_ ?_) <;> (first | (with_reducible exact wkV_same _ rfl) | exact wkV_pt rfl rfl | exact wkV_ow rfl rfl rfl | (refine wkV_ow rfl rfl ?_) | (refine wkV_sc (congrArg (Value.int .i64) ?_)) | (refine wkV_sc (congrArg Value.bool ?_)) | exact wkV_ls rfl | ((refine wkV_cl ?_); conv => whnf) | ((refine wkV_tu ?_); conv => whnf) | ((refine wkV_ag ?_); conv => whnf) | (conv => whnf))))))
    all_goals rfl
  intro i hi
  conv => whnf
  ((first | (with_reducible refine split_dec (fun h => ?_) (fun h => ?_)) | (with_reducible refine split_beq (fun h => ?_) (fun h => ?_)) | (with_reducible refine split_bne (fun h => ?_) (fun h => ?_)) | (with_reducible refine split_not (fun h => ?_) (fun h => ?_)) | (with_reducible refine split_beqS (fun h => ?_) (fun h => ?_)) | (with_reducible refine split_intro (fun h => ?_) (fun h => ?_))) <;> conv => whnf)
  · simp only [List.length_map] at h
    have hlt : i < l.length := by omega
    refine ⟨by omega, _, row_at hlt, ?_⟩
    conv => whnf
    refine ⟨by omega, _, row_at hlt, ?_⟩
    conv => whnf
    ((try ((refine Exists.intro none ?_); (conv => whnf))); first | ((with_reducible refine call_by (s_Entry (l[i]'hlt)) ?_); conv => whnf))
    refine ⟨i + 1, ⟨by omega, by omega⟩, ?_⟩
    conv => whnf
    (refine And.intro (And.intro (by with_unfolding_all rfl) (by intro q h; cases h)) ?_; refine And.intro ?_ (And.intro ?_ ?_) <;> (conv => whnf) <;> (repeat' (first | exact True.intro | (with_reducible exact rfl) | exact (rfl : List.replicate 0 PV.bad = []) | ((with_reducible refine And.intro ?_ ?_) <;> (first | (with_reducible exact wkV_same _ rfl) | exact wkV_pt rfl rfl | exact wkV_ow rfl rfl rfl | (refine wkV_ow rfl rfl ?_) | (refine wkV_sc (congrArg (Value.int .i64) ?_)) | (refine wkV_sc (congrArg Value.bool ?_)) | exact wkV_ls rfl | ((refine wkV_cl ?_); conv => whnf) | ((refine wkV_tu ?_); conv => whnf) | ((refine wkV_ag ?_); conv => whnf) | (conv => whnf))))))
    exact w1 (by omega)
  · exact exit_plain rfl rfl
theorem s_Bytes (l : List Int) (hm : l.length ≤ maxLen) : Ctr Try.prog 136 [.sl 1 (l.map encB), .sl 1 (l.map encB)] (bv true) [] := by
  have hm' : l.length ≤ 9223372036854775807 := Nat.le_trans hm (by decide)
  refine spec_of_body mixed Try.func136 rfl (by kernel_rfl) (by kernel_rfl) ?_; conv => whnf
  ((first | (with_reducible refine split_et rfl ?_) | (with_reducible refine split_bf rfl ?_) | (with_reducible refine split_t (beq_self_eq_true _) ?_) | (with_reducible refine split_f (bne_self_eq_false _) ?_)); conv => whnf)
  refine tri_for0 mixed (by kernel_rfl) (fun i : Nat => i ≤ l.length) (fun i => [(5, iv i)]) [] (fun i => l.length - i) 0 (Nat.zero_le _) ?_ ?_
  · conv => whnf
    (refine And.intro (And.intro (by with_unfolding_all rfl) (by intro q h; cases h)) ?_; refine And.intro ?_ (And.intro ?_ ?_) <;> (conv => whnf) <;> (repeat' (first | exact True.intro | (with_reducible exact rfl) | exact (rfl : List.replicate 0 PV.bad = []) | ((with_reducible refine And.intro ?_ ?_) <;> (first | (with_reducible exact wkV_same _ rfl) | exact wkV_pt rfl rfl | exact wkV_ow rfl rfl rfl | (refine wkV_ow rfl rfl ?_) | (refine wkV_sc (congrArg (Value.int .i64) ?_)) | (refine wkV_sc (congrArg Value.bool ?_)) | exact wkV_ls rfl | ((refine wkV_cl ?_); conv => whnf) | ((refine wkV_tu ?_); conv => whnf) | ((refine wkV_ag ?_); conv => whnf) | (conv => whnf))))))
    all_goals rfl
  intro i hi
  conv => whnf
  ((first | (with_reducible refine split_dec (fun h => ?_) (fun h => ?_)) | (with_reducible refine split_beq (fun h => ?_) (fun h => ?_)) | (with_reducible refine split_bne (fun h => ?_) (fun h => ?_)) | (with_reducible refine split_not (fun h => ?_) (fun h => ?_)) | (with_reducible refine split_beqS (fun h => ?_) (fun h => ?_)) | (with_reducible refine split_intro (fun h => ?_) (fun h => ?_))) <;> conv => whnf)
  · simp only [List.length_map] at h
    have hlt : i < l.length := by omega
    refine ⟨by omega, _, row_at hlt, ?_⟩
    conv => whnf
    refine ⟨by omega, _, row_at hlt, ?_⟩
    conv => whnf
    ((first | (with_reducible refine split_et rfl ?_) | (with_reducible refine split_bf rfl ?_) | (with_reducible refine split_t (beq_self_eq_true _) ?_) | (with_reducible refine split_f (bne_self_eq_false _) ?_)); conv => whnf)
    refine ⟨i + 1, ⟨by omega, by omega⟩, ?_⟩
    conv => whnf
    (refine And.intro (And.intro (by with_unfolding_all rfl) (by intro q h; cases h)) ?_; refine And.intro ?_ (And.intro ?_ ?_) <;> (conv => whnf) <;> (repeat' (first | exact True.intro | (with_reducible exact rfl) | exact (rfl : List.replicate 0 PV.bad = []) | ((with_reducible refine And.intro ?_ ?_) <;> (first | (with_reducible exact wkV_same _ rfl) | exact wkV_pt rfl rfl | exact wkV_ow rfl rfl rfl | (refine wkV_ow rfl rfl ?_) | (refine wkV_sc (congrArg (Value.int .i64) ?_)) | (refine wkV_sc (congrArg Value.bool ?_)) | exact wkV_ls rfl | ((refine wkV_cl ?_); conv => whnf) | ((refine wkV_tu ?_); conv => whnf) | ((refine wkV_ag ?_); conv => whnf) | (conv => whnf))))))
    exact w1 (by omega)
  · exact exit_plain rfl rfl
end Go.Proofs
