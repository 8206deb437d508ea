import Derived.Test.YtbhfokahocgndaaGreatC6
import Derived.Test.YtbhfokahocgndaaGreatPvN
/- Contracts of functions: what is compared with itself is the same. -/
set_option linter.unusedSimpArgs false
set_option linter.unusedVariables false
namespace Go.Proofs
open Go.Pv
set_option maxRecDepth 100000

theorem c_bits (x : Nat) : Ctr Tryz.prog 154 [.sc (.float .f64 x)] (.sc (.int .u64 x)) [] := by
  refine ctr_extern (e := Go.Extern.MathFloatBits.float64bits) Tryz.func154 (by kernel_rfl) (by kernel_rfl) (by kernel_rfl) (by kernel_rfl) ?_
  intro w M vs hv
  simp only [RVL, RV] at hv
  obtain ⟨c, r, rfl, rfl, rfl⟩ := hv
  rfl

theorem s_Float (x : Nat) : Ctr Tryz.prog 158 [.sc (.float .f64 x), .sc (.float .f64 x)] (bv true) [] := by
  refine spec_of_body mixed Tryz.func158 rfl (by kernel_rfl) (by kernel_rfl) ?_; conv => whnf
  repeat' (first | ((first | (first | (with_reducible refine split_dt (by assumption) ?_) | (with_reducible refine split_df (by assumption) ?_) | (with_reducible refine split_et (by assumption) ?_) | (with_reducible refine split_ef (by assumption) ?_) | (with_reducible refine split_bt (by assumption) ?_) | (with_reducible refine split_bf (by assumption) ?_) | (with_reducible refine split_nt (by assumption) ?_) | (with_reducible refine split_nf (by assumption) ?_) | (with_reducible refine split_t (by assumption) ?_) | (with_reducible refine split_f (by assumption) ?_)) | (first | (with_reducible refine split_dec (fun h => ?_) (fun h => ?_)) | (with_reducible refine split_beq (fun h => ?_) (fun h => ?_)) | (with_reducible refine split_bne (fun h => ?_) (fun h => ?_)) | (with_reducible refine split_not (fun h => ?_) (fun h => ?_)) | (with_reducible refine split_beqS (fun h => ?_) (fun h => ?_)) | (with_reducible refine split_intro (fun h => ?_) (fun h => ?_)))) <;> conv => whnf) | ((try ((refine Exists.intro none ?_); (conv => whnf))); first | ((with_reducible refine call_by (c_bits x) ?_); conv => whnf)))
  all_goals (refine exit_plain rfl ?_)
  all_goals first | rfl | simp_all
theorem s_Value (x : VVal) : Ctr Tryz.prog 141 [.ag x.enc, .ag x.enc] (bv true) [] := by
  refine spec_of_body mixed Tryz.func141 rfl (by kernel_rfl) (by kernel_rfl) ?_; conv => whnf
  repeat' (first | ((first | (with_reducible refine split_et rfl ?_) | (with_reducible refine split_bf rfl ?_) | (with_reducible refine split_t (beq_self_eq_true _) ?_) | (with_reducible refine split_f (bne_self_eq_false _) ?_)); conv => whnf) | ((try ((refine Exists.intro none ?_); (conv => whnf))); first | ((with_reducible refine call_by (s_Float x.num) ?_); conv => whnf)))
  exact exit_plain rfl (by simp)
theorem s_Cmd (x : VCmd) : Ctr Tryz.prog 107 [.ag x.enc, .ag x.enc] (bv true) [] := by
  refine spec_of_body mixed Tryz.func107 rfl (by kernel_rfl) (by kernel_rfl) ?_; conv => whnf
  repeat' (first | ((first | (with_reducible refine split_et rfl ?_) | (with_reducible refine split_bf rfl ?_) | (with_reducible refine split_t (beq_self_eq_true _) ?_) | (with_reducible refine split_f (bne_self_eq_false _) ?_)); conv => whnf) | ((try ((refine Exists.intro none ?_); (conv => whnf))); first | ((with_reducible refine call_by (s_Value x.old) ?_); conv => whnf) | ((with_reducible refine call_by (s_Value x.val) ?_); conv => whnf)))
  exact exit_plain rfl (by simp)
theorem s_Call (x : VCall) : Ctr Tryz.prog 63 [.ag x.enc, .ag x.enc] (bv true) [] := by
  refine spec_of_body mixed Tryz.func63 rfl (by kernel_rfl) (by kernel_rfl) ?_; conv => whnf
  repeat' (first | ((first | (with_reducible refine split_et rfl ?_) | (with_reducible refine split_bf rfl ?_) | (with_reducible refine split_t (beq_self_eq_true _) ?_) | (with_reducible refine split_f (bne_self_eq_false _) ?_)); conv => whnf) | ((try ((refine Exists.intro none ?_); (conv => whnf))); first | ((with_reducible refine call_by (s_Cmd x.cmd) ?_); conv => whnf)))
  exact exit_plain rfl (by simp)
theorem s_Conf (a : Conf) : Ctr Tryz.prog 55 [.ag a.enc, .ag a.enc] (bv true) [] := by
  refine spec_of_body mixed Tryz.func55 rfl (by kernel_rfl) (by kernel_rfl) ?_; conv => whnf
  repeat' ((first | (with_reducible refine split_et rfl ?_) | (with_reducible refine split_bf rfl ?_) | (with_reducible refine split_t (beq_self_eq_true _) ?_) | (with_reducible refine split_f (bne_self_eq_false _) ?_)); conv => whnf)
  exact exit_plain rfl (by simp)
theorem s_Entry (x : Ent) : Ctr Tryz.prog 80 [.ag x.enc, .ag x.enc] (bv true) [] := by
  refine spec_of_body mixed Tryz.func80 rfl (by kernel_rfl) (by kernel_rfl) ?_; conv => whnf
  repeat' (first | ((first | (with_reducible refine split_et rfl ?_) | (with_reducible refine split_bf rfl ?_) | (with_reducible refine split_t (beq_self_eq_true _) ?_) | (with_reducible refine split_f (bne_self_eq_false _) ?_)); conv => whnf) | ((try ((refine Exists.intro none ?_); (conv => whnf))); first | ((with_reducible refine call_by (s_Call x.call) ?_); conv => whnf) | ((with_reducible refine call_by (s_Conf x.conf) ?_); conv => whnf)))
  exact exit_plain rfl (by simp)
theorem s_nodes (x : Arr) : Ctr Tryz.prog 47 [.ag x.enc, .ag x.enc] (bv true) [] := by
  refine spec_of_body mixed Tryz.func47 rfl (by kernel_rfl) (by kernel_rfl) ?_; conv => whnf
  refine tri_rounds mixed (by kernel_rfl) 8 ?_
  conv => whnf
  repeat' (first | ((first | (with_reducible refine split_et rfl ?_) | (with_reducible refine split_bf rfl ?_) | (with_reducible refine split_t (beq_self_eq_true _) ?_) | (with_reducible refine split_f (bne_self_eq_false _) ?_)); conv => whnf) | ((with_reducible refine And.intro (And.intro (by first | decide | omega) (by first | decide | omega)) ?_); conv => whnf))
  exact exit_plain rfl rfl

theorem s_Entries (l : List Ent) (hm : l.length ≤ maxLen) : Ctr Tryz.prog 31 [.sl 16 (l.map Ent.enc), .sl 16 (l.map Ent.enc)] (bv true) [] := by
  have hm' : l.length ≤ 9223372036854775807 := Nat.le_trans hm (by decide)
  refine spec_of_body mixed Tryz.func31 rfl (by kernel_rfl) (by kernel_rfl) ?_; conv => whnf
  ((first | (with_reducible refine split_et rfl ?_) | (with_reducible refine split_bf rfl ?_) | (with_reducible refine split_t (beq_self_eq_true _) ?_) | (with_reducible refine split_f (bne_self_eq_false _) ?_)); conv => whnf)
  refine tri_for0 mixed (by kernel_rfl) (fun i : Nat => i ≤ l.length) (fun i => [(5, iv i)]) [] (fun i => l.length - i) 0 (Nat.zero_le _) ?_ ?_
  · conv => whnf
    (refine And.intro (And.intro (by with_unfolding_all rfl) (by intro q h; cases h)) ?_; refine And.intro ?_ (And.intro ?_ ?_) <;> (conv => whnf) <;> (repeat' (first | exact True.intro | (with_reducible exact rfl) | exact (rfl : List.replicate 0 PV.bad = []) | ((with_reducible refine And.intro ?_ ?_) <;> (first | (with_reducible exact wkV_same _ rfl) | exact wkV_pt rfl rfl | exact wkV_ow rfl rfl rfl | (refine wkV_ow rfl rfl ?_) | (refine wkV_sc (congrArg (Value.int .i64) ?_)) | (refine wkV_sc (congrArg Value.bool ?_)) | exact wkV_ls rfl | ((refine wkV_cl ?_); conv => whnf) | ((refine wkV_tu ?_); conv => whnf) | ((refine wkV_ag ?_); conv => whnf) | (conv => whnf))))))
    all_goals rfl
  intro i hi
  conv => whnf
  ((first | (with_reducible refine split_dec (fun h => ?_) (fun h => ?_)) | (with_reducible refine split_beq (fun h => ?_) (fun h => ?_)) | (with_reducible refine split_bne (fun h => ?_) (fun h => ?_)) | (with_reducible refine split_not (fun h => ?_) (fun h => ?_)) | (with_reducible refine split_beqS (fun h => ?_) (fun h => ?_)) | (with_reducible refine split_intro (fun h => ?_) (fun h => ?_))) <;> conv => whnf)
  · simp only [List.length_map] at h
    have hlt : i < l.length := by omega
    refine ⟨by omega, _, row_at hlt, ?_⟩
    conv => whnf
    refine ⟨by omega, _, row_at hlt, ?_⟩
    conv => whnf
    ((try ((refine Exists.intro none ?_); (conv => whnf))); first | ((with_reducible refine call_by (s_Entry (l[i]'hlt)) ?_); conv => whnf))
    refine ⟨i + 1, ⟨by omega, by omega⟩, ?_⟩
    conv => whnf
    (refine And.intro (And.intro (by with_unfolding_all rfl) (by intro q h; cases h)) ?_; refine And.intro ?_ (And.intro ?_ ?_) <;> (conv => whnf) <;> (repeat' (first | exact True.intro | (with_reducible exact rfl) | exact (rfl : List.replicate 0 PV.bad = []) | ((with_reducible refine And.intro ?_ ?_) <;> (first | (with_reducible exact wkV_same _ rfl) | exact wkV_pt rfl rfl | exact wkV_ow rfl rfl rfl | (refine wkV_ow rfl rfl ?_) | (refine wkV_sc (congrArg (Value.int .i64) ?_)) | (refine wkV_sc (congrArg Value.bool ?_)) | exact wkV_ls rfl | ((refine wkV_cl ?_); conv => whnf) | ((refine wkV_tu ?_); conv => whnf) | ((refine wkV_ag ?_); conv => whnf) | (conv => whnf))))))
    exact w1 (by omega)
  · exact exit_plain rfl rfl
theorem s_Bytes (l : List Int) (hm : l.length ≤ maxLen) : Ctr Tryz.prog 92 [.sl 1 (l.map encB), .sl 1 (l.map encB)] (bv true) [] := by
  have hm' : l.length ≤ 9223372036854775807 := Nat.le_trans hm (by decide)
  refine spec_of_body mixed Tryz.func92 rfl (by kernel_rfl) (by kernel_rfl) ?_; conv => whnf
  ((first | (with_reducible refine split_et rfl ?_) | (with_reducible refine split_bf rfl ?_) | (with_reducible refine split_t (beq_self_eq_true _) ?_) | (with_reducible refine split_f (bne_self_eq_false _) ?_)); conv => whnf)
  refine tri_for0 mixed (by kernel_rfl) (fun i : Nat => i ≤ l.length) (fun i => [(5, iv i)]) [] (fun i => l.length - i) 0 (Nat.zero_le _) ?_ ?_
  · conv => whnf
    (refine And.intro (And.intro (by with_unfolding_all rfl) (by intro q h; cases h)) ?_; refine And.intro ?_ (And.intro ?_ ?_) <;> (conv => whnf) <;> (repeat' (first | exact True.intro | (with_reducible exact rfl) | exact (rfl : List.replicate 0 PV.bad = []) | ((with_reducible refine And.intro ?_ ?_) <;> (first | (with_reducible exact wkV_same _ rfl) | exact wkV_pt rfl rfl | exact wkV_ow rfl rfl rfl | (refine wkV_ow rfl rfl ?_) | (refine wkV_sc (congrArg (Value.int .i64) ?_)) | (refine wkV_sc (congrArg Value.bool ?_)) | exact wkV_ls rfl | ((refine wkV_cl ?_); conv => whnf) | ((refine wkV_tu ?_); conv => whnf) | ((refine wkV_ag ?_); conv => whnf) | (conv => whnf))))))
    all_goals rfl
  intro i hi
  conv => whnf
  ((first | (with_reducible refine split_dec (fun h => ?_) (fun h => ?_)) | (with_reducible refine split_beq (fun h => ?_) (fun h => ?_)) | (with_reducible refine split_bne (fun h => ?_) (fun h => ?_)) | (with_reducible refine split_not (fun h => ?_) (fun h => ?_)) | (with_reducible refine split_beqS (fun h => ?_) (fun h => ?_)) | (with_reducible refine split_intro (fun h => ?_) (fun h => ?_))) <;> conv => whnf)
  · simp only [List.length_map] at h
    have hlt : i < l.length := by omega
    refine ⟨by omega, _, row_at hlt, ?_⟩
    conv => whnf
    refine ⟨by omega, _, row_at hlt, ?_⟩
    conv => whnf
    ((first | (with_reducible refine split_et rfl ?_) | (with_reducible refine split_bf rfl ?_) | (with_reducible refine split_t (beq_self_eq_true _) ?_) | (with_reducible refine split_f (bne_self_eq_false _) ?_)); conv => whnf)
    refine ⟨i + 1, ⟨by omega, by omega⟩, ?_⟩
    conv => whnf
    (refine And.intro (And.intro (by with_unfolding_all rfl) (by intro q h; cases h)) ?_; refine And.intro ?_ (And.intro ?_ ?_) <;> (conv => whnf) <;> (repeat' (first | exact True.intro | (with_reducible exact rfl) | exact (rfl : List.replicate 0 PV.bad = []) | ((with_reducible refine And.intro ?_ ?_) <;> (first | (with_reducible exact wkV_same _ rfl) | exact wkV_pt rfl rfl | exact wkV_ow rfl rfl rfl | (refine wkV_ow rfl rfl ?_) | (refine wkV_sc (congrArg (Value.int .i64) ?_)) | (refine wkV_sc (congrArg Value.bool ?_)) | exact wkV_ls rfl | ((refine wkV_cl ?_); conv => whnf) | ((refine wkV_tu ?_); conv => whnf) | ((refine wkV_ag ?_); conv => whnf) | (conv => whnf))))))
    exact w1 (by omega)
  · exact exit_plain rfl rfl
end Go.Proofs

/- Contracts of functions: twins; replicas compared with themselves. -/
namespace Go.Proofs
open Go.Pv
set_option maxRecDepth 100000

theorem small {n b : Nat} (h : n ≤ 4294967296) (hb : b.ble 1024 = true) : n * b ≤ 140737488355328 := by
  have h1 : b ≤ 1024 := Nat.le_of_ble_eq_true hb
  exact Nat.le_trans (Nat.mul_le_mul h h1) (by decide)
theorem smallM {n : Nat} (h : n ≤ 4294967296) : n ≤ maxLen := Nat.le_trans h (by decide)

theorem c_Twin (l : List Int) (h : l.length ≤ 4294967296) : Ctr Tryz.prog 67 [.sl 1 (l.map encB)] (.ow 0 0 (l.map encB).length) [(1, l.map encB)] := by
  have h' : (l.map encB).length ≤ 4294967296 := by simpa using h
  refine spec_of_body mixed Tryz.func67 rfl (by kernel_rfl) (by kernel_rfl) ?_; conv => whnf
  refine ⟨rfl, ?_⟩
  conv => whnf
  refine ⟨⟨⟨small h' (by kernel_rfl), smallM h'⟩, rfl⟩, ?_⟩
  conv => whnf
  exact exit_own [(0, 96)] rfl ⟨rfl, True.intro⟩ (wkV_ow rfl rfl rfl)
theorem c_TwinEntries (l : List Ent) (h : l.length ≤ 4294967296) : Ctr Tryz.prog 68 [.sl 16 (l.map Ent.enc)] (.ow 0 0 (l.map Ent.enc).length) [(16, l.map Ent.enc)] := by
  have h' : (l.map Ent.enc).length ≤ 4294967296 := by simpa using h
  refine spec_of_body mixed Tryz.func68 rfl (by kernel_rfl) (by kernel_rfl) ?_; conv => whnf
  refine ⟨rfl, ?_⟩
  conv => whnf
  refine ⟨⟨⟨small h' (by kernel_rfl), smallM h'⟩, rfl⟩, ?_⟩
  conv => whnf
  exact exit_own [(0, 96)] rfl ⟨rfl, True.intro⟩ (wkV_ow rfl rfl rfl)
/-- A hard state in memory of its own. -/
abbrev Hrd.own (x : Hrd) (k : Nat) : List PV := [iv x.term, iv x.vote, iv x.base, iv x.baseTerm, iv x.baseConf.full, iv x.baseConf.wit, iv x.baseConf.learn, iv x.baseConf.lwit, .ow k 0 (x.snap.map encB).length, .ow (k + 1) 0 (x.log.map Ent.enc).length]
abbrev Hrd.obs (x : Hrd) : List (Nat × List (List PV)) := [(1, x.snap.map encB), (16, x.log.map Ent.enc)]

theorem c_TwinHard (a : Hrd) (h1 : a.snap.length ≤ 4294967296) (h2 : a.log.length ≤ 4294967296) : Ctr Tryz.prog 38 [.ag a.enc] (.ag (a.own 0)) a.obs := by
  refine spec_of_body mixed Tryz.func38 rfl (by kernel_rfl) (by kernel_rfl) ?_; conv => whnf
  ((try ((refine Exists.intro none ?_); (conv => whnf))); first | ((with_reducible refine call_by (c_Twin a.snap h1) ?_); conv => whnf))
  refine ⟨_, rfl, (by intro q hq; cases hq), (by intro i hi; rfl), ?_⟩
  conv => whnf
  ((try ((refine Exists.intro none ?_); (conv => whnf))); first | ((with_reducible refine call_by (c_TwinEntries a.log h2) ?_); conv => whnf))
  refine ⟨_, rfl, (by intro q hq; cases hq), ?_, ?_⟩
  · intro i hi
    have : i = 0 := by simpa using hi
    subst this; rfl
  conv => whnf
  refine exit_own [(0, 112), (1, 176)] rfl ⟨rfl, rfl, True.intro⟩ (wkV_ag ?_)
  conv => whnf
  repeat' (first | exact rfl | ((with_reducible refine And.intro ?_ ?_) <;> (first | (with_reducible exact wkV_same _ rfl) | exact wkV_ow rfl rfl rfl | (conv => whnf))))

abbrev Rft.own (x : Rft) (k : Nat) : List PV := [iv x.id] ++ x.hard.own k ++ [iv x.commit, iv x.role, iv x.lead, iv x.wait, iv x.quiet, iv x.votes, iv x.round] ++ x.next.enc ++ x.mtch.enc ++ x.silent.enc ++ [.ow (k + 2) 0 (x.reads.map Rd.enc).length]
abbrev Rft.obs (x : Rft) : List (Nat × List (List PV)) := [(1, x.hard.snap.map encB), (16, x.hard.log.map Ent.enc), (13, x.reads.map Rd.enc)]

set_option maxHeartbeats 1000000 in
theorem c_TwinRaft (r : Rft) (h1 : r.hard.snap.length ≤ 4294967296) (h2 : r.hard.log.length ≤ 4294967296) (h3 : r.reads.length ≤ 4294967296) : Ctr Tryz.prog 8 [.ag r.enc] (.ag (r.own 0)) r.obs := by
  have h' : (r.reads.map Rd.enc).length ≤ 4294967296 := by simpa using h3
  refine spec_of_body mixed Tryz.func8 rfl (by kernel_rfl) (by kernel_rfl) ?_; conv => whnf
  ((try ((refine Exists.intro none ?_); (conv => whnf))); first | ((with_reducible refine call_by (c_TwinHard r.hard h1 h2) ?_); conv => whnf))
  refine ⟨_, rfl, (by intro q hq; cases hq), (by intro i hi; rfl), ?_⟩
  conv => whnf
  refine ⟨rfl, ?_⟩
  conv => whnf
  refine ⟨⟨⟨small h' (by kernel_rfl), smallM h'⟩, rfl⟩, ?_⟩
  conv => whnf
  refine exit_own [(0, 112), (1, 113), (2, 224)] rfl ⟨rfl, rfl, rfl, True.intro⟩ (wkV_ag ?_)
  conv => whnf
  repeat' (first | exact rfl | ((with_reducible refine And.intro ?_ ?_) <;> (first | (with_reducible exact wkV_same _ rfl) | exact wkV_ow rfl rfl rfl | (conv => whnf))))

theorem s_Reads (l : List Rd) (hm : l.length ≤ maxLen) : Ctr Tryz.prog 19 [.sl 13 (l.map Rd.enc), .sl 13 (l.map Rd.enc)] (bv true) [] := by
  have hm' : l.length ≤ 9223372036854775807 := Nat.le_trans hm (by decide)
  refine spec_of_body mixed Tryz.func19 rfl (by kernel_rfl) (by kernel_rfl) ?_; conv => whnf
  ((first | (with_reducible refine split_et rfl ?_) | (with_reducible refine split_bf rfl ?_) | (with_reducible refine split_t (beq_self_eq_true _) ?_) | (with_reducible refine split_f (bne_self_eq_false _) ?_)); conv => whnf)
  refine tri_for0 mixed (by kernel_rfl) (fun i : Nat => i ≤ l.length) (fun i => [(5, iv i)]) [] (fun i => l.length - i) 0 (Nat.zero_le _) ?_ ?_
  · conv => whnf
    (refine And.intro (And.intro (by with_unfolding_all rfl) (by intro q h; cases h)) ?_; refine And.intro ?_ (And.intro ?_ ?_) <;> (conv => whnf) <;> (repeat' (first | exact True.intro | (with_reducible exact rfl) | exact (rfl : List.replicate 0 PV.bad = []) | ((with_reducible refine And.intro ?_ ?_) <;> (first | (with_reducible exact wkV_same _ rfl) | exact wkV_pt rfl rfl | exact wkV_ow rfl rfl rfl | (refine wkV_ow rfl rfl ?_) | (refine wkV_sc (congrArg (Value.int .i64) ?_)) | (refine wkV_sc (congrArg Value.bool ?_)) | exact wkV_ls rfl | ((refine wkV_cl ?_); conv => whnf) | ((refine wkV_tu ?_); conv => whnf) | ((refine wkV_ag ?_); conv => whnf) | (conv => whnf))))))
    all_goals rfl
  intro i hi
  conv => whnf
  ((first | (with_reducible refine split_dec (fun h => ?_) (fun h => ?_)) | (with_reducible refine split_beq (fun h => ?_) (fun h => ?_)) | (with_reducible refine split_bne (fun h => ?_) (fun h => ?_)) | (with_reducible refine split_not (fun h => ?_) (fun h => ?_)) | (with_reducible refine split_beqS (fun h => ?_) (fun h => ?_)) | (with_reducible refine split_intro (fun h => ?_) (fun h => ?_))) <;> conv => whnf)
  · simp only [List.length_map] at h
    have hlt : i < l.length := by omega
    repeat' (first | ((with_reducible refine And.intro (by omega) (Exists.intro _ (And.intro (row_at hlt) ?_))); conv => whnf) | ((try ((refine Exists.intro none ?_); (conv => whnf))); first | ((with_reducible refine call_by (s_Call (l[i]'hlt).call) ?_); conv => whnf)) | ((first | (with_reducible refine split_et rfl ?_) | (with_reducible refine split_bf rfl ?_) | (with_reducible refine split_t (beq_self_eq_true _) ?_) | (with_reducible refine split_f (bne_self_eq_false _) ?_)); conv => whnf))
    refine ⟨i + 1, ⟨by omega, by omega⟩, ?_⟩
    conv => whnf
    (refine And.intro (And.intro (by with_unfolding_all rfl) (by intro q h; cases h)) ?_; refine And.intro ?_ (And.intro ?_ ?_) <;> (conv => whnf) <;> (repeat' (first | exact True.intro | (with_reducible exact rfl) | exact (rfl : List.replicate 0 PV.bad = []) | ((with_reducible refine And.intro ?_ ?_) <;> (first | (with_reducible exact wkV_same _ rfl) | exact wkV_pt rfl rfl | exact wkV_ow rfl rfl rfl | (refine wkV_ow rfl rfl ?_) | (refine wkV_sc (congrArg (Value.int .i64) ?_)) | (refine wkV_sc (congrArg Value.bool ?_)) | exact wkV_ls rfl | ((refine wkV_cl ?_); conv => whnf) | ((refine wkV_tu ?_); conv => whnf) | ((refine wkV_ag ?_); conv => whnf) | (conv => whnf))))))
    exact w1 (by omega)
  · exact exit_plain rfl rfl

theorem s_Hard (a : Hrd) (h1 : a.snap.length ≤ maxLen) (h2 : a.log.length ≤ maxLen) : Ctr Tryz.prog 46 [.ag a.enc, .ag a.enc] (bv true) [] := by
  refine spec_of_body mixed Tryz.func46 rfl (by kernel_rfl) (by kernel_rfl) ?_; conv => whnf
  repeat' (first | ((first | (with_reducible refine split_et rfl ?_) | (with_reducible refine split_bf rfl ?_) | (with_reducible refine split_t (beq_self_eq_true _) ?_) | (with_reducible refine split_f (bne_self_eq_false _) ?_)); conv => whnf) | ((try ((refine Exists.intro none ?_); (conv => whnf))); first | ((with_reducible refine call_by (s_Conf a.baseConf) ?_); conv => whnf) | ((with_reducible refine call_by (s_Bytes a.snap h1) ?_); conv => whnf) | ((with_reducible refine call_by (s_Entries a.log h2) ?_); conv => whnf)))
  exact exit_plain rfl rfl

set_option maxHeartbeats 1000000 in
theorem s_Raft (r : Rft) (h1 : r.hard.snap.length ≤ maxLen) (h2 : r.hard.log.length ≤ maxLen) (h3 : r.reads.length ≤ maxLen) : Ctr Tryz.prog 11 [.ag r.enc, .ag r.enc] (bv true) [] := by
  refine spec_of_body mixed Tryz.func11 rfl (by kernel_rfl) (by kernel_rfl) ?_; conv => whnf
  repeat' (first | ((first | (with_reducible refine split_et rfl ?_) | (with_reducible refine split_bf rfl ?_) | (with_reducible refine split_t (beq_self_eq_true _) ?_) | (with_reducible refine split_f (bne_self_eq_false _) ?_)); conv => whnf) | ((try ((refine Exists.intro none ?_); (conv => whnf))); first | ((with_reducible refine call_by (s_Hard r.hard h1 h2) ?_); conv => whnf) | ((with_reducible refine call_by (s_nodes r.next) ?_); conv => whnf) | ((with_reducible refine call_by (s_nodes r.mtch) ?_); conv => whnf) | ((with_reducible refine call_by (s_nodes r.silent) ?_); conv => whnf) | ((with_reducible refine call_by (s_Reads r.reads h3) ?_); conv => whnf)))
  exact exit_plain rfl rfl
end Go.Proofs

/- Contracts of functions: clones; questions, who has answered them, which are ready. -/
namespace Go.Proofs
open Go.Pv
set_option maxRecDepth 100000

theorem c_CloneReads (l : List Rd) (h : l.length ≤ 4294967296) : Ctr Tryz.prog 85 [.sl 13 (l.map Rd.enc)] (.ow 0 0 (l.map Rd.enc).length) [(13, l.map Rd.enc)] := by
  have h' : (l.map Rd.enc).length ≤ 4294967296 := by simpa using h
  refine spec_of_body mixed Tryz.func85 rfl (by kernel_rfl) (by kernel_rfl) ?_; conv => whnf
  refine ⟨fun e => ?_, ?_⟩ <;> conv => whnf
  · have : l = [] := by simpa using e
    subst this
    exact exit_nil 13
  · refine ⟨rfl, ?_⟩
    conv => whnf
    refine ⟨⟨⟨small h' (by kernel_rfl), smallM h'⟩, rfl⟩, ?_⟩
    conv => whnf
    exact exit_own [(0, 112)] rfl ⟨rfl, True.intro⟩ (wkV_ow rfl rfl rfl)

theorem c_CloneEntries (l : List Ent) (h : l.length ≤ 4294967296) : Ctr Tryz.prog 71 [.sl 16 (l.map Ent.enc)] (.ow 0 0 (l.map Ent.enc).length) [(16, l.map Ent.enc)] := by
  have h' : (l.map Ent.enc).length ≤ 4294967296 := by simpa using h
  refine spec_of_body mixed Tryz.func71 rfl (by kernel_rfl) (by kernel_rfl) ?_; conv => whnf
  refine ⟨fun e => ?_, ?_⟩ <;> conv => whnf
  · have : l = [] := by simpa using e
    subst this
    exact exit_nil 16
  · refine ⟨rfl, ?_⟩
    conv => whnf
    refine ⟨⟨⟨small h' (by kernel_rfl), smallM h'⟩, rfl⟩, ?_⟩
    conv => whnf
    exact exit_own [(0, 112)] rfl ⟨rfl, True.intro⟩ (wkV_ow rfl rfl rfl)

theorem c_CloneBytes (l : List Int) (h : l.length ≤ 4294967296) : Ctr Tryz.prog 70 [.sl 1 (l.map encB)] (.ow 0 0 (l.map encB).length) [(1, l.map encB)] := by
  have h' : (l.map encB).length ≤ 4294967296 := by simpa using h
  refine spec_of_body mixed Tryz.func70 rfl (by kernel_rfl) (by kernel_rfl) ?_; conv => whnf
  refine ⟨fun e => ?_, ?_⟩ <;> conv => whnf
  · have : l = [] := by simpa using e
    subst this
    exact exit_nil 1
  · refine ⟨rfl, ?_⟩
    conv => whnf
    refine ⟨⟨⟨small h' (by kernel_rfl), smallM h'⟩, rfl⟩, ?_⟩
    conv => whnf
    exact exit_own [(0, 112)] rfl ⟨rfl, True.intro⟩ (wkV_ow rfl rfl rfl)

noncomputable def ack1 (frm round : Int) (x : Rd) : Rd := if x.round ≤ round ∧ 0 ≤ frm ∧ frm < 7 then { x with acks := bor x.acks (shl 1 frm) } else x
noncomputable def ackL (l : List Rd) (frm round : Int) (i : Nat) : List Rd := (l.take i).map (ack1 frm round) ++ l.drop i
end Go.Proofs
