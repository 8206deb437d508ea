import Derived.Test.YtbhfokahocgndaaGreatC1
import Derived.Test.YtbhfokahocgndaaGreatPvN
/- Contracts of functions: near configurations. -/
set_option linter.unusedSimpArgs false
set_option linter.unusedVariables false
namespace Go.Proofs
open Go.Pv
set_option maxRecDepth 100000

theorem c_Near1 (a : Conf) (i : Int) : Ctr Tryz.prog 95 [.ep a.enc, .ep [iv i]] (cev (learnR a i false)) [] := by
  refine spec_of_body mixed Tryz.func95 rfl (by kernel_rfl) (by kernel_rfl) ?_; conv => whnf
  ((try ((refine Exists.intro none ?_); (conv => whnf))); first | ((with_reducible refine call_by (c_Learn a i false) ?_); conv => whnf))
  exact exit_plain rfl rfl
theorem c_Near2 (a : Conf) (i : Int) : Ctr Tryz.prog 97 [.ep a.enc, .ep [iv i]] (cev (learnR a i true)) [] := by
  refine spec_of_body mixed Tryz.func97 rfl (by kernel_rfl) (by kernel_rfl) ?_; conv => whnf
  ((try ((refine Exists.intro none ?_); (conv => whnf))); first | ((with_reducible refine call_by (c_Learn a i true) ?_); conv => whnf))
  exact exit_plain rfl rfl
theorem c_Near3 (a : Conf) (i : Int) : Ctr Tryz.prog 98 [.ep a.enc, .ep [iv i]] (cev (promoteR a i)) [] := by
  refine spec_of_body mixed Tryz.func98 rfl (by kernel_rfl) (by kernel_rfl) ?_; conv => whnf
  ((try ((refine Exists.intro none ?_); (conv => whnf))); first | ((with_reducible refine call_by (c_Promote a i) ?_); conv => whnf))
  exact exit_plain rfl rfl
theorem c_Near4 (a : Conf) (i : Int) : Ctr Tryz.prog 100 [.ep a.enc, .ep [iv i]] (cev (removeR a i)) [] := by
  refine spec_of_body mixed Tryz.func100 rfl (by kernel_rfl) (by kernel_rfl) ?_; conv => whnf
  ((try ((refine Exists.intro none ?_); (conv => whnf))); first | ((with_reducible refine call_by (c_Remove a i) ?_); conv => whnf))
  exact exit_plain rfl rfl

theorem eqOk23 : EqOk Tryz.prog 23 := ⟨by kernel_rfl, by kernel_rfl, by kernel_rfl, by kernel_rfl⟩
theorem eqConf (a b : Conf) : eqInts (Tryz.prog.fieldsOf 23).toList a.enc b.enc = some (decide (a = b)) := by
  have h : eqInts (Tryz.prog.fieldsOf 23).toList a.enc b.enc = some (a.full == b.full && (a.wit == b.wit && (a.learn == b.learn && (a.lwit == b.lwit && true)))) := by kernel_rfl
  rw [h]
  congr 1
  rw [Bool.eq_iff_iff]
  simp only [Bool.and_eq_true, beq_iff_eq, decide_eq_true_eq, and_true]
  exact ⟨fun ⟨h1, h2, h3, h4⟩ => Conf.ext' h1 h2 h3 h4, fun e => by subst e; exact ⟨rfl, rfl, rfl, rfl⟩⟩

def hitS (s : Conf × Int) (b : Conf) : Bool := s.2 == 0 && decide (s.1 = b)
noncomputable def stp (a : Conf) (i : Int) (k : Nat) : Conf × Int := match k with
  | 0 => learnR a i false
  | 1 => learnR a i true
  | 2 => promoteR a i
  | _ => removeR a i
noncomputable def nearI (a b : Conf) (i : Int) : Bool := hitS (learnR a i false) b || (hitS (learnR a i true) b || (hitS (promoteR a i) b || hitS (removeR a i) b))
noncomputable def nearR (a b : Conf) : Bool := confB a && (confB b && (decide (a = b) || (List.range 7).any fun i => nearI a b i))

set_option maxHeartbeats 2000000 in
theorem c_Near (a b : Conf) : Ctr Tryz.prog 50 [.ag a.enc, .ag b.enc] (bv (nearR a b)) [] := by
  refine spec_of_body mixed Tryz.func50 rfl (by kernel_rfl) (by kernel_rfl) ?_; conv => whnf
  ((try ((refine Exists.intro none ?_); (conv => whnf))); first | ((with_reducible refine call_by (c_Check a) ?_); conv => whnf))
  cases ha : confB a
  · simp only [Bool.false_eq_true, if_false]
    conv => whnf
    exact exit_plain rfl (by simp [nearR, ha])
  simp only [if_true]
  conv => whnf
  ((try ((refine Exists.intro none ?_); (conv => whnf))); first | ((with_reducible refine call_by (c_Check b) ?_); conv => whnf))
  cases hb : confB b
  · simp only [Bool.false_eq_true, if_false]
    conv => whnf
    exact exit_plain rfl (by simp [nearR, hb])
  simp only [if_true]
  conv => whnf
  refine ⟨eqOk23, _, eqConf a b, ?_⟩
  conv => whnf
  ((first | (with_reducible refine split_dec (fun h => ?_) (fun h => ?_)) | (with_reducible refine split_beq (fun h => ?_) (fun h => ?_)) | (with_reducible refine split_bne (fun h => ?_) (fun h => ?_)) | (with_reducible refine split_not (fun h => ?_) (fun h => ?_)) | (with_reducible refine split_beqS (fun h => ?_) (fun h => ?_)) | (with_reducible refine split_intro (fun h => ?_) (fun h => ?_))) <;> conv => whnf)
  · exact exit_plain rfl (by simp [nearR, ha, hb, h])
  have hne := h
  have yes : ∀ i : Nat, i < 7 → nearI a b i = true → nearR a b = true := by
    intro i hi h
    simp only [nearR, ha, hb, Bool.true_and, Bool.or_eq_true, List.any_eq_true]
    exact .inr ⟨i, List.mem_range.2 hi, h⟩
  refine tri_forB mixed (by kernel_rfl) (fun i : Nat => i ≤ 7 ∧ ∀ j : Nat, j < i → nearI a b j = false) (fun i => [(21, iv i)]) (fun _ => [(2, a.enc), (3, b.enc)]) [] (fun i => 7 - i) 0 ⟨by decide, fun j h => absurd h (Nat.not_lt_zero _)⟩ ?_ ?_
  · conv => whnf
    (refine And.intro (And.intro (by with_unfolding_all rfl) (by intro q h; cases h)) ?_; refine And.intro ?_ (And.intro ?_ ?_) <;> (conv => whnf) <;> (repeat' (first | exact True.intro | (with_reducible exact rfl) | exact (rfl : List.replicate 0 PV.bad = []) | ((with_reducible refine And.intro ?_ ?_) <;> (first | (with_reducible exact wkV_same _ rfl) | exact wkV_pt rfl rfl | exact wkV_ow rfl rfl rfl | (refine wkV_ow rfl rfl ?_) | (refine wkV_sc (congrArg (Value.int .i64) ?_)) | (refine wkV_sc (congrArg Value.bool ?_)) | exact wkV_ls rfl | ((refine wkV_cl ?_); conv => whnf) | ((refine wkV_tu ?_); conv => whnf) | ((refine wkV_ag ?_); conv => whnf) | (conv => whnf))))))
    all_goals rfl
  rintro i ⟨hi, hp⟩
  conv => whnf
  ((first | (with_reducible refine split_dec (fun h => ?_) (fun h => ?_)) | (with_reducible refine split_beq (fun h => ?_) (fun h => ?_)) | (with_reducible refine split_bne (fun h => ?_) (fun h => ?_)) | (with_reducible refine split_not (fun h => ?_) (fun h => ?_)) | (with_reducible refine split_beqS (fun h => ?_) (fun h => ?_)) | (with_reducible refine split_intro (fun h => ?_) (fun h => ?_))) <;> conv => whnf)
  · refine tri_forB mixed (by kernel_rfl) (fun k : Nat => k ≤ 4 ∧ ∀ j : Nat, j < k → hitS (stp a i j) b = false) (fun k => [(30, iv k)]) (fun _ => [(2, a.enc), (3, b.enc), (5, [iv i])]) [] (fun k => 4 - k) 0 ⟨by decide, fun j h => absurd h (Nat.not_lt_zero _)⟩ ?_ ?_
    · conv => whnf
      (refine And.intro (And.intro (by with_unfolding_all rfl) (by intro q h; cases h)) ?_; refine And.intro ?_ (And.intro ?_ ?_) <;> (conv => whnf) <;> (repeat' (first | exact True.intro | (with_reducible exact rfl) | exact (rfl : List.replicate 0 PV.bad = []) | ((with_reducible refine And.intro ?_ ?_) <;> (first | (with_reducible exact wkV_same _ rfl) | exact wkV_pt rfl rfl | exact wkV_ow rfl rfl rfl | (refine wkV_ow rfl rfl ?_) | (refine wkV_sc (congrArg (Value.int .i64) ?_)) | (refine wkV_sc (congrArg Value.bool ?_)) | exact wkV_ls rfl | ((refine wkV_cl ?_); conv => whnf) | ((refine wkV_tu ?_); conv => whnf) | ((refine wkV_ag ?_); conv => whnf) | (conv => whnf))))))
      all_goals rfl
    rintro k ⟨hk, hq⟩
    rcases (by omega : k = 0 ∨ k = 1 ∨ k = 2 ∨ k = 3 ∨ k = 4) with rfl | rfl | rfl | rfl | rfl
    · conv => whnf
      ((with_reducible refine And.intro (by with_unfolding_all decide) ?_); refine Exists.intro _ (And.intro (by with_unfolding_all rfl) ?_); conv => whnf)
      ((try ((refine Exists.intro none ?_); (conv => whnf))); first | ((with_reducible refine call_by (c_Near1 a i) ?_); conv => whnf))
      ((first | (with_reducible refine split_dec (fun h => ?_) (fun h => ?_)) | (with_reducible refine split_beq (fun h => ?_) (fun h => ?_)) | (with_reducible refine split_bne (fun h => ?_) (fun h => ?_)) | (with_reducible refine split_not (fun h => ?_) (fun h => ?_)) | (with_reducible refine split_beqS (fun h => ?_) (fun h => ?_)) | (with_reducible refine split_intro (fun h => ?_) (fun h => ?_))) <;> conv => whnf)
      · have h1 := h
        refine ⟨eqOk23, _, eqConf _ b, ?_⟩
        conv => whnf
        ((first | (with_reducible refine split_dec (fun h => ?_) (fun h => ?_)) | (with_reducible refine split_beq (fun h => ?_) (fun h => ?_)) | (with_reducible refine split_bne (fun h => ?_) (fun h => ?_)) | (with_reducible refine split_not (fun h => ?_) (fun h => ?_)) | (with_reducible refine split_beqS (fun h => ?_) (fun h => ?_)) | (with_reducible refine split_intro (fun h => ?_) (fun h => ?_))) <;> conv => whnf)
        · refine exit_plain rfl ?_
          rw [yes i (by omega) (by simp [nearI, hitS, h1, h])]
        · refine ⟨1, ⟨⟨by omega, ?_⟩, by omega⟩, ?_⟩
          · intro j hj
            by_cases e : j = 0
            · subst e; simp [hitS, stp, h]
            · exact hq j (by omega)
          · conv => whnf
            (refine And.intro (And.intro (by with_unfolding_all rfl) (by intro q h; cases h)) ?_; refine And.intro ?_ (And.intro ?_ ?_) <;> (conv => whnf) <;> (repeat' (first | exact True.intro | (with_reducible exact rfl) | exact (rfl : List.replicate 0 PV.bad = []) | ((with_reducible refine And.intro ?_ ?_) <;> (first | (with_reducible exact wkV_same _ rfl) | exact wkV_pt rfl rfl | exact wkV_ow rfl rfl rfl | (refine wkV_ow rfl rfl ?_) | (refine wkV_sc (congrArg (Value.int .i64) ?_)) | (refine wkV_sc (congrArg Value.bool ?_)) | exact wkV_ls rfl | ((refine wkV_cl ?_); conv => whnf) | ((refine wkV_tu ?_); conv => whnf) | ((refine wkV_ag ?_); conv => whnf) | (conv => whnf))))))
            all_goals rfl
      · refine ⟨1, ⟨⟨by omega, ?_⟩, by omega⟩, ?_⟩
        · intro j hj
          by_cases e : j = 0
          · subst e; simp [hitS, stp, h]
          · exact hq j (by omega)
        · conv => whnf
          (refine And.intro (And.intro (by with_unfolding_all rfl) (by intro q h; cases h)) ?_; refine And.intro ?_ (And.intro ?_ ?_) <;> (conv => whnf) <;> (repeat' (first | exact True.intro | (with_reducible exact rfl) | exact (rfl : List.replicate 0 PV.bad = []) | ((with_reducible refine And.intro ?_ ?_) <;> (first | (with_reducible exact wkV_same _ rfl) | exact wkV_pt rfl rfl | exact wkV_ow rfl rfl rfl | (refine wkV_ow rfl rfl ?_) | (refine wkV_sc (congrArg (Value.int .i64) ?_)) | (refine wkV_sc (congrArg Value.bool ?_)) | exact wkV_ls rfl | ((refine wkV_cl ?_); conv => whnf) | ((refine wkV_tu ?_); conv => whnf) | ((refine wkV_ag ?_); conv => whnf) | (conv => whnf))))))
          all_goals rfl
    · conv => whnf
      ((with_reducible refine And.intro (by with_unfolding_all decide) ?_); refine Exists.intro _ (And.intro (by with_unfolding_all rfl) ?_); conv => whnf)
      ((try ((refine Exists.intro none ?_); (conv => whnf))); first | ((with_reducible refine call_by (c_Near2 a i) ?_); conv => whnf))
      ((first | (with_reducible refine split_dec (fun h => ?_) (fun h => ?_)) | (with_reducible refine split_beq (fun h => ?_) (fun h => ?_)) | (with_reducible refine split_bne (fun h => ?_) (fun h => ?_)) | (with_reducible refine split_not (fun h => ?_) (fun h => ?_)) | (with_reducible refine split_beqS (fun h => ?_) (fun h => ?_)) | (with_reducible refine split_intro (fun h => ?_) (fun h => ?_))) <;> conv => whnf)
      · have h1 := h
        refine ⟨eqOk23, _, eqConf _ b, ?_⟩
        conv => whnf
        ((first | (with_reducible refine split_dec (fun h => ?_) (fun h => ?_)) | (with_reducible refine split_beq (fun h => ?_) (fun h => ?_)) | (with_reducible refine split_bne (fun h => ?_) (fun h => ?_)) | (with_reducible refine split_not (fun h => ?_) (fun h => ?_)) | (with_reducible refine split_beqS (fun h => ?_) (fun h => ?_)) | (with_reducible refine split_intro (fun h => ?_) (fun h => ?_))) <;> conv => whnf)
        · refine exit_plain rfl ?_
          rw [yes i (by omega) (by simp [nearI, hitS, h1, h])]
        · refine ⟨2, ⟨⟨by omega, ?_⟩, by omega⟩, ?_⟩
          · intro j hj
            by_cases e : j = 1
            · subst e; simp [hitS, stp, h]
            · exact hq j (by omega)
          · conv => whnf
            (refine And.intro (And.intro (by with_unfolding_all rfl) (by intro q h; cases h)) ?_; refine And.intro ?_ (And.intro ?_ ?_) <;> (conv => whnf) <;> (repeat' (first | exact True.intro | (with_reducible exact rfl) | exact (rfl : List.replicate 0 PV.bad = []) | ((with_reducible refine And.intro ?_ ?_) <;> (first | (with_reducible exact wkV_same _ rfl) | exact wkV_pt rfl rfl | exact wkV_ow rfl rfl rfl | (refine wkV_ow rfl rfl ?_) | (refine wkV_sc (congrArg (Value.int .i64) ?_)) | (refine wkV_sc (congrArg Value.bool ?_)) | exact wkV_ls rfl | ((refine wkV_cl ?_); conv => whnf) | ((refine wkV_tu ?_); conv => whnf) | ((refine wkV_ag ?_); conv => whnf) | (conv => whnf))))))
            all_goals rfl
      · refine ⟨2, ⟨⟨by omega, ?_⟩, by omega⟩, ?_⟩
        · intro j hj
          by_cases e : j = 1
          · subst e; simp [hitS, stp, h]
          · exact hq j (by omega)
        · conv => whnf
          (refine And.intro (And.intro (by with_unfolding_all rfl) (by intro q h; cases h)) ?_; refine And.intro ?_ (And.intro ?_ ?_) <;> (conv => whnf) <;> (repeat' (first | exact True.intro | (with_reducible exact rfl) | exact (rfl : List.replicate 0 PV.bad = []) | ((with_reducible refine And.intro ?_ ?_) <;> (first | (with_reducible exact wkV_same _ rfl) | exact wkV_pt rfl rfl | exact wkV_ow rfl rfl rfl | (refine wkV_ow rfl rfl ?_) | (refine wkV_sc (congrArg (Value.int .i64) ?_)) | (refine wkV_sc (congrArg Value.bool ?_)) | exact wkV_ls rfl | ((refine wkV_cl ?_); conv => whnf) | ((refine wkV_tu ?_); conv => whnf) | ((refine wkV_ag ?_); conv => whnf) | (conv => whnf))))))
          all_goals rfl
    · conv => whnf
      ((with_reducible refine And.intro (by with_unfolding_all decide) ?_); refine Exists.intro _ (And.intro (by with_unfolding_all rfl) ?_); conv => whnf)
      ((try ((refine Exists.intro none ?_); (conv => whnf))); first | ((with_reducible refine call_by (c_Near3 a i) ?_); conv => whnf))
      ((first | (with_reducible refine split_dec (fun h => ?_) (fun h => ?_)) | (with_reducible refine split_beq (fun h => ?_) (fun h => ?_)) | (with_reducible refine split_bne (fun h => ?_) (fun h => ?_)) | (with_reducible refine split_not (fun h => ?_) (fun h => ?_)) | (with_reducible refine split_beqS (fun h => ?_) (fun h => ?_)) | (with_reducible refine split_intro (fun h => ?_) (fun h => ?_))) <;> conv => whnf)
      · have h1 := h
        refine ⟨eqOk23, _, eqConf _ b, ?_⟩
        conv => whnf
        ((first | (with_reducible refine split_dec (fun h => ?_) (fun h => ?_)) | (with_reducible refine split_beq (fun h => ?_) (fun h => ?_)) | (with_reducible refine split_bne (fun h => ?_) (fun h => ?_)) | (with_reducible refine split_not (fun h => ?_) (fun h => ?_)) | (with_reducible refine split_beqS (fun h => ?_) (fun h => ?_)) | (with_reducible refine split_intro (fun h => ?_) (fun h => ?_))) <;> conv => whnf)
        · refine exit_plain rfl ?_
          rw [yes i (by omega) (by simp [nearI, hitS, h1, h])]
        · refine ⟨3, ⟨⟨by omega, ?_⟩, by omega⟩, ?_⟩
          · intro j hj
            by_cases e : j = 2
            · subst e; simp [hitS, stp, h]
            · exact hq j (by omega)
          · conv => whnf
            (refine And.intro (And.intro (by with_unfolding_all rfl) (by intro q h; cases h)) ?_; refine And.intro ?_ (And.intro ?_ ?_) <;> (conv => whnf) <;> (repeat' (first | exact True.intro | (with_reducible exact rfl) | exact (rfl : List.replicate 0 PV.bad = []) | ((with_reducible refine And.intro ?_ ?_) <;> (first | (with_reducible exact wkV_same _ rfl) | exact wkV_pt rfl rfl | exact wkV_ow rfl rfl rfl | (refine wkV_ow rfl rfl ?_) | (refine wkV_sc (congrArg (Value.int .i64) ?_)) | (refine wkV_sc (congrArg Value.bool ?_)) | exact wkV_ls rfl | ((refine wkV_cl ?_); conv => whnf) | ((refine wkV_tu ?_); conv => whnf) | ((refine wkV_ag ?_); conv => whnf) | (conv => whnf))))))
            all_goals rfl
      · refine ⟨3, ⟨⟨by omega, ?_⟩, by omega⟩, ?_⟩
        · intro j hj
          by_cases e : j = 2
          · subst e; simp [hitS, stp, h]
          · exact hq j (by omega)
        · conv => whnf
          (refine And.intro (And.intro (by with_unfolding_all rfl) (by intro q h; cases h)) ?_; refine And.intro ?_ (And.intro ?_ ?_) <;> (conv => whnf) <;> (repeat' (first | exact True.intro | (with_reducible exact rfl) | exact (rfl : List.replicate 0 PV.bad = []) | ((with_reducible refine And.intro ?_ ?_) <;> (first | (with_reducible exact wkV_same _ rfl) | exact wkV_pt rfl rfl | exact wkV_ow rfl rfl rfl | (refine wkV_ow rfl rfl ?_) | (refine wkV_sc (congrArg (Value.int .i64) ?_)) | (refine wkV_sc (congrArg Value.bool ?_)) | exact wkV_ls rfl | ((refine wkV_cl ?_); conv => whnf) | ((refine wkV_tu ?_); conv => whnf) | ((refine wkV_ag ?_); conv => whnf) | (conv => whnf))))))
          all_goals rfl
    · conv => whnf
      ((with_reducible refine And.intro (by with_unfolding_all decide) ?_); refine Exists.intro _ (And.intro (by with_unfolding_all rfl) ?_); conv => whnf)
      ((try ((refine Exists.intro none ?_); (conv => whnf))); first | ((with_reducible refine call_by (c_Near4 a i) ?_); conv => whnf))
      ((first | (with_reducible refine split_dec (fun h => ?_) (fun h => ?_)) | (with_reducible refine split_beq (fun h => ?_) (fun h => ?_)) | (with_reducible refine split_bne (fun h => ?_) (fun h => ?_)) | (with_reducible refine split_not (fun h => ?_) (fun h => ?_)) | (with_reducible refine split_beqS (fun h => ?_) (fun h => ?_)) | (with_reducible refine split_intro (fun h => ?_) (fun h => ?_))) <;> conv => whnf)
      · have h1 := h
        refine ⟨eqOk23, _, eqConf _ b, ?_⟩
        conv => whnf
        ((first | (with_reducible refine split_dec (fun h => ?_) (fun h => ?_)) | (with_reducible refine split_beq (fun h => ?_) (fun h => ?_)) | (with_reducible refine split_bne (fun h => ?_) (fun h => ?_)) | (with_reducible refine split_not (fun h => ?_) (fun h => ?_)) | (with_reducible refine split_beqS (fun h => ?_) (fun h => ?_)) | (with_reducible refine split_intro (fun h => ?_) (fun h => ?_))) <;> conv => whnf)
        · refine exit_plain rfl ?_
          rw [yes i (by omega) (by simp [nearI, hitS, h1, h])]
        · refine ⟨4, ⟨⟨by omega, ?_⟩, by omega⟩, ?_⟩
          · intro j hj
            by_cases e : j = 3
            · subst e; simp [hitS, stp, h]
            · exact hq j (by omega)
          · conv => whnf
            (refine And.intro (And.intro (by with_unfolding_all rfl) (by intro q h; cases h)) ?_; refine And.intro ?_ (And.intro ?_ ?_) <;> (conv => whnf) <;> (repeat' (first | exact True.intro | (with_reducible exact rfl) | exact (rfl : List.replicate 0 PV.bad = []) | ((with_reducible refine And.intro ?_ ?_) <;> (first | (with_reducible exact wkV_same _ rfl) | exact wkV_pt rfl rfl | exact wkV_ow rfl rfl rfl | (refine wkV_ow rfl rfl ?_) | (refine wkV_sc (congrArg (Value.int .i64) ?_)) | (refine wkV_sc (congrArg Value.bool ?_)) | exact wkV_ls rfl | ((refine wkV_cl ?_); conv => whnf) | ((refine wkV_tu ?_); conv => whnf) | ((refine wkV_ag ?_); conv => whnf) | (conv => whnf))))))
            all_goals rfl
      · refine ⟨4, ⟨⟨by omega, ?_⟩, by omega⟩, ?_⟩
        · intro j hj
          by_cases e : j = 3
          · subst e; simp [hitS, stp, h]
          · exact hq j (by omega)
        · conv => whnf
          (refine And.intro (And.intro (by with_unfolding_all rfl) (by intro q h; cases h)) ?_; refine And.intro ?_ (And.intro ?_ ?_) <;> (conv => whnf) <;> (repeat' (first | exact True.intro | (with_reducible exact rfl) | exact (rfl : List.replicate 0 PV.bad = []) | ((with_reducible refine And.intro ?_ ?_) <;> (first | (with_reducible exact wkV_same _ rfl) | exact wkV_pt rfl rfl | exact wkV_ow rfl rfl rfl | (refine wkV_ow rfl rfl ?_) | (refine wkV_sc (congrArg (Value.int .i64) ?_)) | (refine wkV_sc (congrArg Value.bool ?_)) | exact wkV_ls rfl | ((refine wkV_cl ?_); conv => whnf) | ((refine wkV_tu ?_); conv => whnf) | ((refine wkV_ag ?_); conv => whnf) | (conv => whnf))))))
          all_goals rfl
    · conv => whnf
      refine ⟨i + 1, ⟨⟨by omega, ?_⟩, by omega⟩, ?_⟩
      · intro j hj
        by_cases e : j = i
        · subst e
          have q0 := hq 0 (by decide)
          have q1 := hq 1 (by decide)
          have q2 := hq 2 (by decide)
          have q3 := hq 3 (by decide)
          simp only [stp] at q0 q1 q2 q3
          simp [nearI, q0, q1, q2, q3]
        · exact hp j (by omega)
      · conv => whnf
        (refine And.intro (And.intro (by with_unfolding_all rfl) (by intro q h; cases h)) ?_; refine And.intro ?_ (And.intro ?_ ?_) <;> (conv => whnf) <;> (repeat' (first | exact True.intro | (with_reducible exact rfl) | exact (rfl : List.replicate 0 PV.bad = []) | ((with_reducible refine And.intro ?_ ?_) <;> (first | (with_reducible exact wkV_same _ rfl) | exact wkV_pt rfl rfl | exact wkV_ow rfl rfl rfl | (refine wkV_ow rfl rfl ?_) | (refine wkV_sc (congrArg (Value.int .i64) ?_)) | (refine wkV_sc (congrArg Value.bool ?_)) | exact wkV_ls rfl | ((refine wkV_cl ?_); conv => whnf) | ((refine wkV_tu ?_); conv => whnf) | ((refine wkV_ag ?_); conv => whnf) | (conv => whnf))))))
        rw [wrap_id (by omega) (by omega)]; rfl
  · refine exit_plain rfl ?_
    have : i = 7 := by omega
    subst this
    have e : ((List.range 7).any fun i => nearI a b i) = false := by
      rw [List.any_eq_false]
      intro j hj
      simp [hp j (List.mem_range.1 hj)]
    simp [nearR, hne, e]
end Go.Proofs

/- Plain facts: near configurations. -/
namespace Go.Proofs
open Go.Pv
set_option maxRecDepth 100000

/-- The same, but for one node. -/
def but (a b : Conf) (n : Nat) : Prop := ∀ j, j ≠ n → tb b.full j = tb a.full j ∧ tb b.wit j = tb a.wit j ∧ tb b.learn j = tb a.learn j ∧ tb b.lwit j = tb a.lwit j

end Go.Proofs

/- Plain facts: what a step changes. -/
namespace Go.Proofs
open Go.Pv
set_option maxRecDepth 100000

def kind4 (f w l x : Bool) : ByteArray := if f then sFull else if w then sWit else if l then sLearn else if x then sLwit else sE
end Go.Proofs

/- Contracts of functions: the reference's steps. -/
namespace Go.Proofs
open Go.Pv
set_option maxRecDepth 100000

theorem nat_or_add : ∀ x : Fin 128, ∀ n : Fin 7, x.val.testBit n.val = false → x.val ||| 2 ^ n.val = x.val + 2 ^ n.val := by decide +kernel
theorem add_bit {x : Int} {n : Nat} (hx : Bits7 x) (hn : n < 7) (h : tb x n = false) : x + shl 1 n = bor x (shl 1 n) := by
  obtain ⟨m, rfl⟩ := Int.eq_ofNat_of_zero_le hx.1
  have hm : m < 128 := by have := hx.2; omega
  rw [tb_nat _ _ (by omega)] at h
  have e := nat_or_add ⟨m, hm⟩ ⟨n, hn⟩ h
  simp only at e
  have h2 : (2 : Nat) ^ n < 2 ^ 7 := Nat.pow_lt_pow_right (by decide) hn
  have hs := shl_one n (by omega)
  have hb : Bits7 (bor (m : Int) (shl 1 n)) := bits7_or hx (bits7_shl hn)
  rw [hs] at *
  have hlt : m ||| 2 ^ n < 128 := Nat.or_lt_two_pow (n := 7) hm h2
  have e2 : ((m : Int) + ((2 ^ n : Nat) : Int)) = ((m ||| 2 ^ n : Nat) : Int) := by rw [e]; simp
  rw [e2]
  refine ext7 ⟨by omega, by omega⟩ hb fun i _ => ?_
  rw [tb_or, tb_nat _ _ (by omega), tb_nat _ _ (by omega), tb_nat _ _ (by omega), Nat.testBit_or]

theorem sub_bit {x : Int} {n : Nat} (hx : Bits7 x) (hn : n < 7) (h : tb x n = true) : x - shl 1 n = bandn x (shl 1 n) := by
  have hb : Bits7 (bandn x (shl 1 n)) := bits7_andn hx
  have h0 : tb (bandn x (shl 1 n)) n = false := by rw [tb_andn', tb_shl n n (by omega)]; simp
  have e := add_bit hb hn h0
  have e2 : bor (bandn x (shl 1 n)) (shl 1 n) = x := ext7 (bits7_or hb (bits7_shl hn)) hx fun i _ => by
    rw [tb_or, tb_andn', tb_shl n i (by omega)]
    by_cases ei : n = i
    · subst ei; simp [h]
    · simp [ei]
  rw [e2] at e
  omega

theorem hasB_node {b : Int} {n : Nat} (hn : n < 7) : hasB b n = tb b n := hasB_nat b n (by omega)
theorem kind_4 (c : Conf) {n : Nat} (hn : n < 7) : kind c n = kind4 (tb c.full n) (tb c.wit n) (tb c.learn n) (tb c.lwit n) := by
  unfold kind kind4
  rw [if_pos (by simp [withinB]; omega)]
  simp only [hasB_node hn]
theorem shl_u {n : Nat} (hn : n < 7) : shl 1 (IntKind.u64.wrap n) = shl 1 n := by rw [wrapu_id (by omega) (by omega)]
theorem shl_small {n : Nat} (hn : n < 7) : 0 < shl 1 n ∧ shl 1 n ≤ 64 := by
  rw [shl_one n (by omega)]
  have : (2 : Nat) ^ n ≤ 2 ^ 6 := Nat.pow_le_pow_right (by decide) (by omega)
  have h2 : 0 < (2 : Nat) ^ n := Nat.pow_pos (by decide)
  omega

end Go.Proofs
