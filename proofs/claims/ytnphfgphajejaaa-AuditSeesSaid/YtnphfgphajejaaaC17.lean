/- Contracts of functions: near configurations. -/
import Derived.Test.YtnphfgphajejaaaC5
import Derived.Test.YtnphfgphajejaaaPvT
namespace Go.Proofs
open Go.Pv
set_option maxRecDepth 100000

theorem c_Near1 (a : Conf) (i : Int) : Ctr Try.prog 190 [.ep a.enc, .ep [iv i]] (cev (learnR a i false)) [] := by
  refine spec_of_body mixed Try.func190 rfl (by kernel_rfl) (by kernel_rfl) ?_; conv => whnf
  ((try ((refine Exists.intro none ?_); (conv => whnf))); first | ((with_reducible refine call_by (c_Learn a i false) ?_); conv => whnf))
  exact exit_plain rfl rfl
theorem c_Near2 (a : Conf) (i : Int) : Ctr Try.prog 191 [.ep a.enc, .ep [iv i]] (cev (learnR a i true)) [] := by
  refine spec_of_body mixed Try.func191 rfl (by kernel_rfl) (by kernel_rfl) ?_; conv => whnf
  ((try ((refine Exists.intro none ?_); (conv => whnf))); first | ((with_reducible refine call_by (c_Learn a i true) ?_); conv => whnf))
  exact exit_plain rfl rfl
theorem c_Near3 (a : Conf) (i : Int) : Ctr Try.prog 192 [.ep a.enc, .ep [iv i]] (cev (promoteR a i)) [] := by
  refine spec_of_body mixed Try.func192 rfl (by kernel_rfl) (by kernel_rfl) ?_; conv => whnf
  ((try ((refine Exists.intro none ?_); (conv => whnf))); first | ((with_reducible refine call_by (c_Promote a i) ?_); conv => whnf))
  exact exit_plain rfl rfl
theorem c_Near4 (a : Conf) (i : Int) : Ctr Try.prog 193 [.ep a.enc, .ep [iv i]] (cev (removeR a i)) [] := by
  refine spec_of_body mixed Try.func193 rfl (by kernel_rfl) (by kernel_rfl) ?_; conv => whnf
  ((try ((refine Exists.intro none ?_); (conv => whnf))); first | ((with_reducible refine call_by (c_Remove a i) ?_); conv => whnf))
  exact exit_plain rfl rfl

theorem eqOk23 : EqOk Try.prog 23 := ⟨by kernel_rfl, by kernel_rfl, by kernel_rfl, by kernel_rfl⟩
theorem eqConf (a b : Conf) : eqInts (Try.prog.fieldsOf 23).toList a.enc b.enc = some (decide (a = b)) := by
  have h : eqInts (Try.prog.fieldsOf 23).toList a.enc b.enc = some (a.full == b.full && (a.wit == b.wit && (a.learn == b.learn && (a.lwit == b.lwit && true)))) := by kernel_rfl
  rw [h]
  congr 1
  rw [Bool.eq_iff_iff]
  simp only [Bool.and_eq_true, beq_iff_eq, decide_eq_true_eq, and_true]
  exact ⟨fun ⟨h1, h2, h3, h4⟩ => Conf.ext' h1 h2 h3 h4, fun e => by subst e; exact ⟨rfl, rfl, rfl, rfl⟩⟩

def hitS (s : Conf × Int) (b : Conf) : Bool := s.2 == 0 && decide (s.1 = b)
noncomputable def stp (a : Conf) (i : Int) (k : Nat) : Conf × Int := match k with
  | 0 => learnR a i false
  | 1 => learnR a i true
  | 2 => promoteR a i
  | _ => removeR a i
noncomputable def nearI (a b : Conf) (i : Int) : Bool := hitS (learnR a i false) b || (hitS (learnR a i true) b || (hitS (promoteR a i) b || hitS (removeR a i) b))
noncomputable def nearR (a b : Conf) : Bool := confB a && (confB b && (decide (a = b) || (List.range 7).any fun i => nearI a b i))

set_option maxHeartbeats 2000000 in
theorem c_Near (a b : Conf) : Ctr Try.prog 100 [.ag a.enc, .ag b.enc] (bv (nearR a b)) [] := by
  refine spec_of_body mixed Try.func100 rfl (by kernel_rfl) (by kernel_rfl) ?_; conv => whnf
  ((try ((refine Exists.intro none ?_); (conv => whnf))); first | ((with_reducible refine call_by (c_Check a) ?_); conv => whnf))
  cases ha : confB a
  · simp only [Bool.false_eq_true, if_false]
    conv => whnf
    exact exit_plain rfl (by simp [nearR, ha])
  simp only [if_true]
  conv => whnf
  ((try ((refine Exists.intro none ?_); (conv => whnf))); first | ((with_reducible refine call_by (c_Check b) ?_); conv => whnf))
  cases hb : confB b
  · simp only [Bool.false_eq_true, if_false]
    conv => whnf
    exact exit_plain rfl (by simp [nearR, hb])
  simp only [if_true]
  conv => whnf
  refine ⟨eqOk23, _, eqConf a b, ?_⟩
  conv => whnf
  ((first | (with_reducible refine split_dec (fun h => ?_) (fun h => ?_)) | (with_reducible refine split_beq (fun h => ?_) (fun h => ?_)) | (with_reducible refine split_bne (fun h => ?_) (fun h => ?_)) | (with_reducible refine split_not (fun h => ?_) (fun h => ?_)) | (with_reducible refine split_beqS (fun h => ?_) (fun h => ?_)) | (with_reducible refine split_intro (fun h => ?_) (fun h => ?_))) <;> conv => whnf)
  · exact exit_plain rfl (by simp [nearR, ha, hb, h])
  have hne := h
  have yes : ∀ i : Nat, i < 7 → nearI a b i = true → nearR a b = true := by
    intro i hi h
    simp only [nearR, ha, hb, Bool.true_and, Bool.or_eq_true, List.any_eq_true]
    exact .inr ⟨i, List.mem_range.2 hi, h⟩
  refine tri_forB mixed (by kernel_rfl) (fun i : Nat => i ≤ 7 ∧ ∀ j : Nat, j < i → nearI a b j = false) (fun i => [(21, iv i)]) (fun _ => [(2, a.enc), (3, b.enc)]) [] (fun i => 7 - i) 0 ⟨by decide, fun j h => absurd h (Nat.not_lt_zero _)⟩ ?_ ?_
  · conv => whnf
    (refine And.intro (And.intro (by with_unfolding_all rfl) (by intro q h; cases h)) ?_; refine And.intro ?_ (And.intro ?_ ?_) <;> (conv => whnf) <;> (repeat' (first | exact True.intro | (with_reducible exact rfl) | exact (rfl : List.replicate 0 PV.bad = []) | ((with_reducible refine And.intro ?_ ?_) <;> (first | (with_reducible exact wkV_same _ rfl) | exact wkV_pt rfl rfl | exact wkV_ow rfl rfl rfl | (refine wkV_ow rfl rfl ?_) | (refine wkV_sc (congrArg (Value.int .i64) ?_)) | (refine wkV_sc (congrArg Value.bool ?_)) | exact wkV_ls rfl | ((refine wkV_cl ?_); conv => whnf) | ((refine wkV_tu ?_); conv => whnf) | ((refine wkV_ag ?_); conv => whnf) | (conv => whnf))))))
    all_goals rfl
  rintro i ⟨hi, hp⟩
  conv => whnf
  ((first | (with_reducible refine split_dec (fun h => ?_) (fun h => ?_)) | (with_reducible refine split_beq (fun h => ?_) (fun h => ?_)) | (with_reducible refine split_bne (fun h => ?_) (fun h => ?_)) | (with_reducible refine split_not (fun h => ?_) (fun h => ?_)) | (with_reducible refine split_beqS (fun h => ?_) (fun h => ?_)) | (with_reducible refine split_intro (fun h => ?_) (fun h => ?_))) <;> conv => whnf)
  · refine tri_forB mixed (by kernel_rfl) (fun k : Nat => k ≤ 4 ∧ ∀ j : Nat, j < k → hitS (stp a i j) b = false) (fun k => [(30, iv k)]) (fun _ => [(2, a.enc), (3, b.enc), (5, [iv i])]) [] (fun k => 4 - k) 0 ⟨by decide, fun j h => absurd h (Nat.not_lt_zero _)⟩ ?_ ?_
    · conv => whnf
      (refine And.intro (And.intro (by with_unfolding_all rfl) (by intro q h; cases h)) ?_; refine And.intro ?_ (And.intro ?_ ?_) <;> (conv => whnf) <;> (repeat' (first | exact True.intro | (with_reducible exact rfl) | exact (rfl : List.replicate 0 PV.bad = []) | ((with_reducible refine And.intro ?_ ?_) <;> (first | (with_reducible exact wkV_same _ rfl) | exact wkV_pt rfl rfl | exact wkV_ow rfl rfl rfl | (refine wkV_ow rfl rfl ?_) | (refine wkV_sc (congrArg (Value.int .i64) ?_)) | (refine wkV_sc (congrArg Value.bool ?_)) | exact wkV_ls rfl | ((refine wkV_cl ?_); conv => whnf) | ((refine wkV_tu ?_); conv => whnf) | ((refine wkV_ag ?_); conv => whnf) | (conv => whnf))))))
      all_goals rfl
    rintro k ⟨hk, hq⟩
    rcases (by omega : k = 0 ∨ k = 1 ∨ k = 2 ∨ k = 3 ∨ k = 4) with rfl | rfl | rfl | rfl | rfl
    · conv => whnf
      ((with_reducible refine And.intro (by with_unfolding_all decide) ?_); refine Exists.intro _ (And.intro (by with_unfolding_all rfl) ?_); conv => whnf)
      ((try ((refine Exists.intro none ?_); (conv => whnf))); first | ((with_reducible refine call_by (c_Near1 a i) ?_); conv => whnf))
      ((first | (with_reducible refine split_dec (fun h => ?_) (fun h => ?_)) | (with_reducible refine split_beq (fun h => ?_) (fun h => ?_)) | (with_reducible refine split_bne (fun h => ?_) (fun h => ?_)) | (with_reducible refine split_not (fun h => ?_) (fun h => ?_)) | (with_reducible refine split_beqS (fun h => ?_) (fun h => ?_)) | (with_reducible refine split_intro (fun h => ?_) (fun h => ?_))) <;> conv => whnf)
      · have h1 := h
        refine ⟨eqOk23, _, eqConf _ b, ?_⟩
        conv => whnf
        ((first | (with_reducible refine split_dec (fun h => ?_) (fun h => ?_)) | (with_reducible refine split_beq (fun h => ?_) (fun h => ?_)) | (with_reducible refine split_bne (fun h => ?_) (fun h => ?_)) | (with_reducible refine split_not (fun h => ?_) (fun h => ?_)) | (with_reducible refine split_beqS (fun h => ?_) (fun h => ?_)) | (with_reducible refine split_intro (fun h => ?_) (fun h => ?_))) <;> conv => whnf)
        · refine exit_plain rfl ?_
          rw [yes i (by omega) (by simp [nearI, hitS, h1, h])]
        · refine ⟨1, ⟨⟨by omega, ?_⟩, by omega⟩, ?_⟩
          · intro j hj
            by_cases e : j = 0
            · subst e; simp [hitS, stp, h]
            · exact hq j (by omega)
          · conv => whnf
            (refine And.intro (And.intro (by with_unfolding_all rfl) (by intro q h; cases h)) ?_; refine And.intro ?_ (And.intro ?_ ?_) <;> (conv => whnf) <;> (repeat' (first | exact True.intro | (with_reducible exact rfl) | exact (rfl : List.replicate 0 PV.bad = []) | ((with_reducible refine And.intro ?_ ?_) <;> (first | (with_reducible exact wkV_same _ rfl) | exact wkV_pt rfl rfl | exact wkV_ow rfl rfl rfl | (refine wkV_ow rfl rfl ?_) | (refine wkV_sc (congrArg (Value.int .i64) ?_)) | (refine wkV_sc (congrArg Value.bool ?_)) | exact wkV_ls rfl | ((refine wkV_cl ?_); conv => whnf) | ((refine wkV_tu ?_); conv => whnf) | ((refine wkV_ag ?_); conv => whnf) | (conv => whnf))))))
            all_goals rfl
      · refine ⟨1, ⟨⟨by omega, ?_⟩, by omega⟩, ?_⟩
        · intro j hj
          by_cases e : j = 0
          · subst e; simp [hitS, stp, h]
          · exact hq j (by omega)
        · conv => whnf
          (refine And.intro (And.intro (by with_unfolding_all rfl) (by intro q h; cases h)) ?_; refine And.intro ?_ (And.intro ?_ ?_) <;> (conv => whnf) <;> (repeat' (first | exact True.intro | (with_reducible exact rfl) | exact (rfl : List.replicate 0 PV.bad = []) | ((with_reducible refine And.intro ?_ ?_) <;> (first | (with_reducible exact wkV_same _ rfl) | exact wkV_pt rfl rfl | exact wkV_ow rfl rfl rfl | (refine wkV_ow rfl rfl ?_) | (refine wkV_sc (congrArg (Value.int .i64) ?_)) | (refine wkV_sc (congrArg Value.bool ?_)) | exact wkV_ls rfl | ((refine wkV_cl ?_); conv => whnf) | ((refine wkV_tu ?_); conv => whnf) | ((refine wkV_ag ?_); conv => whnf) | (conv => whnf))))))
          all_goals rfl
    · conv => whnf
      ((with_reducible refine And.intro (by with_unfolding_all decide) ?_); refine Exists.intro _ (And.intro (by with_unfolding_all rfl) ?_); conv => whnf)
      ((try ((refine Exists.intro none ?_); (conv => whnf))); first | ((with_reducible refine call_by (c_Near2 a i) ?_); conv => whnf))
      ((first | (with_reducible refine split_dec (fun h => ?_) (fun h => ?_)) | (with_reducible refine split_beq (fun h => ?_) (fun h => ?_)) | (with_reducible refine split_bne (fun h => ?_) (fun h => ?_)) | (with_reducible refine split_not (fun h => ?_) (fun h => ?_)) | (with_reducible refine split_beqS (fun h => ?_) (fun h => ?_)) | (with_reducible refine split_intro (fun h => ?_) (fun h => ?_))) <;> conv => whnf)
      · have h1 := h
        refine ⟨eqOk23, _, eqConf _ b, ?_⟩
        conv => whnf
        ((first | (with_reducible refine split_dec (fun h => ?_) (fun h => ?_)) | (with_reducible refine split_beq (fun h => ?_) (fun h => ?_)) | (with_reducible refine split_bne (fun h => ?_) (fun h => ?_)) | (with_reducible refine split_not (fun h => ?_) (fun h => ?_)) | (with_reducible refine split_beqS (fun h => ?_) (fun h => ?_)) | (with_reducible refine split_intro (fun h => ?_) (fun h => ?_))) <;> conv => whnf)
        · refine exit_plain rfl ?_
          rw [yes i (by omega) (by simp [nearI, hitS, h1, h])]
        · refine ⟨2, ⟨⟨by omega, ?_⟩, by omega⟩, ?_⟩
          · intro j hj
            by_cases e : j = 1
            · subst e; simp [hitS, stp, h]
            · exact hq j (by omega)
          · conv => whnf
            (refine And.intro (And.intro (by with_unfolding_all rfl) (by intro q h; cases h)) ?_; refine And.intro ?_ (And.intro ?_ ?_) <;> (conv => whnf) <;> (repeat' (first | exact True.intro | (with_reducible exact rfl) | exact (rfl : List.replicate 0 PV.bad = []) | ((with_reducible refine And.intro ?_ ?_) <;> (first | (with_reducible exact wkV_same _ rfl) | exact wkV_pt rfl rfl | exact wkV_ow rfl rfl rfl | (refine wkV_ow rfl rfl ?_) | (refine wkV_sc (congrArg (Value.int .i64) ?_)) | (refine wkV_sc (congrArg Value.bool ?_)) | exact wkV_ls rfl | ((refine wkV_cl ?_); conv => whnf) | ((refine wkV_tu ?_); conv => whnf) | ((refine wkV_ag ?_); conv => whnf) | (conv => whnf))))))
            all_goals rfl
      · refine ⟨2, ⟨⟨by omega, ?_⟩, by omega⟩, ?_⟩
        · intro j hj
          by_cases e : j = 1
          · subst e; simp [hitS, stp, h]
          · exact hq j (by omega)
        · conv => whnf
          (refine And.intro (And.intro (by with_unfolding_all rfl) (by intro q h; cases h)) ?_; refine And.intro ?_ (And.intro ?_ ?_) <;> (conv => whnf) <;> (repeat' (first | exact True.intro | (with_reducible exact rfl) | exact (rfl : List.replicate 0 PV.bad = []) | ((with_reducible refine And.intro ?_ ?_) <;> (first | (with_reducible exact wkV_same _ rfl) | exact wkV_pt rfl rfl | exact wkV_ow rfl rfl rfl | (refine wkV_ow rfl rfl ?_) | (refine wkV_sc (congrArg (Value.int .i64) ?_)) | (refine wkV_sc (congrArg Value.bool ?_)) | exact wkV_ls rfl | ((refine wkV_cl ?_); conv => whnf) | ((refine wkV_tu ?_); conv => whnf) | ((refine wkV_ag ?_); conv => whnf) | (conv => whnf))))))
          all_goals rfl
    · conv => whnf
      ((with_reducible refine And.intro (by with_unfolding_all decide) ?_); refine Exists.intro _ (And.intro (by with_unfolding_all rfl) ?_); conv => whnf)
      ((try ((refine Exists.intro none ?_); (conv => whnf))); first | ((with_reducible refine call_by (c_Near3 a i) ?_); conv => whnf))
      ((first | (with_reducible refine split_dec (fun h => ?_) (fun h => ?_)) | (with_reducible refine split_beq (fun h => ?_) (fun h => ?_)) | (with_reducible refine split_bne (fun h => ?_) (fun h => ?_)) | (with_reducible refine split_not (fun h => ?_) (fun h => ?_)) | (with_reducible refine split_beqS (fun h => ?_) (fun h => ?_)) | (with_reducible refine split_intro (fun h => ?_) (fun h => ?_))) <;> conv => whnf)
      · have h1 := h
        refine ⟨eqOk23, _, eqConf _ b, ?_⟩
        conv => whnf
        ((first | (with_reducible refine split_dec (fun h => ?_) (fun h => ?_)) | (with_reducible refine split_beq (fun h => ?_) (fun h => ?_)) | (with_reducible refine split_bne (fun h => ?_) (fun h => ?_)) | (with_reducible refine split_not (fun h => ?_) (fun h => ?_)) | (with_reducible refine split_beqS (fun h => ?_) (fun h => ?_)) | (with_reducible refine split_intro (fun h => ?_) (fun h => ?_))) <;> conv => whnf)
        · refine exit_plain rfl ?_
          rw [yes i (by omega) (by simp [nearI, hitS, h1, h])]
        · refine ⟨3, ⟨⟨by omega, ?_⟩, by omega⟩, ?_⟩
          · intro j hj
            by_cases e : j = 2
            · subst e; simp [hitS, stp, h]
            · exact hq j (by omega)
          · conv => whnf
            (refine And.intro (And.intro (by with_unfolding_all rfl) (by intro q h; cases h)) ?_; refine And.intro ?_ (And.intro ?_ ?_) <;> (conv => whnf) <;> (repeat' (first | exact True.intro | (with_reducible exact rfl) | exact (rfl : List.replicate 0 PV.bad = []) | ((with_reducible refine And.intro ?_ ?_) <;> (first | (with_reducible exact wkV_same _ rfl) | exact wkV_pt rfl rfl | exact wkV_ow rfl rfl rfl | (refine wkV_ow rfl rfl ?_) | (refine wkV_sc (congrArg (Value.int .i64) ?_)) | (refine wkV_sc (congrArg Value.bool ?_)) | exact wkV_ls rfl | ((refine wkV_cl ?_); conv => whnf) | ((refine wkV_tu ?_); conv => whnf) | ((refine wkV_ag ?_); conv => whnf) | (conv => whnf))))))
            all_goals rfl
      · refine ⟨3, ⟨⟨by omega, ?_⟩, by omega⟩, ?_⟩
        · intro j hj
          by_cases e : j = 2
          · subst e; simp [hitS, stp, h]
          · exact hq j (by omega)
        · conv => whnf
          (refine And.intro (And.intro (by with_unfolding_all rfl) (by intro q h; cases h)) ?_; refine And.intro ?_ (And.intro ?_ ?_) <;> (conv => whnf) <;> (repeat' (first | exact True.intro | (with_reducible exact rfl) | exact (rfl : List.replicate 0 PV.bad = []) | ((with_reducible refine And.intro ?_ ?_) <;> (first | (with_reducible exact wkV_same _ rfl) | exact wkV_pt rfl rfl | exact wkV_ow rfl rfl rfl | (refine wkV_ow rfl rfl ?_) | (refine wkV_sc (congrArg (Value.int .i64) ?_)) | (refine wkV_sc (congrArg Value.bool ?_)) | exact wkV_ls rfl | ((refine wkV_cl ?_); conv => whnf) | ((refine wkV_tu ?_); conv => whnf) | ((refine wkV_ag ?_); conv => whnf) | (conv => whnf))))))
          all_goals rfl
    · conv => whnf
      ((with_reducible refine And.intro (by with_unfolding_all decide) ?_); refine Exists.intro _ (And.intro (by with_unfolding_all rfl) ?_); conv => whnf)
      ((try ((refine Exists.intro none ?_); (conv => whnf))); first | ((with_reducible refine call_by (c_Near4 a i) ?_); conv => whnf))
      ((first | (with_reducible refine split_dec (fun h => ?_) (fun h => ?_)) | (with_reducible refine split_beq (fun h => ?_) (fun h => ?_)) | (with_reducible refine split_bne (fun h => ?_) (fun h => ?_)) | (with_reducible refine split_not (fun h => ?_) (fun h => ?_)) | (with_reducible refine split_beqS (fun h => ?_) (fun h => ?_)) | (with_reducible refine split_intro (fun h => ?_) (fun h => ?_))) <;> conv => whnf)
      · have h1 := h
        refine ⟨eqOk23, _, eqConf _ b, ?_⟩
        conv => whnf
        ((first | (with_reducible refine split_dec (fun h => ?_) (fun h => ?_)) | (with_reducible refine split_beq (fun h => ?_) (fun h => ?_)) | (with_reducible refine split_bne (fun h => ?_) (fun h => ?_)) | (with_reducible refine split_not (fun h => ?_) (fun h => ?_)) | (with_reducible refine split_beqS (fun h => ?_) (fun h => ?_)) | (with_reducible refine split_intro (fun h => ?_) (fun h => ?_))) <;> conv => whnf)
        · refine exit_plain rfl ?_
          rw [yes i (by omega) (by simp [nearI, hitS, h1, h])]
        · refine ⟨4, ⟨⟨by omega, ?_⟩, by omega⟩, ?_⟩
          · intro j hj
            by_cases e : j = 3
            · subst e; simp [hitS, stp, h]
            · exact hq j (by omega)
          · conv => whnf
            (refine And.intro (And.intro (by with_unfolding_all rfl) (by intro q h; cases h)) ?_; refine And.intro ?_ (And.intro ?_ ?_) <;> (conv => whnf) <;> (repeat' (first | exact True.intro | (with_reducible exact rfl) | exact (rfl : List.replicate 0 PV.bad = []) | ((with_reducible refine And.intro ?_ ?_) <;> (first | (with_reducible exact wkV_same _ rfl) | exact wkV_pt rfl rfl | exact wkV_ow rfl rfl rfl | (refine wkV_ow rfl rfl ?_) | (refine wkV_sc (congrArg (Value.int .i64) ?_)) | (refine wkV_sc (congrArg Value.bool ?_)) | exact wkV_ls rfl | ((refine wkV_cl ?_); conv => whnf) | ((refine wkV_tu ?_); conv => whnf) | ((refine wkV_ag ?_); conv => whnf) | (conv => whnf))))))
            all_goals rfl
      · refine ⟨4, ⟨⟨by omega, ?_⟩, by omega⟩, ?_⟩
        · intro j hj
          by_cases e : j = 3
          · subst e; simp [hitS, stp, h]
          · exact hq j (by omega)
        · conv => whnf
          (refine And.intro (And.intro (by with_unfolding_all rfl) (by intro q h; cases h)) ?_; refine And.intro ?_ (And.intro ?_ ?_) <;> (conv => whnf) <;> (repeat' (first | exact True.intro | (with_reducible exact rfl) | exact (rfl : List.replicate 0 PV.bad = []) | ((with_reducible refine And.intro ?_ ?_) <;> (first | (with_reducible exact wkV_same _ rfl) | exact wkV_pt rfl rfl | exact wkV_ow rfl rfl rfl | (refine wkV_ow rfl rfl ?_) | (refine wkV_sc (congrArg (Value.int .i64) ?_)) | (refine wkV_sc (congrArg Value.bool ?_)) | exact wkV_ls rfl | ((refine wkV_cl ?_); conv => whnf) | ((refine wkV_tu ?_); conv => whnf) | ((refine wkV_ag ?_); conv => whnf) | (conv => whnf))))))
          all_goals rfl
    · conv => whnf
      refine ⟨i + 1, ⟨⟨by omega, ?_⟩, by omega⟩, ?_⟩
      · intro j hj
        by_cases e : j = i
        · subst e
          have q0 := hq 0 (by decide)
          have q1 := hq 1 (by decide)
          have q2 := hq 2 (by decide)
          have q3 := hq 3 (by decide)
          simp only [stp] at q0 q1 q2 q3
          simp [nearI, q0, q1, q2, q3]
        · exact hp j (by omega)
      · conv => whnf
        (refine And.intro (And.intro (by with_unfolding_all rfl) (by intro q h; cases h)) ?_; refine And.intro ?_ (And.intro ?_ ?_) <;> (conv => whnf) <;> (repeat' (first | exact True.intro | (with_reducible exact rfl) | exact (rfl : List.replicate 0 PV.bad = []) | ((with_reducible refine And.intro ?_ ?_) <;> (first | (with_reducible exact wkV_same _ rfl) | exact wkV_pt rfl rfl | exact wkV_ow rfl rfl rfl | (refine wkV_ow rfl rfl ?_) | (refine wkV_sc (congrArg (Value.int .i64) ?_)) | (refine wkV_sc (congrArg Value.bool ?_)) | exact wkV_ls rfl | ((refine wkV_cl ?_); conv => whnf) | ((refine wkV_tu ?_); conv => whnf) | ((refine wkV_ag ?_); conv => whnf) | (conv => whnf))))))
        rw [wrap_id (by omega) (by omega)]; rfl
  · refine exit_plain rfl ?_
    have : i = 7 := by omega
    subst this
    have e : ((List.range 7).any fun i => nearI a b i) = false := by
      rw [List.any_eq_false]
      intro j hj
      simp [hp j (List.mem_range.1 hj)]
    simp [nearR, hne, e]
end Go.Proofs
