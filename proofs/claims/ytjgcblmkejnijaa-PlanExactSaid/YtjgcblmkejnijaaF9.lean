/- Contracts of functions: all that could be wanted, as the reference has it; its plan. -/
import Derived.Test.YtjgcblmkejnijaaF8
import Derived.Test.YtjgcblmkejnijaaF3
import Derived.Test.YtjgcblmkejnijaaPvQ3
set_option linter.unusedSimpArgs false
set_option linter.unusedVariables false
namespace Go.Proofs
open Go.Pv
set_option maxRecDepth 100000

noncomputable def rdy1 (c : Conf) (full caught : Int) : Int := if count c.full ≤ full then band c.learn caught else 0
noncomputable def rdyR (c : Conf) (full wit caught : Int) : Int := if count c.wit ≤ wit then bor (rdy1 c full caught) (band c.lwit caught) else rdy1 c full caught
def moreI (b : Prop) [Decidable b] (r : Conf × Int) : List (List PV) := if b then moreS r else []
/-- Somebody is to learn. -/
def lackB (learn voters should silent : Int) : Prop := learn = 0 ∧ (count voters < should ∨ count voters = should ∧ ¬ band (band voters silent) 127 = 0)
noncomputable instance (a b c d : Int) : Decidable (lackB a b c d) := by unfold lackB; infer_instance
noncomputable def rest1 (c : Conf) (silent : Int) : List (List PV) := moreS (removeR c (lowB (band (bor c.learn c.lwit) silent)))
noncomputable def rest2 (c : Conf) (full wit caught silent : Int) : List (List PV) := rest1 c silent ++ moreS (promoteR c (lowB (rdyR c full wit caught)))
noncomputable def rest3 (c : Conf) (full wit caught silent : Int) : List (List PV) := rest2 c full wit caught silent ++ moreI (full < count c.full) (removeR c (lowB (band c.full silent)))
noncomputable def rest4 (c : Conf) (full wit caught silent : Int) : List (List PV) := rest3 c full wit caught silent ++ moreI (wit < count c.wit) (removeR c (lowB (band c.wit silent)))
noncomputable def rest5 (c : Conf) (full wit caught silent : Int) (p : List Pl) (spare : Int) : List (List PV) := rest4 c full wit caught silent ++ moreI (lackB c.learn c.full full silent) (learnR c (bestP p (bandn (bandn spare (allB c)) silent)) false)
noncomputable def rest6 (c : Conf) (full wit caught silent : Int) (p : List Pl) (spare spareW : Int) : List (List PV) := rest5 c full wit caught silent p spare ++ moreI (lackB c.lwit c.wit wit silent) (learnR c (bestP p (bandn (bandn spareW (allB c)) silent)) true)
theorem moreI_len (b : Prop) [Decidable b] (r : Conf × Int) : (moreI b r).length ≤ 1 := by
  unfold moreI; split
  · exact moreS_len r
  · simp

set_option maxHeartbeats 4000000 in
theorem c_wants (c : Conf) (full wit : Int) (p : List Pl) (hl : p.length ≤ 4294967) (hp : plsB p = true) (spare spareW silent caught : Int) :
    Ctr Try.prog 95 [.ag c.enc, iv full, iv wit, .sl 4 (p.map Pl.enc), iv spare, iv spareW, iv silent, iv caught] (.ow 0 0 (rest6 c full wit caught silent p spare spareW).length) [(5, rest6 c full wit caught silent p spare spareW)] := by
  have k1 := c_ofRemove c (lowB (band (bor c.learn c.lwit) silent))
  have k2 := fun b => c_ofPromote c (lowB b)
  have k3 := c_ofRemove c (lowB (band c.full silent))
  have k4 := c_ofRemove c (lowB (band c.wit silent))
  have kb1 := c_rBest p hl hp (bandn (bandn spare (allB c)) silent)
  have kb2 := c_rBest p hl hp (bandn (bandn spareW (allB c)) silent)
  have k5 := c_ofLearn c (bestP p (bandn (bandn spare (allB c)) silent)) false
  have k6 := c_ofLearn c (bestP p (bandn (bandn spareW (allB c)) silent)) true
  have s1 : Ctr Try.prog 118 [.nl, wantE (removeR c (lowB (band (bor c.learn c.lwit) silent)))] (.ow 0 0 (rest1 c silent).length) [(5, rest1 c silent)] := c_step0 (removeR c (lowB (band (bor c.learn c.lwit) silent)))
  have ka := c_rAll c
  have l1 := moreS_len (removeR c (lowB (band (bor c.learn c.lwit) silent)))
  have m1 : (rest1 c silent).length ≤ 1 := moreS_len _
  have m2 : (rest2 c full wit caught silent).length ≤ 2 := by unfold rest2; rw [List.length_append]; have := moreS_len (promoteR c (lowB (rdyR c full wit caught))); omega
  have m3 : (rest3 c full wit caught silent).length ≤ 3 := by unfold rest3; rw [List.length_append]; have := moreI_len (full < count c.full) (removeR c (lowB (band c.full silent))); omega
  have m4 : (rest4 c full wit caught silent).length ≤ 4 := by unfold rest4; rw [List.length_append]; have := moreI_len (wit < count c.wit) (removeR c (lowB (band c.wit silent))); omega
  have m5 : (rest5 c full wit caught silent p spare).length ≤ 5 := by unfold rest5; rw [List.length_append]; have := moreI_len (lackB c.learn c.full full silent) (learnR c (bestP p (bandn (bandn spare (allB c)) silent)) false); omega
  refine spec_of_tri mixed Try.func95 rfl (by kernel_rfl) (by kernel_rfl) ?_
  refine tri_seq mixed (by kernel_rfl) ?_
  conv => whnf
  refine tri_seq mixed (by kernel_rfl) ?_
  conv => whnf
  refine tri_seq mixed (by kernel_rfl) ?_
  conv => whnf
  ((try ((refine Exists.intro none ?_); (conv => whnf))); first | ((with_reducible refine call_by (c_rCount c.full) ?_); conv => whnf))
  ((try ((refine Exists.intro none ?_); (conv => whnf))); first | ((with_reducible refine call_by (c_rCount c.wit) ?_); conv => whnf))
  refine tri_seq mixed (by kernel_rfl) ?_
  conv => whnf
  ((try ((refine Exists.intro none ?_); (conv => whnf))); first | ((with_reducible refine call_by (c_rLowest (band (bor c.learn c.lwit) silent)) ?_); conv => whnf))
  ((try ((refine Exists.intro none ?_); (conv => whnf))); first | ((with_reducible refine call_by (k1) ?_); conv => whnf))
  ((try ((refine Exists.intro none ?_); (conv => whnf))); first | ((with_reducible refine call_by (s1) ?_); conv => whnf))
  (refine Exists.intro _ (And.intro rfl (And.intro (by intro q hq; first | (cases hq; done) | (simp only [List.mem_cons, List.not_mem_nil, or_false] at hq; rcases hq with rfl | rfl <;> (simp only [List.length_cons, List.length_nil]; omega)) | (simp only [List.mem_cons, List.not_mem_nil, or_false] at hq; subst hq; simp only [List.length_cons, List.length_nil]; omega)) (And.intro (by intro i hi; simp only [List.length_cons, List.length_nil, Nat.lt_one_iff, Nat.zero_add] at hi; subst hi; rfl) ?_))); conv => whnf)
  refine tri_seq mixed (by kernel_rfl) ?_
  conv => whnf
  refine tri_cut mixed (by kernel_rfl) (fun b : Int => b = rdy1 c full caught) (fun b => [(20, iv b), (38, .bad)]) (fun _ => [(8, c.enc)]) (fun _ => [(608, some (false, 5, rest1 c silent))]) ?_ ?_
  · conv => whnf
    ((first | (with_reducible refine split_dec (fun h => ?_) (fun h => ?_)) | (with_reducible refine split_beq (fun h => ?_) (fun h => ?_)) | (with_reducible refine split_bne (fun h => ?_) (fun h => ?_)) | (with_reducible refine split_not (fun h => ?_) (fun h => ?_)) | (with_reducible refine split_beqS (fun h => ?_) (fun h => ?_)) | (with_reducible refine split_intro (fun h => ?_) (fun h => ?_))) <;> conv => whnf)
    · refine ⟨_, [(608, 608)], by unfold rdy1; first | (rw [if_pos h]; done) | (rw [if_pos h]; rfl), ?_⟩
      conv => whnf
      (refine And.intro (And.intro (by with_unfolding_all rfl) (by intro q h; cases h)) ?_; refine And.intro ?_ (And.intro ?_ ?_) <;> (conv => whnf) <;> (repeat' (first | exact True.intro | (with_reducible exact rfl) | exact (rfl : List.replicate 0 PV.bad = []) | ((with_reducible refine And.intro ?_ ?_) <;> (first | (with_reducible exact wkV_same _ rfl) | exact wkV_pt rfl rfl | exact wkV_ow rfl rfl rfl | (refine wkV_ow rfl rfl ?_) | (refine wkV_sc (congrArg (Value.int .i64) ?_)) | (refine wkV_sc (congrArg Value.bool ?_)) | exact wkV_ls rfl | ((refine wkV_cl ?_); conv => whnf) | ((refine wkV_tu ?_); conv => whnf) | ((refine wkV_ag ?_); conv => whnf) | (conv => whnf))))))
      all_goals first | rfl | trace_state
    · refine ⟨_, [(608, 608)], by unfold rdy1; rw [if_neg h], ?_⟩
      conv => whnf
      (refine And.intro (And.intro (by with_unfolding_all rfl) (by intro q h; cases h)) ?_; refine And.intro ?_ (And.intro ?_ ?_) <;> (conv => whnf) <;> (repeat' (first | exact True.intro | (with_reducible exact rfl) | exact (rfl : List.replicate 0 PV.bad = []) | ((with_reducible refine And.intro ?_ ?_) <;> (first | (with_reducible exact wkV_same _ rfl) | exact wkV_pt rfl rfl | exact wkV_ow rfl rfl rfl | (refine wkV_ow rfl rfl ?_) | (refine wkV_sc (congrArg (Value.int .i64) ?_)) | (refine wkV_sc (congrArg Value.bool ?_)) | exact wkV_ls rfl | ((refine wkV_cl ?_); conv => whnf) | ((refine wkV_tu ?_); conv => whnf) | ((refine wkV_ag ?_); conv => whnf) | (conv => whnf))))))
      all_goals first | rfl | trace_state
  rintro b hb
  conv => whnf
  refine tri_cut mixed (by kernel_rfl) (fun b : Int => b = rdyR c full wit caught) (fun b => [(20, iv b)]) (fun _ => [(8, c.enc)]) (fun _ => [(608, some (false, 5, rest1 c silent))]) ?_ ?_
  · conv => whnf
    ((first | (with_reducible refine split_dec (fun h => ?_) (fun h => ?_)) | (with_reducible refine split_beq (fun h => ?_) (fun h => ?_)) | (with_reducible refine split_bne (fun h => ?_) (fun h => ?_)) | (with_reducible refine split_not (fun h => ?_) (fun h => ?_)) | (with_reducible refine split_beqS (fun h => ?_) (fun h => ?_)) | (with_reducible refine split_intro (fun h => ?_) (fun h => ?_))) <;> conv => whnf)
    · refine ⟨_, [(608, 608)], by unfold rdyR; first | (rw [if_pos h, ← hb]; done) | (rw [if_pos h, ← hb]; rfl), ?_⟩
      conv => whnf
      (refine And.intro (And.intro (by with_unfolding_all rfl) (by intro q h; cases h)) ?_; refine And.intro ?_ (And.intro ?_ ?_) <;> (conv => whnf) <;> (repeat' (first | exact True.intro | (with_reducible exact rfl) | exact (rfl : List.replicate 0 PV.bad = []) | ((with_reducible refine And.intro ?_ ?_) <;> (first | (with_reducible exact wkV_same _ rfl) | exact wkV_pt rfl rfl | exact wkV_ow rfl rfl rfl | (refine wkV_ow rfl rfl ?_) | (refine wkV_sc (congrArg (Value.int .i64) ?_)) | (refine wkV_sc (congrArg Value.bool ?_)) | exact wkV_ls rfl | ((refine wkV_cl ?_); conv => whnf) | ((refine wkV_tu ?_); conv => whnf) | ((refine wkV_ag ?_); conv => whnf) | (conv => whnf))))))
      all_goals first | rfl | trace_state
    · refine ⟨_, [(608, 608)], by unfold rdyR; rw [if_neg h, ← hb], ?_⟩
      conv => whnf
      (refine And.intro (And.intro (by with_unfolding_all rfl) (by intro q h; cases h)) ?_; refine And.intro ?_ (And.intro ?_ ?_) <;> (conv => whnf) <;> (repeat' (first | exact True.intro | (with_reducible exact rfl) | exact (rfl : List.replicate 0 PV.bad = []) | ((with_reducible refine And.intro ?_ ?_) <;> (first | (with_reducible exact wkV_same _ rfl) | exact wkV_pt rfl rfl | exact wkV_ow rfl rfl rfl | (refine wkV_ow rfl rfl ?_) | (refine wkV_sc (congrArg (Value.int .i64) ?_)) | (refine wkV_sc (congrArg Value.bool ?_)) | exact wkV_ls rfl | ((refine wkV_cl ?_); conv => whnf) | ((refine wkV_tu ?_); conv => whnf) | ((refine wkV_ag ?_); conv => whnf) | (conv => whnf))))))
      all_goals first | rfl | trace_state
  rintro b rfl
  conv => whnf
  refine tri_cut mixed (by kernel_rfl) (fun _ : Unit => True) (fun _ => [(17, .ow 608 0 (rest2 c full wit caught silent).length)]) (fun _ => [(8, c.enc)]) (fun _ => [(608, some (false, 5, rest2 c full wit caught silent))]) ?_ ?_
  · conv => whnf
    ((try ((refine Exists.intro none ?_); (conv => whnf))); first | ((with_reducible refine call_by (c_rLowest (rdyR c full wit caught)) ?_); conv => whnf))
    ((try ((refine Exists.intro none ?_); (conv => whnf))); first | ((with_reducible refine call_by (k2 (rdyR c full wit caught)) ?_); conv => whnf))
    by_cases h0 : (promoteR c (lowB (rdyR c full wit caught))).2 = 0
    · have eq : rest2 c full wit caught silent = (rest1 c silent) ++ [stepV (promoteR c (lowB (rdyR c full wit caught))).1] := by unfold rest2 moreS; rw [if_pos h0]
      ((refine Exists.intro (some ([], [(1000000, 608)], [(224, 960)])) ?_); (conv => whnf); first | ((with_reducible refine callE_by (c_stepY ((rest1 c silent)) (by omega) (promoteR c (lowB (rdyR c full wit caught))) h0) ?_); conv => whnf))
      refine ⟨(), [(608, 960)], trivial, ?_⟩
      conv => whnf
      (refine And.intro (And.intro (by with_unfolding_all rfl) (by intro q h; cases h)) ?_; refine And.intro ?_ (And.intro ?_ ?_) <;> (conv => whnf) <;> (repeat' (first | exact True.intro | (with_reducible exact rfl) | exact (rfl : List.replicate 0 PV.bad = []) | ((with_reducible refine And.intro ?_ ?_) <;> (first | (with_reducible exact wkV_same _ rfl) | exact wkV_pt rfl rfl | exact wkV_ow rfl rfl rfl | (refine wkV_ow rfl rfl ?_) | (refine wkV_sc (congrArg (Value.int .i64) ?_)) | (refine wkV_sc (congrArg Value.bool ?_)) | exact wkV_ls rfl | ((refine wkV_cl ?_); conv => whnf) | ((refine wkV_tu ?_); conv => whnf) | ((refine wkV_ag ?_); conv => whnf) | (conv => whnf))))))
      all_goals first | (exact obj_eq (by kernel_rfl) eq.symm) | (rw [eq]; done) | rfl | trace_state
    · have eq : rest2 c full wit caught silent = (rest1 c silent) := by unfold rest2 moreS; rw [if_neg h0, List.append_nil]
      ((refine Exists.intro (some ([], [(1000000, 608)], [])) ?_); (conv => whnf); first | ((with_reducible refine callE_by (c_stepN ((rest1 c silent)) (promoteR c (lowB (rdyR c full wit caught))) h0) ?_); conv => whnf))
      refine ⟨(), [(608, 608)], trivial, ?_⟩
      conv => whnf
      (refine And.intro (And.intro (by with_unfolding_all rfl) (by intro q h; cases h)) ?_; refine And.intro ?_ (And.intro ?_ ?_) <;> (conv => whnf) <;> (repeat' (first | exact True.intro | (with_reducible exact rfl) | exact (rfl : List.replicate 0 PV.bad = []) | ((with_reducible refine And.intro ?_ ?_) <;> (first | (with_reducible exact wkV_same _ rfl) | exact wkV_pt rfl rfl | exact wkV_ow rfl rfl rfl | (refine wkV_ow rfl rfl ?_) | (refine wkV_sc (congrArg (Value.int .i64) ?_)) | (refine wkV_sc (congrArg Value.bool ?_)) | exact wkV_ls rfl | ((refine wkV_cl ?_); conv => whnf) | ((refine wkV_tu ?_); conv => whnf) | ((refine wkV_ag ?_); conv => whnf) | (conv => whnf))))))
      all_goals first | (exact obj_eq (by kernel_rfl) eq.symm) | (rw [eq]; done) | rfl | trace_state
  rintro _ _
  conv => whnf
  refine tri_cut mixed (by kernel_rfl) (fun _ : Unit => True) (fun _ => [(17, .ow 608 0 (rest3 c full wit caught silent).length)]) (fun _ => [(8, c.enc)]) (fun _ => [(608, some (false, 5, rest3 c full wit caught silent))]) ?_ ?_
  · conv => whnf
    ((first | (with_reducible refine split_dec (fun h => ?_) (fun h => ?_)) | (with_reducible refine split_beq (fun h => ?_) (fun h => ?_)) | (with_reducible refine split_bne (fun h => ?_) (fun h => ?_)) | (with_reducible refine split_not (fun h => ?_) (fun h => ?_)) | (with_reducible refine split_beqS (fun h => ?_) (fun h => ?_)) | (with_reducible refine split_intro (fun h => ?_) (fun h => ?_))) <;> conv => whnf)
    · have hc : full < count c.full := h
      clear h
      ((try ((refine Exists.intro none ?_); (conv => whnf))); first | ((with_reducible refine call_by (c_rLowest (band c.full silent)) ?_); conv => whnf))
      ((try ((refine Exists.intro none ?_); (conv => whnf))); first | ((with_reducible refine call_by (k3) ?_); conv => whnf))
      by_cases h0 : (removeR c (lowB (band c.full silent))).2 = 0
      · have eq : rest3 c full wit caught silent = (rest2 c full wit caught silent) ++ [stepV (removeR c (lowB (band c.full silent))).1] := by unfold rest3 moreI moreS; rw [if_pos hc, if_pos h0]
        ((refine Exists.intro (some ([], [(1000000, 608)], [(224, 1152)])) ?_); (conv => whnf); first | ((with_reducible refine callE_by (c_stepY ((rest2 c full wit caught silent)) (by omega) (removeR c (lowB (band c.full silent))) h0) ?_); conv => whnf))
        refine ⟨(), [(608, 1152)], trivial, ?_⟩
        conv => whnf
        (refine And.intro (And.intro (by with_unfolding_all rfl) (by intro q h; cases h)) ?_; refine And.intro ?_ (And.intro ?_ ?_) <;> (conv => whnf) <;> (repeat' (first | exact True.intro | (with_reducible exact rfl) | exact (rfl : List.replicate 0 PV.bad = []) | ((with_reducible refine And.intro ?_ ?_) <;> (first | (with_reducible exact wkV_same _ rfl) | exact wkV_pt rfl rfl | exact wkV_ow rfl rfl rfl | (refine wkV_ow rfl rfl ?_) | (refine wkV_sc (congrArg (Value.int .i64) ?_)) | (refine wkV_sc (congrArg Value.bool ?_)) | exact wkV_ls rfl | ((refine wkV_cl ?_); conv => whnf) | ((refine wkV_tu ?_); conv => whnf) | ((refine wkV_ag ?_); conv => whnf) | (conv => whnf))))))
        all_goals first | (exact obj_eq (by kernel_rfl) eq.symm) | (rw [eq]; done) | rfl | trace_state
      · have eq : rest3 c full wit caught silent = (rest2 c full wit caught silent) := by unfold rest3 moreI moreS; rw [if_pos hc, if_neg h0, List.append_nil]
        ((refine Exists.intro (some ([], [(1000000, 608)], [])) ?_); (conv => whnf); first | ((with_reducible refine callE_by (c_stepN ((rest2 c full wit caught silent)) (removeR c (lowB (band c.full silent))) h0) ?_); conv => whnf))
        refine ⟨(), [(608, 608)], trivial, ?_⟩
        conv => whnf
        (refine And.intro (And.intro (by with_unfolding_all rfl) (by intro q h; cases h)) ?_; refine And.intro ?_ (And.intro ?_ ?_) <;> (conv => whnf) <;> (repeat' (first | exact True.intro | (with_reducible exact rfl) | exact (rfl : List.replicate 0 PV.bad = []) | ((with_reducible refine And.intro ?_ ?_) <;> (first | (with_reducible exact wkV_same _ rfl) | exact wkV_pt rfl rfl | exact wkV_ow rfl rfl rfl | (refine wkV_ow rfl rfl ?_) | (refine wkV_sc (congrArg (Value.int .i64) ?_)) | (refine wkV_sc (congrArg Value.bool ?_)) | exact wkV_ls rfl | ((refine wkV_cl ?_); conv => whnf) | ((refine wkV_tu ?_); conv => whnf) | ((refine wkV_ag ?_); conv => whnf) | (conv => whnf))))))
        all_goals first | (exact obj_eq (by kernel_rfl) eq.symm) | (rw [eq]; done) | rfl | trace_state
    · have hc : ¬ (full < count c.full) := h
      clear h
      have eq : rest3 c full wit caught silent = (rest2 c full wit caught silent) := by unfold rest3 moreI; rw [if_neg hc, List.append_nil]
      refine ⟨(), [(608, 608)], trivial, ?_⟩
      conv => whnf
      (refine And.intro (And.intro (by with_unfolding_all rfl) (by intro q h; cases h)) ?_; refine And.intro ?_ (And.intro ?_ ?_) <;> (conv => whnf) <;> (repeat' (first | exact True.intro | (with_reducible exact rfl) | exact (rfl : List.replicate 0 PV.bad = []) | ((with_reducible refine And.intro ?_ ?_) <;> (first | (with_reducible exact wkV_same _ rfl) | exact wkV_pt rfl rfl | exact wkV_ow rfl rfl rfl | (refine wkV_ow rfl rfl ?_) | (refine wkV_sc (congrArg (Value.int .i64) ?_)) | (refine wkV_sc (congrArg Value.bool ?_)) | exact wkV_ls rfl | ((refine wkV_cl ?_); conv => whnf) | ((refine wkV_tu ?_); conv => whnf) | ((refine wkV_ag ?_); conv => whnf) | (conv => whnf))))))
      all_goals first | (exact obj_eq (by kernel_rfl) eq.symm) | (rw [eq]; done) | rfl | trace_state
  rintro _ _
  conv => whnf
  refine tri_cut mixed (by kernel_rfl) (fun _ : Unit => True) (fun _ => [(17, .ow 608 0 (rest4 c full wit caught silent).length)]) (fun _ => [(8, c.enc)]) (fun _ => [(608, some (false, 5, rest4 c full wit caught silent))]) ?_ ?_
  · conv => whnf
    ((first | (with_reducible refine split_dec (fun h => ?_) (fun h => ?_)) | (with_reducible refine split_beq (fun h => ?_) (fun h => ?_)) | (with_reducible refine split_bne (fun h => ?_) (fun h => ?_)) | (with_reducible refine split_not (fun h => ?_) (fun h => ?_)) | (with_reducible refine split_beqS (fun h => ?_) (fun h => ?_)) | (with_reducible refine split_intro (fun h => ?_) (fun h => ?_))) <;> conv => whnf)
    · have hc : wit < count c.wit := h
      clear h
      ((try ((refine Exists.intro none ?_); (conv => whnf))); first | ((with_reducible refine call_by (c_rLowest (band c.wit silent)) ?_); conv => whnf))
      ((try ((refine Exists.intro none ?_); (conv => whnf))); first | ((with_reducible refine call_by (k4) ?_); conv => whnf))
      by_cases h0 : (removeR c (lowB (band c.wit silent))).2 = 0
      · have eq : rest4 c full wit caught silent = (rest3 c full wit caught silent) ++ [stepV (removeR c (lowB (band c.wit silent))).1] := by unfold rest4 moreI moreS; rw [if_pos hc, if_pos h0]
        ((refine Exists.intro (some ([], [(1000000, 608)], [(224, 1344)])) ?_); (conv => whnf); first | ((with_reducible refine callE_by (c_stepY ((rest3 c full wit caught silent)) (by omega) (removeR c (lowB (band c.wit silent))) h0) ?_); conv => whnf))
        refine ⟨(), [(608, 1344)], trivial, ?_⟩
        conv => whnf
        (refine And.intro (And.intro (by with_unfolding_all rfl) (by intro q h; cases h)) ?_; refine And.intro ?_ (And.intro ?_ ?_) <;> (conv => whnf) <;> (repeat' (first | exact True.intro | (with_reducible exact rfl) | exact (rfl : List.replicate 0 PV.bad = []) | ((with_reducible refine And.intro ?_ ?_) <;> (first | (with_reducible exact wkV_same _ rfl) | exact wkV_pt rfl rfl | exact wkV_ow rfl rfl rfl | (refine wkV_ow rfl rfl ?_) | (refine wkV_sc (congrArg (Value.int .i64) ?_)) | (refine wkV_sc (congrArg Value.bool ?_)) | exact wkV_ls rfl | ((refine wkV_cl ?_); conv => whnf) | ((refine wkV_tu ?_); conv => whnf) | ((refine wkV_ag ?_); conv => whnf) | (conv => whnf))))))
        all_goals first | (exact obj_eq (by kernel_rfl) eq.symm) | (rw [eq]; done) | rfl | trace_state
      · have eq : rest4 c full wit caught silent = (rest3 c full wit caught silent) := by unfold rest4 moreI moreS; rw [if_pos hc, if_neg h0, List.append_nil]
        ((refine Exists.intro (some ([], [(1000000, 608)], [])) ?_); (conv => whnf); first | ((with_reducible refine callE_by (c_stepN ((rest3 c full wit caught silent)) (removeR c (lowB (band c.wit silent))) h0) ?_); conv => whnf))
        refine ⟨(), [(608, 608)], trivial, ?_⟩
        conv => whnf
        (refine And.intro (And.intro (by with_unfolding_all rfl) (by intro q h; cases h)) ?_; refine And.intro ?_ (And.intro ?_ ?_) <;> (conv => whnf) <;> (repeat' (first | exact True.intro | (with_reducible exact rfl) | exact (rfl : List.replicate 0 PV.bad = []) | ((with_reducible refine And.intro ?_ ?_) <;> (first | (with_reducible exact wkV_same _ rfl) | exact wkV_pt rfl rfl | exact wkV_ow rfl rfl rfl | (refine wkV_ow rfl rfl ?_) | (refine wkV_sc (congrArg (Value.int .i64) ?_)) | (refine wkV_sc (congrArg Value.bool ?_)) | exact wkV_ls rfl | ((refine wkV_cl ?_); conv => whnf) | ((refine wkV_tu ?_); conv => whnf) | ((refine wkV_ag ?_); conv => whnf) | (conv => whnf))))))
        all_goals first | (exact obj_eq (by kernel_rfl) eq.symm) | (rw [eq]; done) | rfl | trace_state
    · have hc : ¬ (wit < count c.wit) := h
      clear h
      have eq : rest4 c full wit caught silent = (rest3 c full wit caught silent) := by unfold rest4 moreI; rw [if_neg hc, List.append_nil]
      refine ⟨(), [(608, 608)], trivial, ?_⟩
      conv => whnf
      (refine And.intro (And.intro (by with_unfolding_all rfl) (by intro q h; cases h)) ?_; refine And.intro ?_ (And.intro ?_ ?_) <;> (conv => whnf) <;> (repeat' (first | exact True.intro | (with_reducible exact rfl) | exact (rfl : List.replicate 0 PV.bad = []) | ((with_reducible refine And.intro ?_ ?_) <;> (first | (with_reducible exact wkV_same _ rfl) | exact wkV_pt rfl rfl | exact wkV_ow rfl rfl rfl | (refine wkV_ow rfl rfl ?_) | (refine wkV_sc (congrArg (Value.int .i64) ?_)) | (refine wkV_sc (congrArg Value.bool ?_)) | exact wkV_ls rfl | ((refine wkV_cl ?_); conv => whnf) | ((refine wkV_tu ?_); conv => whnf) | ((refine wkV_ag ?_); conv => whnf) | (conv => whnf))))))
      all_goals first | (exact obj_eq (by kernel_rfl) eq.symm) | (rw [eq]; done) | rfl | trace_state
  rintro _ _
  conv => whnf
  refine tri_cut mixed (by kernel_rfl) (fun _ : Unit => True) (fun _ => [(17, .ow 608 0 (rest5 c full wit caught silent p spare).length)]) (fun _ => [(8, c.enc)]) (fun _ => [(608, some (false, 5, rest5 c full wit caught silent p spare))]) ?_ ?_
  · conv => whnf
    ((first | (with_reducible refine split_dec (fun h => ?_) (fun h => ?_)) | (with_reducible refine split_beq (fun h => ?_) (fun h => ?_)) | (with_reducible refine split_bne (fun h => ?_) (fun h => ?_)) | (with_reducible refine split_not (fun h => ?_) (fun h => ?_)) | (with_reducible refine split_beqS (fun h => ?_) (fun h => ?_)) | (with_reducible refine split_intro (fun h => ?_) (fun h => ?_))) <;> conv => whnf)
    · have h1 := h
      clear h
      ((first | (with_reducible refine split_dec (fun h => ?_) (fun h => ?_)) | (with_reducible refine split_beq (fun h => ?_) (fun h => ?_)) | (with_reducible refine split_bne (fun h => ?_) (fun h => ?_)) | (with_reducible refine split_not (fun h => ?_) (fun h => ?_)) | (with_reducible refine split_beqS (fun h => ?_) (fun h => ?_)) | (with_reducible refine split_intro (fun h => ?_) (fun h => ?_))) <;> conv => whnf)
      · have hc : lackB c.learn c.full full silent := ⟨h1, .inl h⟩
        clear h
        ((try ((refine Exists.intro none ?_); (conv => whnf))); first | ((with_reducible refine call_by (ka) ?_); conv => whnf))
        ((try ((refine Exists.intro none ?_); (conv => whnf))); first | ((with_reducible refine call_by (kb1) ?_); conv => whnf))
        ((try ((refine Exists.intro none ?_); (conv => whnf))); first | ((with_reducible refine call_by (k5) ?_); conv => whnf))
        by_cases h0 : (learnR c (bestP p (bandn (bandn spare (allB c)) silent)) false).2 = 0
        · have eq : rest5 c full wit caught silent p spare = (rest4 c full wit caught silent) ++ [stepV (learnR c (bestP p (bandn (bandn spare (allB c)) silent)) false).1] := by unfold rest5 moreI moreS; rw [if_pos hc, if_pos h0]
          ((refine Exists.intro (some ([], [(1000000, 608)], [(224, 1872)])) ?_); (conv => whnf); first | ((with_reducible refine callE_by (c_stepY ((rest4 c full wit caught silent)) (by omega) (learnR c (bestP p (bandn (bandn spare (allB c)) silent)) false) h0) ?_); conv => whnf))
          refine ⟨(), [(608, 1872)], trivial, ?_⟩
          conv => whnf
          (refine And.intro (And.intro (by with_unfolding_all rfl) (by intro q h; cases h)) ?_; refine And.intro ?_ (And.intro ?_ ?_) <;> (conv => whnf) <;> (repeat' (first | exact True.intro | (with_reducible exact rfl) | exact (rfl : List.replicate 0 PV.bad = []) | ((with_reducible refine And.intro ?_ ?_) <;> (first | (with_reducible exact wkV_same _ rfl) | exact wkV_pt rfl rfl | exact wkV_ow rfl rfl rfl | (refine wkV_ow rfl rfl ?_) | (refine wkV_sc (congrArg (Value.int .i64) ?_)) | (refine wkV_sc (congrArg Value.bool ?_)) | exact wkV_ls rfl | ((refine wkV_cl ?_); conv => whnf) | ((refine wkV_tu ?_); conv => whnf) | ((refine wkV_ag ?_); conv => whnf) | (conv => whnf))))))
          all_goals first | (exact obj_eq (by kernel_rfl) eq.symm) | (rw [eq]; done) | rfl | trace_state
        · have eq : rest5 c full wit caught silent p spare = (rest4 c full wit caught silent) := by unfold rest5 moreI moreS; rw [if_pos hc, if_neg h0, List.append_nil]
          ((refine Exists.intro (some ([], [(1000000, 608)], [])) ?_); (conv => whnf); first | ((with_reducible refine callE_by (c_stepN ((rest4 c full wit caught silent)) (learnR c (bestP p (bandn (bandn spare (allB c)) silent)) false) h0) ?_); conv => whnf))
          refine ⟨(), [(608, 608)], trivial, ?_⟩
          conv => whnf
          (refine And.intro (And.intro (by with_unfolding_all rfl) (by intro q h; cases h)) ?_; refine And.intro ?_ (And.intro ?_ ?_) <;> (conv => whnf) <;> (repeat' (first | exact True.intro | (with_reducible exact rfl) | exact (rfl : List.replicate 0 PV.bad = []) | ((with_reducible refine And.intro ?_ ?_) <;> (first | (with_reducible exact wkV_same _ rfl) | exact wkV_pt rfl rfl | exact wkV_ow rfl rfl rfl | (refine wkV_ow rfl rfl ?_) | (refine wkV_sc (congrArg (Value.int .i64) ?_)) | (refine wkV_sc (congrArg Value.bool ?_)) | exact wkV_ls rfl | ((refine wkV_cl ?_); conv => whnf) | ((refine wkV_tu ?_); conv => whnf) | ((refine wkV_ag ?_); conv => whnf) | (conv => whnf))))))
          all_goals first | (exact obj_eq (by kernel_rfl) eq.symm) | (rw [eq]; done) | rfl | trace_state
      · have h2 := h
        clear h
        ((first | (with_reducible refine split_dec (fun h => ?_) (fun h => ?_)) | (with_reducible refine split_beq (fun h => ?_) (fun h => ?_)) | (with_reducible refine split_bne (fun h => ?_) (fun h => ?_)) | (with_reducible refine split_not (fun h => ?_) (fun h => ?_)) | (with_reducible refine split_beqS (fun h => ?_) (fun h => ?_)) | (with_reducible refine split_intro (fun h => ?_) (fun h => ?_))) <;> conv => whnf)
        · have h3 := h
          clear h
          ((first | (with_reducible refine split_dec (fun h => ?_) (fun h => ?_)) | (with_reducible refine split_beq (fun h => ?_) (fun h => ?_)) | (with_reducible refine split_bne (fun h => ?_) (fun h => ?_)) | (with_reducible refine split_not (fun h => ?_) (fun h => ?_)) | (with_reducible refine split_beqS (fun h => ?_) (fun h => ?_)) | (with_reducible refine split_intro (fun h => ?_) (fun h => ?_))) <;> conv => whnf)
          · have hc : lackB c.learn c.full full silent := ⟨h1, .inr ⟨h3, h⟩⟩
            clear h
            ((try ((refine Exists.intro none ?_); (conv => whnf))); first | ((with_reducible refine call_by (ka) ?_); conv => whnf))
            ((try ((refine Exists.intro none ?_); (conv => whnf))); first | ((with_reducible refine call_by (kb1) ?_); conv => whnf))
            ((try ((refine Exists.intro none ?_); (conv => whnf))); first | ((with_reducible refine call_by (k5) ?_); conv => whnf))
            by_cases h0 : (learnR c (bestP p (bandn (bandn spare (allB c)) silent)) false).2 = 0
            · have eq : rest5 c full wit caught silent p spare = (rest4 c full wit caught silent) ++ [stepV (learnR c (bestP p (bandn (bandn spare (allB c)) silent)) false).1] := by unfold rest5 moreI moreS; rw [if_pos hc, if_pos h0]
              ((refine Exists.intro (some ([], [(1000000, 608)], [(224, 1872)])) ?_); (conv => whnf); first | ((with_reducible refine callE_by (c_stepY ((rest4 c full wit caught silent)) (by omega) (learnR c (bestP p (bandn (bandn spare (allB c)) silent)) false) h0) ?_); conv => whnf))
              refine ⟨(), [(608, 1872)], trivial, ?_⟩
              conv => whnf
              (refine And.intro (And.intro (by with_unfolding_all rfl) (by intro q h; cases h)) ?_; refine And.intro ?_ (And.intro ?_ ?_) <;> (conv => whnf) <;> (repeat' (first | exact True.intro | (with_reducible exact rfl) | exact (rfl : List.replicate 0 PV.bad = []) | ((with_reducible refine And.intro ?_ ?_) <;> (first | (with_reducible exact wkV_same _ rfl) | exact wkV_pt rfl rfl | exact wkV_ow rfl rfl rfl | (refine wkV_ow rfl rfl ?_) | (refine wkV_sc (congrArg (Value.int .i64) ?_)) | (refine wkV_sc (congrArg Value.bool ?_)) | exact wkV_ls rfl | ((refine wkV_cl ?_); conv => whnf) | ((refine wkV_tu ?_); conv => whnf) | ((refine wkV_ag ?_); conv => whnf) | (conv => whnf))))))
              all_goals first | (exact obj_eq (by kernel_rfl) eq.symm) | (rw [eq]; done) | rfl | trace_state
            · have eq : rest5 c full wit caught silent p spare = (rest4 c full wit caught silent) := by unfold rest5 moreI moreS; rw [if_pos hc, if_neg h0, List.append_nil]
              ((refine Exists.intro (some ([], [(1000000, 608)], [])) ?_); (conv => whnf); first | ((with_reducible refine callE_by (c_stepN ((rest4 c full wit caught silent)) (learnR c (bestP p (bandn (bandn spare (allB c)) silent)) false) h0) ?_); conv => whnf))
              refine ⟨(), [(608, 608)], trivial, ?_⟩
              conv => whnf
              (refine And.intro (And.intro (by with_unfolding_all rfl) (by intro q h; cases h)) ?_; refine And.intro ?_ (And.intro ?_ ?_) <;> (conv => whnf) <;> (repeat' (first | exact True.intro | (with_reducible exact rfl) | exact (rfl : List.replicate 0 PV.bad = []) | ((with_reducible refine And.intro ?_ ?_) <;> (first | (with_reducible exact wkV_same _ rfl) | exact wkV_pt rfl rfl | exact wkV_ow rfl rfl rfl | (refine wkV_ow rfl rfl ?_) | (refine wkV_sc (congrArg (Value.int .i64) ?_)) | (refine wkV_sc (congrArg Value.bool ?_)) | exact wkV_ls rfl | ((refine wkV_cl ?_); conv => whnf) | ((refine wkV_tu ?_); conv => whnf) | ((refine wkV_ag ?_); conv => whnf) | (conv => whnf))))))
              all_goals first | (exact obj_eq (by kernel_rfl) eq.symm) | (rw [eq]; done) | rfl | trace_state
          · have hc : ¬ lackB c.learn c.full full silent := by rintro ⟨_, g | ⟨_, g⟩⟩; exact h2 g; exact g h
            clear h
            have eq : rest5 c full wit caught silent p spare = (rest4 c full wit caught silent) := by unfold rest5 moreI; rw [if_neg hc, List.append_nil]
            refine ⟨(), [(608, 608)], trivial, ?_⟩
            conv => whnf
            (refine And.intro (And.intro (by with_unfolding_all rfl) (by intro q h; cases h)) ?_; refine And.intro ?_ (And.intro ?_ ?_) <;> (conv => whnf) <;> (repeat' (first | exact True.intro | (with_reducible exact rfl) | exact (rfl : List.replicate 0 PV.bad = []) | ((with_reducible refine And.intro ?_ ?_) <;> (first | (with_reducible exact wkV_same _ rfl) | exact wkV_pt rfl rfl | exact wkV_ow rfl rfl rfl | (refine wkV_ow rfl rfl ?_) | (refine wkV_sc (congrArg (Value.int .i64) ?_)) | (refine wkV_sc (congrArg Value.bool ?_)) | exact wkV_ls rfl | ((refine wkV_cl ?_); conv => whnf) | ((refine wkV_tu ?_); conv => whnf) | ((refine wkV_ag ?_); conv => whnf) | (conv => whnf))))))
            all_goals first | (exact obj_eq (by kernel_rfl) eq.symm) | (rw [eq]; done) | rfl | trace_state
        · have hc : ¬ lackB c.learn c.full full silent := by rintro ⟨_, g | ⟨g, _⟩⟩; exact h2 g; exact h g
          clear h
          have eq : rest5 c full wit caught silent p spare = (rest4 c full wit caught silent) := by unfold rest5 moreI; rw [if_neg hc, List.append_nil]
          refine ⟨(), [(608, 608)], trivial, ?_⟩
          conv => whnf
          (refine And.intro (And.intro (by with_unfolding_all rfl) (by intro q h; cases h)) ?_; refine And.intro ?_ (And.intro ?_ ?_) <;> (conv => whnf) <;> (repeat' (first | exact True.intro | (with_reducible exact rfl) | exact (rfl : List.replicate 0 PV.bad = []) | ((with_reducible refine And.intro ?_ ?_) <;> (first | (with_reducible exact wkV_same _ rfl) | exact wkV_pt rfl rfl | exact wkV_ow rfl rfl rfl | (refine wkV_ow rfl rfl ?_) | (refine wkV_sc (congrArg (Value.int .i64) ?_)) | (refine wkV_sc (congrArg Value.bool ?_)) | exact wkV_ls rfl | ((refine wkV_cl ?_); conv => whnf) | ((refine wkV_tu ?_); conv => whnf) | ((refine wkV_ag ?_); conv => whnf) | (conv => whnf))))))
          all_goals first | (exact obj_eq (by kernel_rfl) eq.symm) | (rw [eq]; done) | rfl | trace_state
    · have hc : ¬ lackB c.learn c.full full silent := by rintro ⟨g, _⟩; exact h g
      clear h
      have eq : rest5 c full wit caught silent p spare = (rest4 c full wit caught silent) := by unfold rest5 moreI; rw [if_neg hc, List.append_nil]
      refine ⟨(), [(608, 608)], trivial, ?_⟩
      conv => whnf
      (refine And.intro (And.intro (by with_unfolding_all rfl) (by intro q h; cases h)) ?_; refine And.intro ?_ (And.intro ?_ ?_) <;> (conv => whnf) <;> (repeat' (first | exact True.intro | (with_reducible exact rfl) | exact (rfl : List.replicate 0 PV.bad = []) | ((with_reducible refine And.intro ?_ ?_) <;> (first | (with_reducible exact wkV_same _ rfl) | exact wkV_pt rfl rfl | exact wkV_ow rfl rfl rfl | (refine wkV_ow rfl rfl ?_) | (refine wkV_sc (congrArg (Value.int .i64) ?_)) | (refine wkV_sc (congrArg Value.bool ?_)) | exact wkV_ls rfl | ((refine wkV_cl ?_); conv => whnf) | ((refine wkV_tu ?_); conv => whnf) | ((refine wkV_ag ?_); conv => whnf) | (conv => whnf))))))
      all_goals first | (exact obj_eq (by kernel_rfl) eq.symm) | (rw [eq]; done) | rfl | trace_state
  rintro _ _
  conv => whnf
  refine tri_cut mixed (by kernel_rfl) (fun _ : Unit => True) (fun _ => [(17, .ow 608 0 (rest6 c full wit caught silent p spare spareW).length)]) (fun _ => [(8, c.enc)]) (fun _ => [(608, some (false, 5, rest6 c full wit caught silent p spare spareW))]) ?_ ?_
  · conv => whnf
    ((first | (with_reducible refine split_dec (fun h => ?_) (fun h => ?_)) | (with_reducible refine split_beq (fun h => ?_) (fun h => ?_)) | (with_reducible refine split_bne (fun h => ?_) (fun h => ?_)) | (with_reducible refine split_not (fun h => ?_) (fun h => ?_)) | (with_reducible refine split_beqS (fun h => ?_) (fun h => ?_)) | (with_reducible refine split_intro (fun h => ?_) (fun h => ?_))) <;> conv => whnf)
    · have h1 := h
      clear h
      ((first | (with_reducible refine split_dec (fun h => ?_) (fun h => ?_)) | (with_reducible refine split_beq (fun h => ?_) (fun h => ?_)) | (with_reducible refine split_bne (fun h => ?_) (fun h => ?_)) | (with_reducible refine split_not (fun h => ?_) (fun h => ?_)) | (with_reducible refine split_beqS (fun h => ?_) (fun h => ?_)) | (with_reducible refine split_intro (fun h => ?_) (fun h => ?_))) <;> conv => whnf)
      · have hc : lackB c.lwit c.wit wit silent := ⟨h1, .inl h⟩
        clear h
        ((try ((refine Exists.intro none ?_); (conv => whnf))); first | ((with_reducible refine call_by (ka) ?_); conv => whnf))
        ((try ((refine Exists.intro none ?_); (conv => whnf))); first | ((with_reducible refine call_by (kb2) ?_); conv => whnf))
        ((try ((refine Exists.intro none ?_); (conv => whnf))); first | ((with_reducible refine call_by (k6) ?_); conv => whnf))
        by_cases h0 : (learnR c (bestP p (bandn (bandn spareW (allB c)) silent)) true).2 = 0
        · have eq : rest6 c full wit caught silent p spare spareW = (rest5 c full wit caught silent p spare) ++ [stepV (learnR c (bestP p (bandn (bandn spareW (allB c)) silent)) true).1] := by unfold rest6 moreI moreS; rw [if_pos hc, if_pos h0]
          ((refine Exists.intro (some ([], [(1000000, 608)], [(224, 2400)])) ?_); (conv => whnf); first | ((with_reducible refine callE_by (c_stepY ((rest5 c full wit caught silent p spare)) (by omega) (learnR c (bestP p (bandn (bandn spareW (allB c)) silent)) true) h0) ?_); conv => whnf))
          refine ⟨(), [(608, 2400)], trivial, ?_⟩
          conv => whnf
          (refine And.intro (And.intro (by with_unfolding_all rfl) (by intro q h; cases h)) ?_; refine And.intro ?_ (And.intro ?_ ?_) <;> (conv => whnf) <;> (repeat' (first | exact True.intro | (with_reducible exact rfl) | exact (rfl : List.replicate 0 PV.bad = []) | ((with_reducible refine And.intro ?_ ?_) <;> (first | (with_reducible exact wkV_same _ rfl) | exact wkV_pt rfl rfl | exact wkV_ow rfl rfl rfl | (refine wkV_ow rfl rfl ?_) | (refine wkV_sc (congrArg (Value.int .i64) ?_)) | (refine wkV_sc (congrArg Value.bool ?_)) | exact wkV_ls rfl | ((refine wkV_cl ?_); conv => whnf) | ((refine wkV_tu ?_); conv => whnf) | ((refine wkV_ag ?_); conv => whnf) | (conv => whnf))))))
          all_goals first | (exact obj_eq (by kernel_rfl) eq.symm) | (rw [eq]; done) | rfl | trace_state
        · have eq : rest6 c full wit caught silent p spare spareW = (rest5 c full wit caught silent p spare) := by unfold rest6 moreI moreS; rw [if_pos hc, if_neg h0, List.append_nil]
          ((refine Exists.intro (some ([], [(1000000, 608)], [])) ?_); (conv => whnf); first | ((with_reducible refine callE_by (c_stepN ((rest5 c full wit caught silent p spare)) (learnR c (bestP p (bandn (bandn spareW (allB c)) silent)) true) h0) ?_); conv => whnf))
          refine ⟨(), [(608, 608)], trivial, ?_⟩
          conv => whnf
          (refine And.intro (And.intro (by with_unfolding_all rfl) (by intro q h; cases h)) ?_; refine And.intro ?_ (And.intro ?_ ?_) <;> (conv => whnf) <;> (repeat' (first | exact True.intro | (with_reducible exact rfl) | exact (rfl : List.replicate 0 PV.bad = []) | ((with_reducible refine And.intro ?_ ?_) <;> (first | (with_reducible exact wkV_same _ rfl) | exact wkV_pt rfl rfl | exact wkV_ow rfl rfl rfl | (refine wkV_ow rfl rfl ?_) | (refine wkV_sc (congrArg (Value.int .i64) ?_)) | (refine wkV_sc (congrArg Value.bool ?_)) | exact wkV_ls rfl | ((refine wkV_cl ?_); conv => whnf) | ((refine wkV_tu ?_); conv => whnf) | ((refine wkV_ag ?_); conv => whnf) | (conv => whnf))))))
          all_goals first | (exact obj_eq (by kernel_rfl) eq.symm) | (rw [eq]; done) | rfl | trace_state
      · have h2 := h
        clear h
        ((first | (with_reducible refine split_dec (fun h => ?_) (fun h => ?_)) | (with_reducible refine split_beq (fun h => ?_) (fun h => ?_)) | (with_reducible refine split_bne (fun h => ?_) (fun h => ?_)) | (with_reducible refine split_not (fun h => ?_) (fun h => ?_)) | (with_reducible refine split_beqS (fun h => ?_) (fun h => ?_)) | (with_reducible refine split_intro (fun h => ?_) (fun h => ?_))) <;> conv => whnf)
        · have h3 := h
          clear h
          ((first | (with_reducible refine split_dec (fun h => ?_) (fun h => ?_)) | (with_reducible refine split_beq (fun h => ?_) (fun h => ?_)) | (with_reducible refine split_bne (fun h => ?_) (fun h => ?_)) | (with_reducible refine split_not (fun h => ?_) (fun h => ?_)) | (with_reducible refine split_beqS (fun h => ?_) (fun h => ?_)) | (with_reducible refine split_intro (fun h => ?_) (fun h => ?_))) <;> conv => whnf)
          · have hc : lackB c.lwit c.wit wit silent := ⟨h1, .inr ⟨h3, h⟩⟩
            clear h
            ((try ((refine Exists.intro none ?_); (conv => whnf))); first | ((with_reducible refine call_by (ka) ?_); conv => whnf))
            ((try ((refine Exists.intro none ?_); (conv => whnf))); first | ((with_reducible refine call_by (kb2) ?_); conv => whnf))
            ((try ((refine Exists.intro none ?_); (conv => whnf))); first | ((with_reducible refine call_by (k6) ?_); conv => whnf))
            by_cases h0 : (learnR c (bestP p (bandn (bandn spareW (allB c)) silent)) true).2 = 0
            · have eq : rest6 c full wit caught silent p spare spareW = (rest5 c full wit caught silent p spare) ++ [stepV (learnR c (bestP p (bandn (bandn spareW (allB c)) silent)) true).1] := by unfold rest6 moreI moreS; rw [if_pos hc, if_pos h0]
              ((refine Exists.intro (some ([], [(1000000, 608)], [(224, 2400)])) ?_); (conv => whnf); first | ((with_reducible refine callE_by (c_stepY ((rest5 c full wit caught silent p spare)) (by omega) (learnR c (bestP p (bandn (bandn spareW (allB c)) silent)) true) h0) ?_); conv => whnf))
              refine ⟨(), [(608, 2400)], trivial, ?_⟩
              conv => whnf
              (refine And.intro (And.intro (by with_unfolding_all rfl) (by intro q h; cases h)) ?_; refine And.intro ?_ (And.intro ?_ ?_) <;> (conv => whnf) <;> (repeat' (first | exact True.intro | (with_reducible exact rfl) | exact (rfl : List.replicate 0 PV.bad = []) | ((with_reducible refine And.intro ?_ ?_) <;> (first | (with_reducible exact wkV_same _ rfl) | exact wkV_pt rfl rfl | exact wkV_ow rfl rfl rfl | (refine wkV_ow rfl rfl ?_) | (refine wkV_sc (congrArg (Value.int .i64) ?_)) | (refine wkV_sc (congrArg Value.bool ?_)) | exact wkV_ls rfl | ((refine wkV_cl ?_); conv => whnf) | ((refine wkV_tu ?_); conv => whnf) | ((refine wkV_ag ?_); conv => whnf) | (conv => whnf))))))
              all_goals first | (exact obj_eq (by kernel_rfl) eq.symm) | (rw [eq]; done) | rfl | trace_state
            · have eq : rest6 c full wit caught silent p spare spareW = (rest5 c full wit caught silent p spare) := by unfold rest6 moreI moreS; rw [if_pos hc, if_neg h0, List.append_nil]
              ((refine Exists.intro (some ([], [(1000000, 608)], [])) ?_); (conv => whnf); first | ((with_reducible refine callE_by (c_stepN ((rest5 c full wit caught silent p spare)) (learnR c (bestP p (bandn (bandn spareW (allB c)) silent)) true) h0) ?_); conv => whnf))
              refine ⟨(), [(608, 608)], trivial, ?_⟩
              conv => whnf
              (refine And.intro (And.intro (by with_unfolding_all rfl) (by intro q h; cases h)) ?_; refine And.intro ?_ (And.intro ?_ ?_) <;> (conv => whnf) <;> (repeat' (first | exact True.intro | (with_reducible exact rfl) | exact (rfl : List.replicate 0 PV.bad = []) | ((with_reducible refine And.intro ?_ ?_) <;> (first | (with_reducible exact wkV_same _ rfl) | exact wkV_pt rfl rfl | exact wkV_ow rfl rfl rfl | (refine wkV_ow rfl rfl ?_) | (refine wkV_sc (congrArg (Value.int .i64) ?_)) | (refine wkV_sc (congrArg Value.bool ?_)) | exact wkV_ls rfl | ((refine wkV_cl ?_); conv => whnf) | ((refine wkV_tu ?_); conv => whnf) | ((refine wkV_ag ?_); conv => whnf) | (conv => whnf))))))
              all_goals first | (exact obj_eq (by kernel_rfl) eq.symm) | (rw [eq]; done) | rfl | trace_state
          · have hc : ¬ lackB c.lwit c.wit wit silent := by rintro ⟨_, g | ⟨_, g⟩⟩; exact h2 g; exact g h
            clear h
            have eq : rest6 c full wit caught silent p spare spareW = (rest5 c full wit caught silent p spare) := by unfold rest6 moreI; rw [if_neg hc, List.append_nil]
            refine ⟨(), [(608, 608)], trivial, ?_⟩
            conv => whnf
            (refine And.intro (And.intro (by with_unfolding_all rfl) (by intro q h; cases h)) ?_; refine And.intro ?_ (And.intro ?_ ?_) <;> (conv => whnf) <;> (repeat' (first | exact True.intro | (with_reducible exact rfl) | exact (rfl : List.replicate 0 PV.bad = []) | ((with_reducible refine And.intro ?_ ?_) <;> (first | (with_reducible exact wkV_same _ rfl) | exact wkV_pt rfl rfl | exact wkV_ow rfl rfl rfl | (refine wkV_ow rfl rfl ?_) | (refine wkV_sc (congrArg (Value.int .i64) ?_)) | (refine wkV_sc (congrArg Value.bool ?_)) | exact wkV_ls rfl | ((refine wkV_cl ?_); conv => whnf) | ((refine wkV_tu ?_); conv => whnf) | ((refine wkV_ag ?_); conv => whnf) | (conv => whnf))))))
            all_goals first | (exact obj_eq (by kernel_rfl) eq.symm) | (rw [eq]; done) | rfl | trace_state
        · have hc : ¬ lackB c.lwit c.wit wit silent := by rintro ⟨_, g | ⟨g, _⟩⟩; exact h2 g; exact h g
          clear h
          have eq : rest6 c full wit caught silent p spare spareW = (rest5 c full wit caught silent p spare) := by unfold rest6 moreI; rw [if_neg hc, List.append_nil]
          refine ⟨(), [(608, 608)], trivial, ?_⟩
          conv => whnf
          (refine And.intro (And.intro (by with_unfolding_all rfl) (by intro q h; cases h)) ?_; refine And.intro ?_ (And.intro ?_ ?_) <;> (conv => whnf) <;> (repeat' (first | exact True.intro | (with_reducible exact rfl) | exact (rfl : List.replicate 0 PV.bad = []) | ((with_reducible refine And.intro ?_ ?_) <;> (first | (with_reducible exact wkV_same _ rfl) | exact wkV_pt rfl rfl | exact wkV_ow rfl rfl rfl | (refine wkV_ow rfl rfl ?_) | (refine wkV_sc (congrArg (Value.int .i64) ?_)) | (refine wkV_sc (congrArg Value.bool ?_)) | exact wkV_ls rfl | ((refine wkV_cl ?_); conv => whnf) | ((refine wkV_tu ?_); conv => whnf) | ((refine wkV_ag ?_); conv => whnf) | (conv => whnf))))))
          all_goals first | (exact obj_eq (by kernel_rfl) eq.symm) | (rw [eq]; done) | rfl | trace_state
    · have hc : ¬ lackB c.lwit c.wit wit silent := by rintro ⟨g, _⟩; exact h g
      clear h
      have eq : rest6 c full wit caught silent p spare spareW = (rest5 c full wit caught silent p spare) := by unfold rest6 moreI; rw [if_neg hc, List.append_nil]
      refine ⟨(), [(608, 608)], trivial, ?_⟩
      conv => whnf
      (refine And.intro (And.intro (by with_unfolding_all rfl) (by intro q h; cases h)) ?_; refine And.intro ?_ (And.intro ?_ ?_) <;> (conv => whnf) <;> (repeat' (first | exact True.intro | (with_reducible exact rfl) | exact (rfl : List.replicate 0 PV.bad = []) | ((with_reducible refine And.intro ?_ ?_) <;> (first | (with_reducible exact wkV_same _ rfl) | exact wkV_pt rfl rfl | exact wkV_ow rfl rfl rfl | (refine wkV_ow rfl rfl ?_) | (refine wkV_sc (congrArg (Value.int .i64) ?_)) | (refine wkV_sc (congrArg Value.bool ?_)) | exact wkV_ls rfl | ((refine wkV_cl ?_); conv => whnf) | ((refine wkV_tu ?_); conv => whnf) | ((refine wkV_ag ?_); conv => whnf) | (conv => whnf))))))
      all_goals first | (exact obj_eq (by kernel_rfl) eq.symm) | (rw [eq]; done) | rfl | trace_state
  rintro _ _
  refine pwp_sound mixed _ _ _ (by kernel_rfl) ?_
  conv => whnf
  exact exit_own [(0, 608)] rfl ⟨rfl, True.intro⟩ (wkV_ow rfl rfl rfl)
theorem c_wantsV (c : Conf) (full wit : Int) (p : List Pl) (hl : p.length ≤ 4294967) (hp : plsB p = true) (spare spareW silent caught : Int) :
    Ctr Try.prog 95 [.ag c.enc, iv full, iv wit, .sl 4 (p.map Pl.enc), iv spare, iv spareW, iv silent, iv caught] (.sl 5 (rest6 c full wit caught silent p spare spareW)) [] :=
  (c_wants c full wit p hl hp spare spareW silent caught).frz (wkV_fz2 (b := false) (List.Mem.head _) rfl)
end Go.Proofs
