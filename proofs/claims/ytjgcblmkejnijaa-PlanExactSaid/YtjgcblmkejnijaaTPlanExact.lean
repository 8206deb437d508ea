/- PlanExact: what is wanted next, and whether all is done, are the page's. -/
import Derived.Test.YtjgcblmkejnijaaF9
import Derived.Test.YtjgcblmkejnijaaF7
import Derived.Test.YtjgcblmkejnijaaE3
set_option linter.unusedSimpArgs false
set_option linter.unusedVariables false
namespace Go.Proofs
open Go.Pv
set_option maxRecDepth 100000

def rowsO (o : Option Conf) : List (List PV) := match o with
  | some d => [stepV d]
  | none => []
theorem moreS_o (r : Conf × Int) : moreS r = rowsO (okS r) := by
  unfold moreS okS; split <;> rfl
theorem moreI_o (b : Prop) [Decidable b] (r : Conf × Int) : moreI b r = rowsO (if b then okS r else none) := by
  unfold moreI; split
  · exact moreS_o r
  · rfl
theorem head_o (o : Option Conf) : (rowsO o).head? = o.map stepV := by cases o <;> rfl
theorem low_congr {a b : Int} (h : ∀ n : Nat, n < 7 → tb a n = tb b n) : lowB a = lowB b := by
  unfold lowB
  have : (List.range 7).find? (fun i => tb a i) = (List.range 7).find? (fun i => tb b i) := by
    have hin : ∀ i ∈ List.range 7, i < 7 := fun i hi => List.mem_range.1 hi
    generalize List.range 7 = l at *
    induction l with
    | nil => rfl
    | cons x l ih => simp only [List.find?_cons]; rw [h x (hin x (List.mem_cons_self ..)), ih fun i hi => hin i (List.mem_cons_of_mem _ hi)]
  rw [this]
theorem tb_m7 (x : Int) {n : Nat} (hn : n < 7) : tb (band x 127) n = tb x n := by
  rw [tb_and, tb_127, decide_eq_true hn, Bool.and_true]
theorem band_assoc7 (a b : Int) : band (band a b) 127 = band a (band b 127) := ext64 (isI_band _ _) (isI_band _ _) fun i _ => by
  rw [tb_and, tb_and, tb_and, tb_and, Bool.and_assoc]
theorem lack_iff (learn voters should silent : Int) : lackB learn voters should silent ↔ ¬ fullB learn voters should (band silent 127) := by
  unfold lackB fullB
  rw [band_assoc7]
  by_cases h1 : learn = 0 <;> by_cases h2 : band voters (band silent 127) = 0 <;> simp [h1, h2] <;> omega
theorem rest6_head (c : Conf) (full wit : Int) (p : List Pl) (hp : plsB p = true) (spare spareW silent caught : Int) :
    (rest6 c full wit caught silent p spare spareW).head? = (nextS c full wit p spare spareW (band silent 127) (band caught 127)).map stepV := by
  have e1 : ∀ x : Int, lowB (band x silent) = lowB (band x (band silent 127)) := fun x => low_congr fun n hn => by rw [tb_and, tb_and, tb_m7 _ hn]
  have e2 : lowB (rdyR c full wit caught) = lowB (readyB c full wit (band caught 127)) := low_congr fun n hn => by
    unfold rdyR rdy1 readyB
    repeat' split
    all_goals simp only [tb_or, tb_and, tb_zero, tb_m7 _ hn, Bool.false_or, Bool.or_false]
  have e3 : ∀ s : Int, bestP p (bandn (bandn s (allB c)) silent) = bestP p (lrnBits c s (band silent 127)) := fun s => best_congr hp fun n hn => by
    unfold lrnBits
    rw [tb_andn', tb_andn', tb_andn', tb_andn', tb_m7 _ hn, tb_m7 _ hn]
  unfold rest6 rest5 rest4 rest3 rest2 rest1
  simp only [moreS_o, moreI_o, List.head?_append, head_o]
  rw [e1, e1, e1, e2, e3, e3]
  unfold nextS
  have t : ∀ v n : Int, (if n < count v then okS (removeR c (lowB (band v (band silent 127)))) else none) = tooS c v n (band silent 127) := fun v n => by
    unfold tooS
    by_cases h : n < count v
    · rw [if_pos h, if_neg (by omega)]
    · rw [if_neg h, if_pos (by omega)]
  have l : ∀ (lr v n s : Int) (w : Bool), (if lackB lr v n silent then okS (learnR c (bestP p (lrnBits c s (band silent 127))) w) else none) = lrnS c p lr v n s (band silent 127) w := fun lr v n s w => by
    unfold lrnS
    by_cases h : fullB lr v n (band silent 127)
    · rw [if_pos h, if_neg (fun hh => (lack_iff ..).1 hh h)]
    · rw [if_neg h, if_pos ((lack_iff ..).2 h)]
  rw [t, t, l, l]
  cases okS (removeR c (lowB (band (bor c.learn c.lwit) (band silent 127)))) <;> cases okS (promoteR c (lowB (readyB c full wit (band caught 127)))) <;> cases tooS c c.full full (band silent 127) <;> cases tooS c c.wit wit (band silent 127) <;> cases lrnS c p c.learn c.full full spare (band silent 127) false <;> cases lrnS c p c.lwit c.wit wit spareW (band silent 127) true <;> rfl
theorem c_rDone (c : Conf) (full wit sil : Int) : Ctr Try.prog 53 [.ag c.enc, iv full, iv wit, iv sil] (bv (doneB c full wit sil)) [] := by
  refine spec_of_body mixed Try.func53 rfl (by kernel_rfl) (by kernel_rfl) ?_; conv => whnf
  ((try ((refine Exists.intro none ?_); (conv => whnf))); first | ((with_reducible refine call_by (c_rCount c.full) ?_); conv => whnf))
  ((first | (with_reducible refine split_dec (fun h => ?_) (fun h => ?_)) | (with_reducible refine split_beq (fun h => ?_) (fun h => ?_)) | (with_reducible refine split_bne (fun h => ?_) (fun h => ?_)) | (with_reducible refine split_not (fun h => ?_) (fun h => ?_)) | (with_reducible refine split_beqS (fun h => ?_) (fun h => ?_)) | (with_reducible refine split_intro (fun h => ?_) (fun h => ?_))) <;> conv => whnf)
  · have h1 := h
    clear h
    ((try ((refine Exists.intro none ?_); (conv => whnf))); first | ((with_reducible refine call_by (c_rCount c.wit) ?_); conv => whnf))
    ((first | (with_reducible refine split_dec (fun h => ?_) (fun h => ?_)) | (with_reducible refine split_beq (fun h => ?_) (fun h => ?_)) | (with_reducible refine split_bne (fun h => ?_) (fun h => ?_)) | (with_reducible refine split_not (fun h => ?_) (fun h => ?_)) | (with_reducible refine split_beqS (fun h => ?_) (fun h => ?_)) | (with_reducible refine split_intro (fun h => ?_) (fun h => ?_))) <;> conv => whnf)
    · have h2 := h
      clear h
      ((first | (with_reducible refine split_dec (fun h => ?_) (fun h => ?_)) | (with_reducible refine split_beq (fun h => ?_) (fun h => ?_)) | (with_reducible refine split_bne (fun h => ?_) (fun h => ?_)) | (with_reducible refine split_not (fun h => ?_) (fun h => ?_)) | (with_reducible refine split_beqS (fun h => ?_) (fun h => ?_)) | (with_reducible refine split_intro (fun h => ?_) (fun h => ?_))) <;> conv => whnf)
      · have h3 := h
        clear h
        ((try ((refine Exists.intro none ?_); (conv => whnf))); first | ((with_reducible refine call_by (c_rVoters c) ?_); conv => whnf))
        refine exit_plain rfl ?_
        unfold doneB band bor
        rw [if_pos h1, if_pos h2, if_pos h3]
        first | rfl | (congr 1)
      · refine exit_plain rfl ?_
        unfold doneB band bor
        rw [if_pos h1, if_pos h2, if_neg h]
    · refine exit_plain rfl ?_
      unfold doneB band bor
      rw [if_pos h1, if_neg h]
  · refine exit_plain rfl ?_
    unfold doneB band bor
    rw [if_neg h]
theorem c_within19 (n lo hi : Int) : Ctr Try.prog 94 [iv n, iv lo, iv hi] (bv (withinB n lo hi)) [] := by
  refine spec_of_body mixed Try.func94 rfl (by kernel_rfl) (by kernel_rfl) ?_; conv => whnf
  repeat' ((first | (with_reducible refine split_dec (fun h => ?_) (fun h => ?_)) | (with_reducible refine split_beq (fun h => ?_) (fun h => ?_)) | (with_reducible refine split_bne (fun h => ?_) (fun h => ?_)) | (with_reducible refine split_not (fun h => ?_) (fun h => ?_)) | (with_reducible refine split_beqS (fun h => ?_) (fun h => ?_)) | (with_reducible refine split_intro (fun h => ?_) (fun h => ?_))) <;> conv => whnf)
  all_goals (refine exit_plain rfl (congrArg (fun b : Bool => bv b) ?_); simp only [withinB])
  · rw [decide_eq_true h, Bool.true_and]; try exact decide_eq_decide.2 (by omega)
  · rw [decide_eq_false (by omega)]; rfl
/-- The plan's answer, whatever comes in. -/
noncomputable def planR (c : Conf) (full wit : Int) (p : List Pl) (spare spareW silent caught : Int) : List PV × Int :=
  if confB c = true then (if plsB p = true then (if (1 ≤ full ∧ full ≤ 7) ∧ 0 ≤ wit ∧ wit ≤ 7 then (stepO (nextS c full wit p spare spareW (band silent 127) (band caught 127)), 0) else (stepZ, 1)) else (stepZ, 1)) else (stepZ, 14)
theorem c_plan (c : Conf) (full wit : Int) (p : List Pl) (hl : p.length ≤ 4294967) (spare spareW silent caught : Int) :
    Ctr Try.prog 40 [.ag c.enc, iv full, iv wit, .sl 4 (p.map Pl.enc), iv spare, iv spareW, iv silent, iv caught] (.tu [.ag (planR c full wit p spare spareW silent caught).1, iv (planR c full wit p spare spareW silent caught).2]) [] := by
  unfold planR
  split
  · rename_i hc
    split
    · rename_i hp
      split
      · rename_i hr; exact c_pNext c hc full wit p hl hp spare spareW silent caught hr
      · rename_i hr; exact c_pNextA c hc full wit p hl hp spare spareW silent caught hr
    · rename_i hp; exact c_pNextP c hc full wit p hl (by simpa using hp) spare spareW silent caught
  · rename_i hc; exact c_pNextC c (by simpa using hc) full wit p spare spareW silent caught
theorem c_rPlan (c : Conf) (full wit : Int) (p : List Pl) (hl : p.length ≤ 4294967) (spare spareW silent caught : Int) :
    Ctr Try.prog 52 [.ag c.enc, iv full, iv wit, .sl 4 (p.map Pl.enc), iv spare, iv spareW, iv silent, iv caught] (.tu [.ag (planR c full wit p spare spareW silent caught).1, iv (planR c full wit p spare spareW silent caught).2]) [] := by
  have kc := c_rConf c
  have kp := c_rPlaces p hl
  have k1 := c_within19 full 1 7
  have k2 := c_within19 wit 0 7
  unfold planR
  cases hc : confB c with
  | false =>
    rw [hc] at kc
    rw [if_neg (by decide)]
    refine spec_of_body mixed Try.func52 rfl (by kernel_rfl) (by kernel_rfl) ?_; conv => whnf
    ((try ((refine Exists.intro none ?_); (conv => whnf))); first | ((with_reducible refine call_by (kc) ?_); conv => whnf))
    exact exit_plain rfl rfl
  | true =>
  rw [hc] at kc
  rw [if_pos rfl]
  cases hp : plsB p with
  | false =>
    rw [hp] at kp
    rw [if_neg (by decide)]
    refine spec_of_body mixed Try.func52 rfl (by kernel_rfl) (by kernel_rfl) ?_; conv => whnf
    ((try ((refine Exists.intro none ?_); (conv => whnf))); first | ((with_reducible refine call_by (kc) ?_); conv => whnf))
    ((try ((refine Exists.intro none ?_); (conv => whnf))); first | ((with_reducible refine call_by (kp) ?_); conv => whnf))
    exact exit_plain rfl rfl
  | true =>
  rw [hp] at kp
  rw [if_pos rfl]
  by_cases hr : (1 ≤ full ∧ full ≤ 7) ∧ 0 ≤ wit ∧ wit ≤ 7
  · rw [show withinB full 1 7 = true by simp [withinB]; omega] at k1
    rw [show withinB wit 0 7 = true by simp [withinB]; omega] at k2
    rw [if_pos hr]
    have kw := c_wantsV c full wit p hl hp spare spareW silent caught
    have hh := rest6_head c full wit p hp spare spareW silent caught
    generalize nextS c full wit p spare spareW (band silent 127) (band caught 127) = N at *
    cases hR : rest6 c full wit caught silent p spare spareW with
    | nil =>
      rw [hR] at kw hh
      obtain rfl : N = none := by cases N with
        | none => rfl
        | some d => cases hh
      refine spec_of_body mixed Try.func52 rfl (by kernel_rfl) (by kernel_rfl) ?_; conv => whnf
      ((try ((refine Exists.intro none ?_); (conv => whnf))); first | ((with_reducible refine call_by (kc) ?_); conv => whnf))
      ((try ((refine Exists.intro none ?_); (conv => whnf))); first | ((with_reducible refine call_by (kp) ?_); conv => whnf))
      ((try ((refine Exists.intro none ?_); (conv => whnf))); first | ((with_reducible refine call_by (k1) ?_); conv => whnf))
      ((try ((refine Exists.intro none ?_); (conv => whnf))); first | ((with_reducible refine call_by (k2) ?_); conv => whnf))
      ((try ((refine Exists.intro none ?_); (conv => whnf))); first | ((with_reducible refine call_by (kw) ?_); conv => whnf))
      (refine Exists.intro _ (And.intro rfl (And.intro (by intro q _; simp only [List.length_nil]; omega) (And.intro (by intro i hi; exact absurd hi (Nat.not_lt_zero i)) ?_))); conv => whnf)
      exact exit_plain rfl rfl
    | cons row rows =>
      rw [hR] at kw hh
      obtain ⟨d, rfl, rfl⟩ : ∃ d, N = some d ∧ row = stepV d := by cases N with
        | none => cases hh
        | some d => exact ⟨d, rfl, Option.some.inj hh⟩
      refine spec_of_body mixed Try.func52 rfl (by kernel_rfl) (by kernel_rfl) ?_; conv => whnf
      ((try ((refine Exists.intro none ?_); (conv => whnf))); first | ((with_reducible refine call_by (kc) ?_); conv => whnf))
      ((try ((refine Exists.intro none ?_); (conv => whnf))); first | ((with_reducible refine call_by (kp) ?_); conv => whnf))
      ((try ((refine Exists.intro none ?_); (conv => whnf))); first | ((with_reducible refine call_by (k1) ?_); conv => whnf))
      ((try ((refine Exists.intro none ?_); (conv => whnf))); first | ((with_reducible refine call_by (k2) ?_); conv => whnf))
      ((try ((refine Exists.intro none ?_); (conv => whnf))); first | ((with_reducible refine call_by (kw) ?_); conv => whnf))
      (refine Exists.intro _ (And.intro rfl (And.intro (by intro q _; simp only [List.length_nil]; omega) (And.intro (by intro i hi; exact absurd hi (Nat.not_lt_zero i)) ?_))); conv => whnf)
      refine ⟨by omega, _, rfl, ?_⟩
      conv => whnf
      exact exit_plain rfl rfl
  · rw [if_neg hr]
    by_cases h1 : 1 ≤ full ∧ full ≤ 7
    · rw [show withinB full 1 7 = true by simp [withinB]; omega] at k1
      rw [show withinB wit 0 7 = false by simp [withinB]; omega] at k2
      refine spec_of_body mixed Try.func52 rfl (by kernel_rfl) (by kernel_rfl) ?_; conv => whnf
      ((try ((refine Exists.intro none ?_); (conv => whnf))); first | ((with_reducible refine call_by (kc) ?_); conv => whnf))
      ((try ((refine Exists.intro none ?_); (conv => whnf))); first | ((with_reducible refine call_by (kp) ?_); conv => whnf))
      ((try ((refine Exists.intro none ?_); (conv => whnf))); first | ((with_reducible refine call_by (k1) ?_); conv => whnf))
      ((try ((refine Exists.intro none ?_); (conv => whnf))); first | ((with_reducible refine call_by (k2) ?_); conv => whnf))
      exact exit_plain rfl rfl
    · rw [show withinB full 1 7 = false by simp [withinB]; omega] at k1
      refine spec_of_body mixed Try.func52 rfl (by kernel_rfl) (by kernel_rfl) ?_; conv => whnf
      ((try ((refine Exists.intro none ?_); (conv => whnf))); first | ((with_reducible refine call_by (kc) ?_); conv => whnf))
      ((try ((refine Exists.intro none ?_); (conv => whnf))); first | ((with_reducible refine call_by (kp) ?_); conv => whnf))
      ((try ((refine Exists.intro none ?_); (conv => whnf))); first | ((with_reducible refine call_by (k1) ?_); conv => whnf))
      exact exit_plain rfl rfl
theorem planR_shape (c : Conf) (full wit : Int) (p : List Pl) (spare spareW silent caught : Int) : ∃ (b : Bool) (d : Conf), (planR c full wit p spare spareW silent caught).1 = [bv b, iv d.full, iv d.wit, iv d.learn, iv d.lwit] := by
  unfold planR
  split
  · split
    · split
      · cases nextS c full wit p spare spareW (band silent 127) (band caught 127) with
        | none => exact ⟨false, cz, rfl⟩
        | some d => exact ⟨true, d, rfl⟩
      · exact ⟨false, cz, rfl⟩
    · exact ⟨false, cz, rfl⟩
  · exact ⟨false, cz, rfl⟩
set_option maxHeartbeats 1000000 in
theorem l_PlanExact (c : Conf) (full wit : Int) (p : List Pl) (s1 s2 sil cau : Int) : Ctr Try.prog 17 [.ag c.enc, iv full, iv wit, .sl 4 (p.map Pl.enc), .ag [iv s1, iv s2, iv sil, iv cau]] (bv true) [] := by
  by_cases h60 : 60 < p.length
  · refine spec_of_body mixed Try.func17 rfl (by kernel_rfl) (by kernel_rfl) ?_; conv => whnf
    ((first | (with_reducible refine split_dec (fun h => ?_) (fun h => ?_)) | (with_reducible refine split_beq (fun h => ?_) (fun h => ?_)) | (with_reducible refine split_bne (fun h => ?_) (fun h => ?_)) | (with_reducible refine split_not (fun h => ?_) (fun h => ?_)) | (with_reducible refine split_beqS (fun h => ?_) (fun h => ?_)) | (with_reducible refine split_intro (fun h => ?_) (fun h => ?_))) <;> conv => whnf)
    · exact exit_plain rfl rfl
    · exfalso; simp only [List.length_map] at h; omega
  have kt : Ctr Try.prog 22 [.sl 4 (p.map Pl.enc)] (.sl 4 (p.map Pl.enc)) [] := (c_TwinPls p (by omega)).frz (wkV_fz2 (b := false) (List.Mem.head _) rfl)
  have ka := c_plan c full wit p (by omega) s1 s2 sil cau
  have kb := c_rPlan c full wit p (by omega) s1 s2 sil cau
  have kd := c_Done c full wit sil
  have ke := c_rDone c full wit sil
  have kp := c_kPlaces p p (leMx (by omega))
  rw [decide_eq_true rfl] at kp
  obtain ⟨b, d, hb⟩ := planR_shape c full wit p s1 s2 sil cau
  rw [hb] at ka kb
  generalize (planR c full wit p s1 s2 sil cau).2 = e at *
  have kc := c_kConf d d
  rw [decide_eq_true rfl] at kc
  generalize doneB c full wit sil = dn at *
  refine spec_of_body mixed Try.func17 rfl (by kernel_rfl) (by kernel_rfl) ?_; conv => whnf
  ((first | (with_reducible refine split_dec (fun h => ?_) (fun h => ?_)) | (with_reducible refine split_beq (fun h => ?_) (fun h => ?_)) | (with_reducible refine split_bne (fun h => ?_) (fun h => ?_)) | (with_reducible refine split_not (fun h => ?_) (fun h => ?_)) | (with_reducible refine split_beqS (fun h => ?_) (fun h => ?_)) | (with_reducible refine split_intro (fun h => ?_) (fun h => ?_))) <;> conv => whnf)
  · exfalso; simp only [List.length_map] at h; omega
  clear h
  ((try ((refine Exists.intro none ?_); (conv => whnf))); first | ((with_reducible refine call_by (kt) ?_); conv => whnf))
  (refine Exists.intro _ (And.intro rfl (And.intro (by intro q _; simp only [List.length_nil]; omega) (And.intro (by intro i hi; exact absurd hi (Nat.not_lt_zero i)) ?_))); conv => whnf)
  refine ⟨by decide, ?_⟩
  conv => whnf
  refine ⟨by decide, ?_⟩
  conv => whnf
  refine ⟨by decide, ?_⟩
  conv => whnf
  refine ⟨by decide, ?_⟩
  conv => whnf
  ((try ((refine Exists.intro none ?_); (conv => whnf))); first | ((with_reducible refine call_by (ka) ?_); conv => whnf))
  refine ⟨by decide, ?_⟩
  conv => whnf
  refine ⟨by decide, ?_⟩
  conv => whnf
  refine ⟨by decide, ?_⟩
  conv => whnf
  refine ⟨by decide, ?_⟩
  conv => whnf
  ((try ((refine Exists.intro none ?_); (conv => whnf))); first | ((with_reducible refine call_by (kb) ?_); conv => whnf))
  ((with_reducible refine And.intro (show Try.prog.underlying _ = some .bool by kernel_rfl) ?_); conv => whnf)
  ((first | (with_reducible refine split_et rfl ?_) | (with_reducible refine split_bf rfl ?_) | (with_reducible refine split_t (beq_self_eq_true _) ?_) | (with_reducible refine split_f (bne_self_eq_false _) ?_)); conv => whnf)
  ((try ((refine Exists.intro none ?_); (conv => whnf))); first | ((with_reducible refine call_by (kc) ?_); conv => whnf))
  ((first | (with_reducible refine split_et rfl ?_) | (with_reducible refine split_bf rfl ?_) | (with_reducible refine split_t (beq_self_eq_true _) ?_) | (with_reducible refine split_f (bne_self_eq_false _) ?_)); conv => whnf)
  refine ⟨by decide, ?_⟩
  conv => whnf
  ((try ((refine Exists.intro none ?_); (conv => whnf))); first | ((with_reducible refine call_by (kd) ?_); conv => whnf))
  refine ⟨by decide, ?_⟩
  conv => whnf
  ((try ((refine Exists.intro none ?_); (conv => whnf))); first | ((with_reducible refine call_by (ke) ?_); conv => whnf))
  ((with_reducible refine And.intro (show Try.prog.underlying _ = some .bool by kernel_rfl) ?_); conv => whnf)
  ((first | (with_reducible refine split_et rfl ?_) | (with_reducible refine split_bf rfl ?_) | (with_reducible refine split_t (beq_self_eq_true _) ?_) | (with_reducible refine split_f (bne_self_eq_false _) ?_)); conv => whnf)
  ((try ((refine Exists.intro none ?_); (conv => whnf))); first | ((with_reducible refine call_by (kp) ?_); conv => whnf))
  ((try ((refine Exists.intro none ?_); (conv => whnf))); first | ((with_reducible refine call_by (c_wakes20) ?_); conv => whnf))
  exact exit_plain rfl rfl
theorem told_PlanExact (qs : List PV) (h : ArgsOf Try.prog [55, 3, 3, 22, 70] qs) : Ctr Try.prog 17 qs (bv true) [] := by
  obtain ⟨p1, qs, rfl, h1, h⟩ := argsOf_cons h
  obtain ⟨p2, qs, rfl, h2, h⟩ := argsOf_cons h
  obtain ⟨p3, qs, rfl, h3, h⟩ := argsOf_cons h
  obtain ⟨p4, qs, rfl, h4, h⟩ := argsOf_cons h
  obtain ⟨p5, qs, rfl, h5, h⟩ := argsOf_cons h
  obtain rfl := argsOf_nil h
  obtain ⟨c, rfl, _⟩ := arg_Conf h1
  obtain ⟨full, rfl, _⟩ := arg_i h2
  obtain ⟨wit, rfl, _⟩ := arg_i h3
  obtain ⟨p, rfl, _⟩ := arg_Pls h4
  obtain ⟨s1, s2, sil, cau, rfl, _⟩ := arg_B4 h5
  exact l_PlanExact c full wit p s1 s2 sil cau
end Go.Proofs
