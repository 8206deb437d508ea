/- RelayFolds: a fold folded is itself; a leader learns of a fold what it learns of all. -/
import Derived.Test.YtjgcblmkejnijaaE12
set_option linter.unusedSimpArgs false
set_option linter.unusedVariables false
namespace Go.Proofs
open Go.Pv
set_option maxRecDepth 100000

/-- Too great an index. -/
def bigM (m : Mg) : Prop := m.kind = 6 ∧ m.yes = true ∧ 1125899906842624 ≤ m.index
structure Lrnt (p : Mg → Bool) (s0 : Lrn) (l : List Mg) (i : Nat) (s : Lrn) : Prop where
  le : i ≤ l.length
  eq : s = lrnL p s0 (l.take i)
  lo : 0 ≤ s.2.1 ∧ s.2.1 ≤ 1125899906842624
  lt : ∀ j (hj : j < l.length), j < i → p (l[j]'hj) = true → (l[j]'hj).index < 1125899906842624
theorem lrnt_yes {p : Mg → Bool} {s0 : Lrn} {l : List Mg} {i : Nat} {s : Lrn} (h : Lrnt p s0 l i s) (hi : i < l.length) (hp : p (l[i]'hi) = true) (hx : (l[i]'hi).index < 1125899906842624) :
    Lrnt p s0 l (i + 1) (maxI s.1 (maxI s.2.1 (l[i]'hi).index + 1), maxI s.2.1 (l[i]'hi).index, maxI s.2.2 (l[i]'hi).round) := by
  refine ⟨hi, ?_, ?_, ?_⟩
  · rw [lrnL_succ p s0 hi, ← h.eq]
    unfold lrn1
    rw [if_pos hp]
  · have := h.lo
    show 0 ≤ maxI s.2.1 (l[i]'hi).index ∧ maxI s.2.1 (l[i]'hi).index ≤ _
    rw [maxI_eq]; omega
  · intro j hj hji hpj
    by_cases e : j = i
    · subst e; exact hx
    · exact h.lt j hj (by omega) hpj
theorem lrnt_no {p : Mg → Bool} {s0 : Lrn} {l : List Mg} {i : Nat} {s : Lrn} (h : Lrnt p s0 l i s) (hi : i < l.length) (hp : ¬ p (l[i]'hi) = true) : Lrnt p s0 l (i + 1) s := by
  refine ⟨hi, ?_, h.lo, ?_⟩
  · rw [lrnL_succ p s0 hi, ← h.eq]
    unfold lrn1
    rw [if_neg hp]
  · intro j hj hji hpj
    by_cases e : j = i
    · subst e; exact absurd hpj hp
    · exact h.lt j hj (by omega) hpj
def cntM (p : Mg → Bool) (l : List Mg) (i : Nat) : Nat := ((l.take i).filter p).length
theorem cntM_yes {p : Mg → Bool} {l : List Mg} {i : Nat} (h : i < l.length) (hp : p (l[i]'h) = true) : cntM p l (i + 1) = cntM p l i + 1 := by
  unfold cntM
  rw [List.take_succ_eq_append_getElem h, List.filter_append, List.length_append, List.filter_cons, if_pos hp]; rfl
theorem cntM_no {p : Mg → Bool} {l : List Mg} {i : Nat} (h : i < l.length) (hp : ¬ p (l[i]'h) = true) : cntM p l (i + 1) = cntM p l i := by
  unfold cntM
  rw [List.take_succ_eq_append_getElem h, List.filter_append, List.length_append, List.filter_cons, if_neg hp]; rfl
theorem cntM_le (p : Mg → Bool) (l : List Mg) (i : Nat) : cntM p l i ≤ i := by
  unfold cntM
  exact Nat.le_trans (List.length_filter_le _ _) (by rw [List.length_take]; omega)

set_option maxHeartbeats 8000000 in
theorem l_RelayFolds (l : List Mg) (hs : ∀ m ∈ l, MgS m) (nx mt frm to term : Int) : Ctr Try.prog 11 [.sl 16 (l.map Mg.enc), iv nx, iv mt, iv frm, iv to, iv term] (bv true) [] := by
  rcases c_heavy19 l hs with kh | ⟨kh, hl60⟩
  · refine spec_of_body mixed Try.func11 rfl (by kernel_rfl) (by kernel_rfl) ?_; conv => whnf
    ((try ((refine Exists.intro none ?_); (conv => whnf))); first | ((with_reducible refine call_by (kh) ?_); conv => whnf))
    exact exit_plain rfl rfl
  have kF := c_Fold l (by omega) (fun m hm => (hs m hm).i.twin)
  have hFl := foldL_len l
  have hFI : ∀ x ∈ foldL l, MgI x := foldL_all (fun x m h _ => h.upd) fun m hm => (hs m hm).i
  have kF2 := c_Fold (foldL l) (by omega) (fun m hm => (hFI m hm).twin)
  rw [foldL_id (foldL_sep l)] at kF2
  have ksame : Ctr Try.prog 31 [.sl 16 ((foldL l).map Mg.enc), .sl 16 ((foldL l).map Mg.enc)] (bv true) [] := s_MsgsR _ (by rw [List.length_map]; omega) fun r hr => by
    obtain ⟨m, hm, rfl⟩ := List.mem_map.1 hr
    exact ⟨(hFI m hm).same, m, rfl⟩
  have hp : ∀ m, mtB frm to term m = decide (keyF m = some (frm, to, term)) := fun m => rfl
  have hlrn : ∀ a b r : Int, lrnL (mtB frm to term) (a, b, r) (foldL l) = lrnL (mtB frm to term) (a, b, r) l := fun a b r => (lrn_fold frm to term a b r l).1
  have hcnt : ((foldL l).filter (mtB frm to term)).length ≤ 1 := (lrn_fold frm to term 0 0 0 l).2
  have hlt : (∀ m ∈ l, mtB frm to term m = true → m.index < 1125899906842624) → ∀ x ∈ foldL l, mtB frm to term x = true → x.index < 1125899906842624 := fun h => fold_lt hp h
  generalize foldL l = F at *
  refine spec_of_body mixed Try.func11 rfl (by kernel_rfl) (by kernel_rfl) ?_; conv => whnf
  ((try ((refine Exists.intro none ?_); (conv => whnf))); first | ((with_reducible refine call_by (kh) ?_); conv => whnf))
  ((first | (with_reducible refine split_dec (fun h => ?_) (fun h => ?_)) | (with_reducible refine split_beq (fun h => ?_) (fun h => ?_)) | (with_reducible refine split_bne (fun h => ?_) (fun h => ?_)) | (with_reducible refine split_not (fun h => ?_) (fun h => ?_)) | (with_reducible refine split_beqS (fun h => ?_) (fun h => ?_)) | (with_reducible refine split_intro (fun h => ?_) (fun h => ?_))) <;> conv => whnf)
  · exact exit_plain rfl rfl
  have hx1 : ¬ nx < 0 := by first | exact h | (simpa using h)
  clear h
  ((first | (with_reducible refine split_dec (fun h => ?_) (fun h => ?_)) | (with_reducible refine split_beq (fun h => ?_) (fun h => ?_)) | (with_reducible refine split_bne (fun h => ?_) (fun h => ?_)) | (with_reducible refine split_not (fun h => ?_) (fun h => ?_)) | (with_reducible refine split_beqS (fun h => ?_) (fun h => ?_)) | (with_reducible refine split_intro (fun h => ?_) (fun h => ?_))) <;> conv => whnf)
  · exact exit_plain rfl rfl
  clear h
  ((first | (with_reducible refine split_dec (fun h => ?_) (fun h => ?_)) | (with_reducible refine split_beq (fun h => ?_) (fun h => ?_)) | (with_reducible refine split_bne (fun h => ?_) (fun h => ?_)) | (with_reducible refine split_not (fun h => ?_) (fun h => ?_)) | (with_reducible refine split_beqS (fun h => ?_) (fun h => ?_)) | (with_reducible refine split_intro (fun h => ?_) (fun h => ?_))) <;> conv => whnf)
  · exact exit_plain rfl rfl
  have hx3 : ¬ mt < 0 := by first | exact h | (simpa using h)
  clear h
  ((first | (with_reducible refine split_dec (fun h => ?_) (fun h => ?_)) | (with_reducible refine split_beq (fun h => ?_) (fun h => ?_)) | (with_reducible refine split_bne (fun h => ?_) (fun h => ?_)) | (with_reducible refine split_not (fun h => ?_) (fun h => ?_)) | (with_reducible refine split_beqS (fun h => ?_) (fun h => ?_)) | (with_reducible refine split_intro (fun h => ?_) (fun h => ?_))) <;> conv => whnf)
  · exact exit_plain rfl rfl
  have hx4 : ¬ 1099511627776 < mt := by first | exact h | (simpa using h)
  clear h
  ((try ((refine Exists.intro none ?_); (conv => whnf))); first | ((with_reducible refine call_by (kF) ?_); conv => whnf))
  (refine Exists.intro _ (And.intro rfl (And.intro (by intro q _; simp only [List.length_nil]; omega) (And.intro (by intro i hi; exact absurd hi (Nat.not_lt_zero i)) ?_))); conv => whnf)
  rw [decide_eq_false (show ¬ ((l.map Mg.enc).length : Int) < ((F.map Mg.enc).length : Int) by simp only [List.length_map]; omega)]
  conv => whnf
  ((try ((refine Exists.intro none ?_); (conv => whnf))); first | ((with_reducible refine call_by (kF2) ?_); conv => whnf))
  (refine Exists.intro _ (And.intro rfl (And.intro (by intro q _; simp only [List.length_nil]; omega) (And.intro (by intro i hi; exact absurd hi (Nat.not_lt_zero i)) ?_))); conv => whnf)
  ((try ((refine Exists.intro none ?_); (conv => whnf))); first | ((with_reducible refine call_by (ksame) ?_); conv => whnf))
  refine tri_for0 mixed (by kernel_rfl) (fun b : Nat × Lrn => Lrnt (mtB frm to term) (nx, mt, -1) l b.1 b.2) (fun b => [(20, iv b.1), (14, iv b.2.1), (15, iv b.2.2.1), (16, iv b.2.2.2)]) [] (fun b => l.length - b.1) (0, nx, mt, -1) ⟨Nat.zero_le _, rfl, ⟨by show 0 ≤ mt; omega, by show mt ≤ _; omega⟩, fun j _ h => absurd h (Nat.not_lt_zero _)⟩ ?_ ?_
  · conv => whnf
    (refine And.intro (And.intro (by with_unfolding_all rfl) (by intro q h; cases h)) ?_; refine And.intro ?_ (And.intro ?_ ?_) <;> (conv => whnf) <;> (repeat' (first | exact True.intro | (with_reducible exact rfl) | exact (rfl : List.replicate 0 PV.bad = []) | ((with_reducible refine And.intro ?_ ?_) <;> (first | (with_reducible exact wkV_same _ rfl) | exact wkV_pt rfl rfl | exact wkV_ow rfl rfl rfl | (refine wkV_ow rfl rfl ?_) | (refine wkV_sc (congrArg (Value.int .i64) ?_)) | (refine wkV_sc (congrArg Value.bool ?_)) | exact wkV_ls rfl | ((refine wkV_cl ?_); conv => whnf) | ((refine wkV_tu ?_); conv => whnf) | ((refine wkV_ag ?_); conv => whnf) | (conv => whnf))))))
    all_goals first | rfl | trace_state
  rintro ⟨i, a, b, r⟩ hL
  have hLle := hL.le
  have hLlo := hL.lo
  simp only at hL hLle hLlo
  conv => whnf
  ((first | (with_reducible refine split_dec (fun h => ?_) (fun h => ?_)) | (with_reducible refine split_beq (fun h => ?_) (fun h => ?_)) | (with_reducible refine split_bne (fun h => ?_) (fun h => ?_)) | (with_reducible refine split_not (fun h => ?_) (fun h => ?_)) | (with_reducible refine split_beqS (fun h => ?_) (fun h => ?_)) | (with_reducible refine split_intro (fun h => ?_) (fun h => ?_))) <;> conv => whnf)
  · have hil : i < l.length := by simp only [List.length_map] at h; omega
    clear h
    have hno := lrnt_no hL hil
    have hyes := lrnt_yes hL hil
    have hiff := mtB_iff (frm := frm) (to := to) (term := term) (m := l[i]'hil)
    (first | ((with_reducible refine And.intro (by omega) (Exists.intro _ (And.intro (row_at hil) ?_))); conv => whnf))
    generalize l[i]'hil = m at *
    by_cases hm : m.kind = 6 ∧ m.yes = true ∧ m.frm = frm ∧ m.to = to ∧ m.term = term
    · have hmt := hiff.2 hm
      have hy := hyes hmt
      obtain ⟨m1, m2, m3, m4, m5⟩ := hm
      clear hno hyes hiff
      ((first | (first | (with_reducible refine split_dt (by assumption) ?_) | (with_reducible refine split_df (by assumption) ?_) | (with_reducible refine split_et (by assumption) ?_) | (with_reducible refine split_ef (by assumption) ?_) | (with_reducible refine split_bt (by assumption) ?_) | (with_reducible refine split_bf (by assumption) ?_) | (with_reducible refine split_nt (by assumption) ?_) | (with_reducible refine split_nf (by assumption) ?_) | (with_reducible refine split_t (by assumption) ?_) | (with_reducible refine split_f (by assumption) ?_)) | (first | (with_reducible refine split_dec (fun h => ?_) (fun h => ?_)) | (with_reducible refine split_beq (fun h => ?_) (fun h => ?_)) | (with_reducible refine split_bne (fun h => ?_) (fun h => ?_)) | (with_reducible refine split_not (fun h => ?_) (fun h => ?_)) | (with_reducible refine split_beqS (fun h => ?_) (fun h => ?_)) | (with_reducible refine split_intro (fun h => ?_) (fun h => ?_)))) <;> conv => whnf)
      ((first | (first | (with_reducible refine split_dt (by assumption) ?_) | (with_reducible refine split_df (by assumption) ?_) | (with_reducible refine split_et (by assumption) ?_) | (with_reducible refine split_ef (by assumption) ?_) | (with_reducible refine split_bt (by assumption) ?_) | (with_reducible refine split_bf (by assumption) ?_) | (with_reducible refine split_nt (by assumption) ?_) | (with_reducible refine split_nf (by assumption) ?_) | (with_reducible refine split_t (by assumption) ?_) | (with_reducible refine split_f (by assumption) ?_)) | (first | (with_reducible refine split_dec (fun h => ?_) (fun h => ?_)) | (with_reducible refine split_beq (fun h => ?_) (fun h => ?_)) | (with_reducible refine split_bne (fun h => ?_) (fun h => ?_)) | (with_reducible refine split_not (fun h => ?_) (fun h => ?_)) | (with_reducible refine split_beqS (fun h => ?_) (fun h => ?_)) | (with_reducible refine split_intro (fun h => ?_) (fun h => ?_)))) <;> conv => whnf)
      ((first | (first | (with_reducible refine split_dt (by assumption) ?_) | (with_reducible refine split_df (by assumption) ?_) | (with_reducible refine split_et (by assumption) ?_) | (with_reducible refine split_ef (by assumption) ?_) | (with_reducible refine split_bt (by assumption) ?_) | (with_reducible refine split_bf (by assumption) ?_) | (with_reducible refine split_nt (by assumption) ?_) | (with_reducible refine split_nf (by assumption) ?_) | (with_reducible refine split_t (by assumption) ?_) | (with_reducible refine split_f (by assumption) ?_)) | (first | (with_reducible refine split_dec (fun h => ?_) (fun h => ?_)) | (with_reducible refine split_beq (fun h => ?_) (fun h => ?_)) | (with_reducible refine split_bne (fun h => ?_) (fun h => ?_)) | (with_reducible refine split_not (fun h => ?_) (fun h => ?_)) | (with_reducible refine split_beqS (fun h => ?_) (fun h => ?_)) | (with_reducible refine split_intro (fun h => ?_) (fun h => ?_)))) <;> conv => whnf)
      ((first | (first | (with_reducible refine split_dt (by assumption) ?_) | (with_reducible refine split_df (by assumption) ?_) | (with_reducible refine split_et (by assumption) ?_) | (with_reducible refine split_ef (by assumption) ?_) | (with_reducible refine split_bt (by assumption) ?_) | (with_reducible refine split_bf (by assumption) ?_) | (with_reducible refine split_nt (by assumption) ?_) | (with_reducible refine split_nf (by assumption) ?_) | (with_reducible refine split_t (by assumption) ?_) | (with_reducible refine split_f (by assumption) ?_)) | (first | (with_reducible refine split_dec (fun h => ?_) (fun h => ?_)) | (with_reducible refine split_beq (fun h => ?_) (fun h => ?_)) | (with_reducible refine split_bne (fun h => ?_) (fun h => ?_)) | (with_reducible refine split_not (fun h => ?_) (fun h => ?_)) | (with_reducible refine split_beqS (fun h => ?_) (fun h => ?_)) | (with_reducible refine split_intro (fun h => ?_) (fun h => ?_)))) <;> conv => whnf)
      ((first | (first | (with_reducible refine split_dt (by assumption) ?_) | (with_reducible refine split_df (by assumption) ?_) | (with_reducible refine split_et (by assumption) ?_) | (with_reducible refine split_ef (by assumption) ?_) | (with_reducible refine split_bt (by assumption) ?_) | (with_reducible refine split_bf (by assumption) ?_) | (with_reducible refine split_nt (by assumption) ?_) | (with_reducible refine split_nf (by assumption) ?_) | (with_reducible refine split_t (by assumption) ?_) | (with_reducible refine split_f (by assumption) ?_)) | (first | (with_reducible refine split_dec (fun h => ?_) (fun h => ?_)) | (with_reducible refine split_beq (fun h => ?_) (fun h => ?_)) | (with_reducible refine split_bne (fun h => ?_) (fun h => ?_)) | (with_reducible refine split_not (fun h => ?_) (fun h => ?_)) | (with_reducible refine split_beqS (fun h => ?_) (fun h => ?_)) | (with_reducible refine split_intro (fun h => ?_) (fun h => ?_)))) <;> conv => whnf)
      by_cases hidx : m.index < 1125899906842624
      · have hy := hy hidx
        rw [decide_eq_true hidx]
        conv => whnf
        ((try ((refine Exists.intro none ?_); (conv => whnf))); first | ((with_reducible refine call_by (c_gNextY a b m m2 ⟨by omega, by omega⟩ (by omega)) ?_); conv => whnf))
        refine ⟨(i + 1, _, _, _), ⟨hy, by show l.length - (i + 1) < l.length - i; omega⟩, ?_⟩
        conv => whnf
        (refine And.intro (And.intro (by with_unfolding_all rfl) (by intro q h; cases h)) ?_; refine And.intro ?_ (And.intro ?_ ?_) <;> (conv => whnf) <;> (repeat' (first | exact True.intro | (with_reducible exact rfl) | exact (rfl : List.replicate 0 PV.bad = []) | ((with_reducible refine And.intro ?_ ?_) <;> (first | (with_reducible exact wkV_same _ rfl) | exact wkV_pt rfl rfl | exact wkV_ow rfl rfl rfl | (refine wkV_ow rfl rfl ?_) | (refine wkV_sc (congrArg (Value.int .i64) ?_)) | (refine wkV_sc (congrArg Value.bool ?_)) | exact wkV_ls rfl | ((refine wkV_cl ?_); conv => whnf) | ((refine wkV_tu ?_); conv => whnf) | ((refine wkV_ag ?_); conv => whnf) | (conv => whnf))))))
        all_goals first | exact w1 (by omega) | rfl | trace_state
      · rw [decide_eq_false hidx]
        conv => whnf
        ((first | (first | (with_reducible refine split_dt (by assumption) ?_) | (with_reducible refine split_df (by assumption) ?_) | (with_reducible refine split_et (by assumption) ?_) | (with_reducible refine split_ef (by assumption) ?_) | (with_reducible refine split_bt (by assumption) ?_) | (with_reducible refine split_bf (by assumption) ?_) | (with_reducible refine split_nt (by assumption) ?_) | (with_reducible refine split_nf (by assumption) ?_) | (with_reducible refine split_t (by assumption) ?_) | (with_reducible refine split_f (by assumption) ?_)) | (first | (with_reducible refine split_dec (fun h => ?_) (fun h => ?_)) | (with_reducible refine split_beq (fun h => ?_) (fun h => ?_)) | (with_reducible refine split_bne (fun h => ?_) (fun h => ?_)) | (with_reducible refine split_not (fun h => ?_) (fun h => ?_)) | (with_reducible refine split_beqS (fun h => ?_) (fun h => ?_)) | (with_reducible refine split_intro (fun h => ?_) (fun h => ?_)))) <;> conv => whnf)
        ((first | (first | (with_reducible refine split_dt (by assumption) ?_) | (with_reducible refine split_df (by assumption) ?_) | (with_reducible refine split_et (by assumption) ?_) | (with_reducible refine split_ef (by assumption) ?_) | (with_reducible refine split_bt (by assumption) ?_) | (with_reducible refine split_bf (by assumption) ?_) | (with_reducible refine split_nt (by assumption) ?_) | (with_reducible refine split_nf (by assumption) ?_) | (with_reducible refine split_t (by assumption) ?_) | (with_reducible refine split_f (by assumption) ?_)) | (first | (with_reducible refine split_dec (fun h => ?_) (fun h => ?_)) | (with_reducible refine split_beq (fun h => ?_) (fun h => ?_)) | (with_reducible refine split_bne (fun h => ?_) (fun h => ?_)) | (with_reducible refine split_not (fun h => ?_) (fun h => ?_)) | (with_reducible refine split_beqS (fun h => ?_) (fun h => ?_)) | (with_reducible refine split_intro (fun h => ?_) (fun h => ?_)))) <;> conv => whnf)
        rw [decide_eq_true (show (1125899906842624 : Int) ≤ m.index by omega)]
        exact exit_plain rfl rfl
    · have hn := hno (fun h => hm (hiff.1 h))
      clear hno hyes hiff
      have fin : ∀ X : Prop, m.kind = 6 → m.yes = true → m.frm = frm → m.to = to → m.term = term → X := fun X h1 h2 h3 h4 h5 => absurd ⟨h1, h2, h3, h4, h5⟩ hm
      repeat' (first | ((first | (first | (with_reducible refine split_dt (by assumption) ?_) | (with_reducible refine split_df (by assumption) ?_) | (with_reducible refine split_et (by assumption) ?_) | (with_reducible refine split_ef (by assumption) ?_) | (with_reducible refine split_bt (by assumption) ?_) | (with_reducible refine split_bf (by assumption) ?_) | (with_reducible refine split_nt (by assumption) ?_) | (with_reducible refine split_nf (by assumption) ?_) | (with_reducible refine split_t (by assumption) ?_) | (with_reducible refine split_f (by assumption) ?_)) | (first | (with_reducible refine split_dec (fun h => ?_) (fun h => ?_)) | (with_reducible refine split_beq (fun h => ?_) (fun h => ?_)) | (with_reducible refine split_bne (fun h => ?_) (fun h => ?_)) | (with_reducible refine split_not (fun h => ?_) (fun h => ?_)) | (with_reducible refine split_beqS (fun h => ?_) (fun h => ?_)) | (with_reducible refine split_intro (fun h => ?_) (fun h => ?_)))) <;> conv => whnf))
      all_goals first
        | exact exit_plain rfl rfl
        | (refine ⟨(i + 1, a, b, r), ⟨hn, by show l.length - (i + 1) < l.length - i; omega⟩, ?_⟩
           conv => whnf
           (refine And.intro (And.intro (by with_unfolding_all rfl) (by intro q h; cases h)) ?_; refine And.intro ?_ (And.intro ?_ ?_) <;> (conv => whnf) <;> (repeat' (first | exact True.intro | (with_reducible exact rfl) | exact (rfl : List.replicate 0 PV.bad = []) | ((with_reducible refine And.intro ?_ ?_) <;> (first | (with_reducible exact wkV_same _ rfl) | exact wkV_pt rfl rfl | exact wkV_ow rfl rfl rfl | (refine wkV_ow rfl rfl ?_) | (refine wkV_sc (congrArg (Value.int .i64) ?_)) | (refine wkV_sc (congrArg Value.bool ?_)) | exact wkV_ls rfl | ((refine wkV_cl ?_); conv => whnf) | ((refine wkV_tu ?_); conv => whnf) | ((refine wkV_ag ?_); conv => whnf) | (conv => whnf))))))
           all_goals first | exact w1 (by omega) | rfl)
        | exact fin _ (by assumption) (by assumption) (by assumption) (by assumption) (by assumption)
        | trace_state
  have ei : i = l.length := by simp only [List.length_map] at h; omega
  subst ei
  clear h
  have hLeq := hL.eq
  have hLlt := hL.lt
  rw [List.take_length] at hLeq
  have hall : ∀ x ∈ F, mtB frm to term x = true → x.index < 1125899906842624 := hlt fun m hm hpm => by
    obtain ⟨j, hj, rfl⟩ := List.getElem_of_mem hm
    exact hLlt j hj hj hpm
  have hab := hlrn nx mt (-1)
  rw [← hLeq] at hab
  refine tri_for0 mixed (by kernel_rfl) (fun b : Nat × Lrn => Lrnt (mtB frm to term) (nx, mt, -1) F b.1 b.2) (fun b => [(23, iv b.1), (17, iv b.2.1), (18, iv b.2.2.1), (19, iv b.2.2.2), (22, iv (cntM (mtB frm to term) F b.1 : Nat))]) [] (fun b => F.length - b.1) (0, nx, mt, -1) ⟨Nat.zero_le _, rfl, ⟨by show 0 ≤ mt; omega, by show mt ≤ _; omega⟩, fun j _ h => absurd h (Nat.not_lt_zero _)⟩ ?_ ?_
  · conv => whnf
    (refine And.intro (And.intro (by with_unfolding_all rfl) (by intro q h; cases h)) ?_; refine And.intro ?_ (And.intro ?_ ?_) <;> (conv => whnf) <;> (repeat' (first | exact True.intro | (with_reducible exact rfl) | exact (rfl : List.replicate 0 PV.bad = []) | ((with_reducible refine And.intro ?_ ?_) <;> (first | (with_reducible exact wkV_same _ rfl) | exact wkV_pt rfl rfl | exact wkV_ow rfl rfl rfl | (refine wkV_ow rfl rfl ?_) | (refine wkV_sc (congrArg (Value.int .i64) ?_)) | (refine wkV_sc (congrArg Value.bool ?_)) | exact wkV_ls rfl | ((refine wkV_cl ?_); conv => whnf) | ((refine wkV_tu ?_); conv => whnf) | ((refine wkV_ag ?_); conv => whnf) | (conv => whnf))))))
    all_goals first | rfl | trace_state
  rintro ⟨i, c, d, s⟩ hL2
  have hLle2 := hL2.le
  have hLlo2 := hL2.lo
  simp only at hL2 hLle2 hLlo2
  have hci := cntM_le (mtB frm to term) F i
  conv => whnf
  ((first | (with_reducible refine split_dec (fun h => ?_) (fun h => ?_)) | (with_reducible refine split_beq (fun h => ?_) (fun h => ?_)) | (with_reducible refine split_bne (fun h => ?_) (fun h => ?_)) | (with_reducible refine split_not (fun h => ?_) (fun h => ?_)) | (with_reducible refine split_beqS (fun h => ?_) (fun h => ?_)) | (with_reducible refine split_intro (fun h => ?_) (fun h => ?_))) <;> conv => whnf)
  · have hil : i < F.length := by simp only [List.length_map] at h; omega
    clear h
    have hno := lrnt_no hL2 hil
    have hyes := lrnt_yes hL2 hil
    have hiff := mtB_iff (frm := frm) (to := to) (term := term) (m := F[i]'hil)
    have hcy := cntM_yes (p := mtB frm to term) hil
    have hcn := cntM_no (p := mtB frm to term) hil
    have hidx := hall _ (List.getElem_mem hil)
    (first | ((with_reducible refine And.intro (by omega) (Exists.intro _ (And.intro (row_at hil) ?_))); conv => whnf))
    generalize F[i]'hil = m at *
    by_cases hm : m.kind = 6 ∧ m.yes = true ∧ m.frm = frm ∧ m.to = to ∧ m.term = term
    · have hmt := hiff.2 hm
      have hx := hidx hmt
      have hy := hyes hmt hx
      have hc := hcy hmt
      obtain ⟨m1, m2, m3, m4, m5⟩ := hm
      clear hno hyes hiff hcy hcn hidx
      ((first | (first | (with_reducible refine split_dt (by assumption) ?_) | (with_reducible refine split_df (by assumption) ?_) | (with_reducible refine split_et (by assumption) ?_) | (with_reducible refine split_ef (by assumption) ?_) | (with_reducible refine split_bt (by assumption) ?_) | (with_reducible refine split_bf (by assumption) ?_) | (with_reducible refine split_nt (by assumption) ?_) | (with_reducible refine split_nf (by assumption) ?_) | (with_reducible refine split_t (by assumption) ?_) | (with_reducible refine split_f (by assumption) ?_)) | (first | (with_reducible refine split_dec (fun h => ?_) (fun h => ?_)) | (with_reducible refine split_beq (fun h => ?_) (fun h => ?_)) | (with_reducible refine split_bne (fun h => ?_) (fun h => ?_)) | (with_reducible refine split_not (fun h => ?_) (fun h => ?_)) | (with_reducible refine split_beqS (fun h => ?_) (fun h => ?_)) | (with_reducible refine split_intro (fun h => ?_) (fun h => ?_)))) <;> conv => whnf)
      ((first | (first | (with_reducible refine split_dt (by assumption) ?_) | (with_reducible refine split_df (by assumption) ?_) | (with_reducible refine split_et (by assumption) ?_) | (with_reducible refine split_ef (by assumption) ?_) | (with_reducible refine split_bt (by assumption) ?_) | (with_reducible refine split_bf (by assumption) ?_) | (with_reducible refine split_nt (by assumption) ?_) | (with_reducible refine split_nf (by assumption) ?_) | (with_reducible refine split_t (by assumption) ?_) | (with_reducible refine split_f (by assumption) ?_)) | (first | (with_reducible refine split_dec (fun h => ?_) (fun h => ?_)) | (with_reducible refine split_beq (fun h => ?_) (fun h => ?_)) | (with_reducible refine split_bne (fun h => ?_) (fun h => ?_)) | (with_reducible refine split_not (fun h => ?_) (fun h => ?_)) | (with_reducible refine split_beqS (fun h => ?_) (fun h => ?_)) | (with_reducible refine split_intro (fun h => ?_) (fun h => ?_)))) <;> conv => whnf)
      ((first | (first | (with_reducible refine split_dt (by assumption) ?_) | (with_reducible refine split_df (by assumption) ?_) | (with_reducible refine split_et (by assumption) ?_) | (with_reducible refine split_ef (by assumption) ?_) | (with_reducible refine split_bt (by assumption) ?_) | (with_reducible refine split_bf (by assumption) ?_) | (with_reducible refine split_nt (by assumption) ?_) | (with_reducible refine split_nf (by assumption) ?_) | (with_reducible refine split_t (by assumption) ?_) | (with_reducible refine split_f (by assumption) ?_)) | (first | (with_reducible refine split_dec (fun h => ?_) (fun h => ?_)) | (with_reducible refine split_beq (fun h => ?_) (fun h => ?_)) | (with_reducible refine split_bne (fun h => ?_) (fun h => ?_)) | (with_reducible refine split_not (fun h => ?_) (fun h => ?_)) | (with_reducible refine split_beqS (fun h => ?_) (fun h => ?_)) | (with_reducible refine split_intro (fun h => ?_) (fun h => ?_)))) <;> conv => whnf)
      ((first | (first | (with_reducible refine split_dt (by assumption) ?_) | (with_reducible refine split_df (by assumption) ?_) | (with_reducible refine split_et (by assumption) ?_) | (with_reducible refine split_ef (by assumption) ?_) | (with_reducible refine split_bt (by assumption) ?_) | (with_reducible refine split_bf (by assumption) ?_) | (with_reducible refine split_nt (by assumption) ?_) | (with_reducible refine split_nf (by assumption) ?_) | (with_reducible refine split_t (by assumption) ?_) | (with_reducible refine split_f (by assumption) ?_)) | (first | (with_reducible refine split_dec (fun h => ?_) (fun h => ?_)) | (with_reducible refine split_beq (fun h => ?_) (fun h => ?_)) | (with_reducible refine split_bne (fun h => ?_) (fun h => ?_)) | (with_reducible refine split_not (fun h => ?_) (fun h => ?_)) | (with_reducible refine split_beqS (fun h => ?_) (fun h => ?_)) | (with_reducible refine split_intro (fun h => ?_) (fun h => ?_)))) <;> conv => whnf)
      ((first | (first | (with_reducible refine split_dt (by assumption) ?_) | (with_reducible refine split_df (by assumption) ?_) | (with_reducible refine split_et (by assumption) ?_) | (with_reducible refine split_ef (by assumption) ?_) | (with_reducible refine split_bt (by assumption) ?_) | (with_reducible refine split_bf (by assumption) ?_) | (with_reducible refine split_nt (by assumption) ?_) | (with_reducible refine split_nf (by assumption) ?_) | (with_reducible refine split_t (by assumption) ?_) | (with_reducible refine split_f (by assumption) ?_)) | (first | (with_reducible refine split_dec (fun h => ?_) (fun h => ?_)) | (with_reducible refine split_beq (fun h => ?_) (fun h => ?_)) | (with_reducible refine split_bne (fun h => ?_) (fun h => ?_)) | (with_reducible refine split_not (fun h => ?_) (fun h => ?_)) | (with_reducible refine split_beqS (fun h => ?_) (fun h => ?_)) | (with_reducible refine split_intro (fun h => ?_) (fun h => ?_)))) <;> conv => whnf)
      ((try ((refine Exists.intro none ?_); (conv => whnf))); first | ((with_reducible refine call_by (c_gNextY c d m m2 ⟨by omega, by omega⟩ (by omega)) ?_); conv => whnf))
      refine ⟨(i + 1, _, _, _), ⟨hy, by show F.length - (i + 1) < F.length - i; omega⟩, ?_⟩
      simp only [hc]
      conv => whnf
      (refine And.intro (And.intro (by with_unfolding_all rfl) (by intro q h; cases h)) ?_; refine And.intro ?_ (And.intro ?_ ?_) <;> (conv => whnf) <;> (repeat' (first | exact True.intro | (with_reducible exact rfl) | exact (rfl : List.replicate 0 PV.bad = []) | ((with_reducible refine And.intro ?_ ?_) <;> (first | (with_reducible exact wkV_same _ rfl) | exact wkV_pt rfl rfl | exact wkV_ow rfl rfl rfl | (refine wkV_ow rfl rfl ?_) | (refine wkV_sc (congrArg (Value.int .i64) ?_)) | (refine wkV_sc (congrArg Value.bool ?_)) | exact wkV_ls rfl | ((refine wkV_cl ?_); conv => whnf) | ((refine wkV_tu ?_); conv => whnf) | ((refine wkV_ag ?_); conv => whnf) | (conv => whnf))))))
      all_goals first | exact w1 (by omega) | rfl | trace_state
    · have hn := hno (fun h => hm (hiff.1 h))
      have hc := hcn (fun h => hm (hiff.1 h))
      clear hno hyes hiff hcy hcn hidx
      have fin : ∀ X : Prop, m.kind = 6 → m.yes = true → m.frm = frm → m.to = to → m.term = term → X := fun X h1 h2 h3 h4 h5 => absurd ⟨h1, h2, h3, h4, h5⟩ hm
      repeat' (first | ((first | (first | (with_reducible refine split_dt (by assumption) ?_) | (with_reducible refine split_df (by assumption) ?_) | (with_reducible refine split_et (by assumption) ?_) | (with_reducible refine split_ef (by assumption) ?_) | (with_reducible refine split_bt (by assumption) ?_) | (with_reducible refine split_bf (by assumption) ?_) | (with_reducible refine split_nt (by assumption) ?_) | (with_reducible refine split_nf (by assumption) ?_) | (with_reducible refine split_t (by assumption) ?_) | (with_reducible refine split_f (by assumption) ?_)) | (first | (with_reducible refine split_dec (fun h => ?_) (fun h => ?_)) | (with_reducible refine split_beq (fun h => ?_) (fun h => ?_)) | (with_reducible refine split_bne (fun h => ?_) (fun h => ?_)) | (with_reducible refine split_not (fun h => ?_) (fun h => ?_)) | (with_reducible refine split_beqS (fun h => ?_) (fun h => ?_)) | (with_reducible refine split_intro (fun h => ?_) (fun h => ?_)))) <;> conv => whnf))
      all_goals first
        | (refine ⟨(i + 1, c, d, s), ⟨hn, by show F.length - (i + 1) < F.length - i; omega⟩, ?_⟩
           simp only [hc]
           conv => whnf
           (refine And.intro (And.intro (by with_unfolding_all rfl) (by intro q h; cases h)) ?_; refine And.intro ?_ (And.intro ?_ ?_) <;> (conv => whnf) <;> (repeat' (first | exact True.intro | (with_reducible exact rfl) | exact (rfl : List.replicate 0 PV.bad = []) | ((with_reducible refine And.intro ?_ ?_) <;> (first | (with_reducible exact wkV_same _ rfl) | exact wkV_pt rfl rfl | exact wkV_ow rfl rfl rfl | (refine wkV_ow rfl rfl ?_) | (refine wkV_sc (congrArg (Value.int .i64) ?_)) | (refine wkV_sc (congrArg Value.bool ?_)) | exact wkV_ls rfl | ((refine wkV_cl ?_); conv => whnf) | ((refine wkV_tu ?_); conv => whnf) | ((refine wkV_ag ?_); conv => whnf) | (conv => whnf))))))
           all_goals first | exact w1 (by omega) | rfl)
        | exact fin _ (by assumption) (by assumption) (by assumption) (by assumption) (by assumption)
        | trace_state
  have ei : i = F.length := by simp only [List.length_map] at h; omega
  subst ei
  clear h
  have hLeq2 := hL2.eq
  rw [List.take_length, hab] at hLeq2
  obtain ⟨rfl, rfl, rfl⟩ : c = a ∧ d = b ∧ s = r := by
    have h1 := congrArg Prod.fst hLeq2
    have h2 := congrArg Prod.snd hLeq2
    have h3 := congrArg Prod.fst h2
    have h4 := congrArg Prod.snd h2
    exact ⟨h1, h3, h4⟩
  have hc1 : cntM (mtB frm to term) F F.length ≤ 1 := by unfold cntM; rw [List.take_length]; exact hcnt
  ((first | (with_reducible refine split_et rfl ?_) | (with_reducible refine split_bf rfl ?_) | (with_reducible refine split_t (beq_self_eq_true _) ?_) | (with_reducible refine split_f (bne_self_eq_false _) ?_)); conv => whnf)
  ((first | (with_reducible refine split_et rfl ?_) | (with_reducible refine split_bf rfl ?_) | (with_reducible refine split_t (beq_self_eq_true _) ?_) | (with_reducible refine split_f (bne_self_eq_false _) ?_)); conv => whnf)
  ((first | (with_reducible refine split_et rfl ?_) | (with_reducible refine split_bf rfl ?_) | (with_reducible refine split_t (beq_self_eq_true _) ?_) | (with_reducible refine split_f (bne_self_eq_false _) ?_)); conv => whnf)
  rw [decide_eq_true (show ((cntM (mtB frm to term) F F.length : Nat) : Int) ≤ 1 by omega)]
  conv => whnf
  ((try ((refine Exists.intro none ?_); (conv => whnf))); first | ((with_reducible refine call_by (c_wakes19) ?_); conv => whnf))
  exact exit_plain rfl rfl
theorem argS_Mgs2 {p : PV} (h : ArgOfS Try.prog 47 p) : ∃ xs : List Mg, p = .sl 16 (xs.map Mg.enc) ∧ ∀ x ∈ xs, MgS x := by
  obtain ⟨rows, e, _, hr⟩ := tyS_slice (e := 58) 16 (by kernel_rfl) (by kernel_rfl) (by decide) (argOfS_one (by kernel_rfl) h)
  cases e
  obtain ⟨xs, rfl, hx⟩ := rows_map (f := Mg.enc) (ok := MgS) (rows := rows) fun r hr' => by
    obtain ⟨n, hn⟩ := hr r hr'
    cases n with
    | zero => exact hn.elim
    | succ n =>
      obtain ⟨x, rfl, _⟩ := typedS_Mg hn
      exact ⟨x, rfl, n + 1, hn⟩
  exact ⟨xs, rfl, hx⟩
theorem told_RelayFolds (qs : List PV) (h : ArgsOfS Try.prog [47, 3, 3, 3, 3, 3] qs) : Ctr Try.prog 11 qs (bv true) [] := by
  obtain ⟨p1, qs, rfl, h1, h⟩ := argsOfS_cons h
  obtain ⟨p2, qs, rfl, h2, h⟩ := argsOfS_cons h
  obtain ⟨p3, qs, rfl, h3, h⟩ := argsOfS_cons h
  obtain ⟨p4, qs, rfl, h4, h⟩ := argsOfS_cons h
  obtain ⟨p5, qs, rfl, h5, h⟩ := argsOfS_cons h
  obtain ⟨p6, qs, rfl, h6, h⟩ := argsOfS_cons h
  obtain rfl := argsOfS_nil h
  obtain ⟨l, rfl, hl⟩ := argS_Mgs2 h1
  obtain ⟨x2, rfl, _⟩ := arg_i h2.arg
  obtain ⟨x3, rfl, _⟩ := arg_i h3.arg
  obtain ⟨x4, rfl, _⟩ := arg_i h4.arg
  obtain ⟨x5, rfl, _⟩ := arg_i h5.arg
  obtain ⟨x6, rfl, _⟩ := arg_i h6.arg
  exact l_RelayFolds l hl x2 x3 x4 x5 x6
end Go.Proofs
