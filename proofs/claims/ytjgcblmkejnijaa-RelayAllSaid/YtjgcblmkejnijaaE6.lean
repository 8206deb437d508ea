/- Contracts of functions: a message's region; the messages of each region. -/
import Derived.Test.YtjgcblmkejnijaaE5
import Derived.Test.YtjgcblmkejnijaaD9
set_option linter.unusedSimpArgs false
set_option linter.unusedVariables false
namespace Go.Proofs
open Go.Pv
set_option maxRecDepth 100000

theorem c_rnode (i : Int) : Ctr Try.prog 70 [iv i] (bv (decide (0 ≤ i ∧ i < 7))) [] := by
  refine spec_of_body mixed Try.func70 rfl (by kernel_rfl) (by kernel_rfl) ?_; conv => whnf
  ((first | (with_reducible refine split_dec (fun h => ?_) (fun h => ?_)) | (with_reducible refine split_beq (fun h => ?_) (fun h => ?_)) | (with_reducible refine split_bne (fun h => ?_) (fun h => ?_)) | (with_reducible refine split_not (fun h => ?_) (fun h => ?_)) | (with_reducible refine split_beqS (fun h => ?_) (fun h => ?_)) | (with_reducible refine split_intro (fun h => ?_) (fun h => ?_))) <;> conv => whnf)
  · exact exit_plain rfl (by simp [h])
  · exact exit_plain rfl (by simp [h])
def regP (l : List Pl) (i : Int) : Int := match l.find? (fun p => decide (p.node = i)) with
  | some p => p.region
  | none => 0
theorem c_Region (l : List Pl) (hl : l.length ≤ 4294967) (n : Int) : Ctr Try.prog 71 [.sl 4 (l.map Pl.enc), iv n] (iv (regP l n)) [] := by
  refine spec_of_body mixed Try.func71 rfl (by kernel_rfl) (by kernel_rfl) ?_; conv => whnf
  refine tri_for0 mixed (by kernel_rfl) (fun i : Nat => i ≤ l.length ∧ ∀ j (hj : j < l.length), j < i → ¬ (l[j]'hj).node = n) (fun i => [(9, iv i)]) [] (fun i => l.length - i) 0 ⟨Nat.zero_le _, fun j _ h => absurd h (Nat.not_lt_zero j)⟩ ?_ ?_
  · conv => whnf
    (refine And.intro (And.intro (by with_unfolding_all rfl) (by intro q h; cases h)) ?_; refine And.intro ?_ (And.intro ?_ ?_) <;> (conv => whnf) <;> (repeat' (first | exact True.intro | (with_reducible exact rfl) | exact (rfl : List.replicate 0 PV.bad = []) | ((with_reducible refine And.intro ?_ ?_) <;> (first | (with_reducible exact wkV_same _ rfl) | exact wkV_pt rfl rfl | exact wkV_ow rfl rfl rfl | (refine wkV_ow rfl rfl ?_) | (refine wkV_sc (congrArg (Value.int .i64) ?_)) | (refine wkV_sc (congrArg Value.bool ?_)) | exact wkV_ls rfl | ((refine wkV_cl ?_); conv => whnf) | ((refine wkV_tu ?_); conv => whnf) | ((refine wkV_ag ?_); conv => whnf) | (conv => whnf))))))
    all_goals rfl
  rintro i ⟨hi, hal⟩
  conv => whnf
  ((first | (with_reducible refine split_dec (fun h => ?_) (fun h => ?_)) | (with_reducible refine split_beq (fun h => ?_) (fun h => ?_)) | (with_reducible refine split_bne (fun h => ?_) (fun h => ?_)) | (with_reducible refine split_not (fun h => ?_) (fun h => ?_)) | (with_reducible refine split_beqS (fun h => ?_) (fun h => ?_)) | (with_reducible refine split_intro (fun h => ?_) (fun h => ?_))) <;> conv => whnf)
  · have hlt : i < l.length := by simp only [List.length_map] at h; omega
    clear h
    (first | ((with_reducible refine And.intro (by omega) (Exists.intro _ (And.intro (row_at hlt) ?_))); conv => whnf))
    ((first | (with_reducible refine split_dec (fun h => ?_) (fun h => ?_)) | (with_reducible refine split_beq (fun h => ?_) (fun h => ?_)) | (with_reducible refine split_bne (fun h => ?_) (fun h => ?_)) | (with_reducible refine split_not (fun h => ?_) (fun h => ?_)) | (with_reducible refine split_beqS (fun h => ?_) (fun h => ?_)) | (with_reducible refine split_intro (fun h => ?_) (fun h => ?_))) <;> conv => whnf)
    · have hf : l.find? (fun p => decide (p.node = n)) = some (l[i]'hlt) := by
        rw [List.find?_eq_some_iff_getElem]
        exact ⟨decide_eq_true h, i, hlt, rfl, fun j hj => by simp [hal j (by omega) hj]⟩
      exact exit_plain rfl (by unfold regP; rw [hf])
    · refine ⟨i + 1, ⟨⟨by omega, fun j hj hji => ?_⟩, by omega⟩, ?_⟩
      · by_cases e : j = i
        · subst e; exact h
        · exact hal j hj (by omega)
      conv => whnf
      (refine And.intro (And.intro (by with_unfolding_all rfl) (by intro q h; cases h)) ?_; refine And.intro ?_ (And.intro ?_ ?_) <;> (conv => whnf) <;> (repeat' (first | exact True.intro | (with_reducible exact rfl) | exact (rfl : List.replicate 0 PV.bad = []) | ((with_reducible refine And.intro ?_ ?_) <;> (first | (with_reducible exact wkV_same _ rfl) | exact wkV_pt rfl rfl | exact wkV_ow rfl rfl rfl | (refine wkV_ow rfl rfl ?_) | (refine wkV_sc (congrArg (Value.int .i64) ?_)) | (refine wkV_sc (congrArg Value.bool ?_)) | exact wkV_ls rfl | ((refine wkV_cl ?_); conv => whnf) | ((refine wkV_tu ?_); conv => whnf) | ((refine wkV_ag ?_); conv => whnf) | (conv => whnf))))))
      all_goals first | exact w1 (by omega) | rfl | trace_state
  · have hf : l.find? (fun p => decide (p.node = n)) = none := by
      rw [List.find?_eq_none]
      intro p hp
      obtain ⟨j, hj, rfl⟩ := List.getElem_of_mem hp
      simp only [List.length_map] at h
      simp [hal j hj (by omega)]
    exact exit_plain rfl (by unfold regP; rw [hf])
theorem regP_in {l : List Pl} (h : plsB l = true) (i : Int) : 0 ≤ regP l i ∧ regP l i < 3 := by
  unfold regP
  split
  · rename_i p hp
    exact (chkP_in l 0 h p (List.mem_of_find?_eq_some hp)).2
  · omega
/-- Is it bundled at all? -/
def awayM (frm : Int) (m : Mg) : Bool := if ¬ (0 ≤ m.to ∧ m.to < 7) then false else if m.frm ≠ frm then false else !decide (m.kind = 9)
def rgM (l : List Pl) (frm home : Int) (m : Mg) : Int := if awayM frm m = true then regP l m.to else home
theorem c_rgM (l : List Pl) (hl : l.length ≤ 4294967) (frm home : Int) (m : Mg) : Ctr Try.prog 72 [.ag m.enc, .ep [iv frm], .ep [iv home], .ep [.sl 4 (l.map Pl.enc)]] (iv (rgM l frm home m)) [] := by
  have kn := c_rnode m.to
  have kr := c_Region l hl m.to
  by_cases h1 : 0 ≤ m.to ∧ m.to < 7
  · rw [decide_eq_true h1] at kn
    by_cases h2 : m.frm = frm
    · by_cases h3 : m.kind = 9
      · have e : rgM l frm home m = home := by unfold rgM awayM; simp [h1, h2, h3]
        rw [e]
        refine spec_of_body mixed Try.func72 rfl (by kernel_rfl) (by kernel_rfl) ?_; conv => whnf
        ((try ((refine Exists.intro none ?_); (conv => whnf))); first | ((with_reducible refine call_by (kn) ?_); conv => whnf))
        ((first | (first | (with_reducible refine split_dt (by assumption) ?_) | (with_reducible refine split_df (by assumption) ?_) | (with_reducible refine split_et (by assumption) ?_) | (with_reducible refine split_ef (by assumption) ?_) | (with_reducible refine split_bt (by assumption) ?_) | (with_reducible refine split_bf (by assumption) ?_) | (with_reducible refine split_nt (by assumption) ?_) | (with_reducible refine split_nf (by assumption) ?_) | (with_reducible refine split_t (by assumption) ?_) | (with_reducible refine split_f (by assumption) ?_)) | (first | (with_reducible refine split_dec (fun h => ?_) (fun h => ?_)) | (with_reducible refine split_beq (fun h => ?_) (fun h => ?_)) | (with_reducible refine split_bne (fun h => ?_) (fun h => ?_)) | (with_reducible refine split_not (fun h => ?_) (fun h => ?_)) | (with_reducible refine split_beqS (fun h => ?_) (fun h => ?_)) | (with_reducible refine split_intro (fun h => ?_) (fun h => ?_)))) <;> conv => whnf)
        ((first | (first | (with_reducible refine split_dt (by assumption) ?_) | (with_reducible refine split_df (by assumption) ?_) | (with_reducible refine split_et (by assumption) ?_) | (with_reducible refine split_ef (by assumption) ?_) | (with_reducible refine split_bt (by assumption) ?_) | (with_reducible refine split_bf (by assumption) ?_) | (with_reducible refine split_nt (by assumption) ?_) | (with_reducible refine split_nf (by assumption) ?_) | (with_reducible refine split_t (by assumption) ?_) | (with_reducible refine split_f (by assumption) ?_)) | (first | (with_reducible refine split_dec (fun h => ?_) (fun h => ?_)) | (with_reducible refine split_beq (fun h => ?_) (fun h => ?_)) | (with_reducible refine split_bne (fun h => ?_) (fun h => ?_)) | (with_reducible refine split_not (fun h => ?_) (fun h => ?_)) | (with_reducible refine split_beqS (fun h => ?_) (fun h => ?_)) | (with_reducible refine split_intro (fun h => ?_) (fun h => ?_)))) <;> conv => whnf)
        exact exit_plain rfl rfl
      · have e : rgM l frm home m = regP l m.to := by unfold rgM awayM; simp [h1, h2, h3]
        rw [e]
        refine spec_of_body mixed Try.func72 rfl (by kernel_rfl) (by kernel_rfl) ?_; conv => whnf
        ((try ((refine Exists.intro none ?_); (conv => whnf))); first | ((with_reducible refine call_by (kn) ?_); conv => whnf))
        ((first | (first | (with_reducible refine split_dt (by assumption) ?_) | (with_reducible refine split_df (by assumption) ?_) | (with_reducible refine split_et (by assumption) ?_) | (with_reducible refine split_ef (by assumption) ?_) | (with_reducible refine split_bt (by assumption) ?_) | (with_reducible refine split_bf (by assumption) ?_) | (with_reducible refine split_nt (by assumption) ?_) | (with_reducible refine split_nf (by assumption) ?_) | (with_reducible refine split_t (by assumption) ?_) | (with_reducible refine split_f (by assumption) ?_)) | (first | (with_reducible refine split_dec (fun h => ?_) (fun h => ?_)) | (with_reducible refine split_beq (fun h => ?_) (fun h => ?_)) | (with_reducible refine split_bne (fun h => ?_) (fun h => ?_)) | (with_reducible refine split_not (fun h => ?_) (fun h => ?_)) | (with_reducible refine split_beqS (fun h => ?_) (fun h => ?_)) | (with_reducible refine split_intro (fun h => ?_) (fun h => ?_)))) <;> conv => whnf)
        ((first | (first | (with_reducible refine split_dt (by assumption) ?_) | (with_reducible refine split_df (by assumption) ?_) | (with_reducible refine split_et (by assumption) ?_) | (with_reducible refine split_ef (by assumption) ?_) | (with_reducible refine split_bt (by assumption) ?_) | (with_reducible refine split_bf (by assumption) ?_) | (with_reducible refine split_nt (by assumption) ?_) | (with_reducible refine split_nf (by assumption) ?_) | (with_reducible refine split_t (by assumption) ?_) | (with_reducible refine split_f (by assumption) ?_)) | (first | (with_reducible refine split_dec (fun h => ?_) (fun h => ?_)) | (with_reducible refine split_beq (fun h => ?_) (fun h => ?_)) | (with_reducible refine split_bne (fun h => ?_) (fun h => ?_)) | (with_reducible refine split_not (fun h => ?_) (fun h => ?_)) | (with_reducible refine split_beqS (fun h => ?_) (fun h => ?_)) | (with_reducible refine split_intro (fun h => ?_) (fun h => ?_)))) <;> conv => whnf)
        ((try ((refine Exists.intro none ?_); (conv => whnf))); first | ((with_reducible refine call_by (kr) ?_); conv => whnf))
        exact exit_plain rfl rfl
    · have e : rgM l frm home m = home := by unfold rgM awayM; simp [h1, h2]
      rw [e]
      refine spec_of_body mixed Try.func72 rfl (by kernel_rfl) (by kernel_rfl) ?_; conv => whnf
      ((try ((refine Exists.intro none ?_); (conv => whnf))); first | ((with_reducible refine call_by (kn) ?_); conv => whnf))
      ((first | (first | (with_reducible refine split_dt (by assumption) ?_) | (with_reducible refine split_df (by assumption) ?_) | (with_reducible refine split_et (by assumption) ?_) | (with_reducible refine split_ef (by assumption) ?_) | (with_reducible refine split_bt (by assumption) ?_) | (with_reducible refine split_bf (by assumption) ?_) | (with_reducible refine split_nt (by assumption) ?_) | (with_reducible refine split_nf (by assumption) ?_) | (with_reducible refine split_t (by assumption) ?_) | (with_reducible refine split_f (by assumption) ?_)) | (first | (with_reducible refine split_dec (fun h => ?_) (fun h => ?_)) | (with_reducible refine split_beq (fun h => ?_) (fun h => ?_)) | (with_reducible refine split_bne (fun h => ?_) (fun h => ?_)) | (with_reducible refine split_not (fun h => ?_) (fun h => ?_)) | (with_reducible refine split_beqS (fun h => ?_) (fun h => ?_)) | (with_reducible refine split_intro (fun h => ?_) (fun h => ?_)))) <;> conv => whnf)
      exact exit_plain rfl rfl
  · rw [decide_eq_false h1] at kn
    have e : rgM l frm home m = home := by unfold rgM awayM; simp [h1]
    rw [e]
    refine spec_of_body mixed Try.func72 rfl (by kernel_rfl) (by kernel_rfl) ?_; conv => whnf
    ((try ((refine Exists.intro none ?_); (conv => whnf))); first | ((with_reducible refine call_by (kn) ?_); conv => whnf))
    exact exit_plain rfl rfl
theorem rgM_in {l : List Pl} (h : plsB l = true) {frm home : Int} (hh : 0 ≤ home ∧ home < 3) (m : Mg) : rgM l frm home m = 0 ∨ rgM l frm home m = 1 ∨ rgM l frm home m = 2 := by
  unfold rgM
  split
  · have := regP_in h m.to; omega
  · omega
end Go.Proofs
