/- Contracts of functions: the planner. -/
import Derived.Test.YtjgcblmkejnijaaC17
import Derived.Test.YtjgcblmkejnijaaD9
set_option linter.unusedSimpArgs false
set_option linter.unusedVariables false
namespace Go.Proofs
open Go.Pv
set_option maxRecDepth 100000

/-- The lowest node of bits; else -1. -/
def lowB (bits : Int) : Int := match (List.range 7).find? (fun i => tb bits i) with
  | some i => i
  | none => -1
theorem c_lowest (bits : Int) : Ctr Try.prog 112 [iv bits] (iv (lowB bits)) [] := by
  refine spec_of_body mixed Try.func112 rfl (by kernel_rfl) (by kernel_rfl) ?_; conv => whnf
  refine tri_for0 mixed (by kernel_rfl) (fun i : Nat => i ≤ 7 ∧ ∀ j, j < i → tb bits j = false) (fun i => [(4, iv i)]) [] (fun i => 7 - i) 0 ⟨Nat.zero_le _, fun j h => absurd h (Nat.not_lt_zero j)⟩ ?_ ?_
  · conv => whnf
    (refine And.intro (And.intro (by with_unfolding_all rfl) (by intro q h; cases h)) ?_; refine And.intro ?_ (And.intro ?_ ?_) <;> (conv => whnf) <;> (repeat' (first | exact True.intro | (with_reducible exact rfl) | exact (rfl : List.replicate 0 PV.bad = []) | ((with_reducible refine And.intro ?_ ?_) <;> (first | (with_reducible exact wkV_same _ rfl) | exact wkV_pt rfl rfl | exact wkV_ow rfl rfl rfl | (refine wkV_ow rfl rfl ?_) | (refine wkV_sc (congrArg (Value.int .i64) ?_)) | (refine wkV_sc (congrArg Value.bool ?_)) | exact wkV_ls rfl | ((refine wkV_cl ?_); conv => whnf) | ((refine wkV_tu ?_); conv => whnf) | ((refine wkV_ag ?_); conv => whnf) | (conv => whnf))))))
    all_goals rfl
  rintro i ⟨hi, hal⟩
  conv => whnf
  ((first | (with_reducible refine split_dec (fun h => ?_) (fun h => ?_)) | (with_reducible refine split_beq (fun h => ?_) (fun h => ?_)) | (with_reducible refine split_bne (fun h => ?_) (fun h => ?_)) | (with_reducible refine split_not (fun h => ?_) (fun h => ?_)) | (with_reducible refine split_beqS (fun h => ?_) (fun h => ?_)) | (with_reducible refine split_intro (fun h => ?_) (fun h => ?_))) <;> conv => whnf)
  · have hlt : i < 7 := by omega
    clear h
    have hb : iand .i64 (ishr .i64 bits (i : Int)) 1 = nb (tb bits i) := bit_shr bits i (by omega)
    ((with_reducible refine And.intro (And.intro (by first | decide | omega) (by first | decide | omega)) ?_); conv => whnf)
    rw [hb]
    cases ht : tb bits i with
    | true =>
      have hf : (List.range 7).find? (fun i => tb bits i) = some i := by
        rw [List.find?_eq_some_iff_getElem]
        exact ⟨ht, i, by simpa using hlt, by simp, fun j hj => by simp [hal j hj]⟩
      exact exit_plain rfl (by unfold lowB; rw [hf])
    | false =>
      conv => whnf
      refine ⟨i + 1, ⟨⟨by omega, fun j hj => ?_⟩, by omega⟩, ?_⟩
      · by_cases e : j = i
        · subst e; exact ht
        · exact hal j (by omega)
      conv => whnf
      (refine And.intro (And.intro (by with_unfolding_all rfl) (by intro q h; cases h)) ?_; refine And.intro ?_ (And.intro ?_ ?_) <;> (conv => whnf) <;> (repeat' (first | exact True.intro | (with_reducible exact rfl) | exact (rfl : List.replicate 0 PV.bad = []) | ((with_reducible refine And.intro ?_ ?_) <;> (first | (with_reducible exact wkV_same _ rfl) | exact wkV_pt rfl rfl | exact wkV_ow rfl rfl rfl | (refine wkV_ow rfl rfl ?_) | (refine wkV_sc (congrArg (Value.int .i64) ?_)) | (refine wkV_sc (congrArg Value.bool ?_)) | exact wkV_ls rfl | ((refine wkV_cl ?_); conv => whnf) | ((refine wkV_tu ?_); conv => whnf) | ((refine wkV_ag ?_); conv => whnf) | (conv => whnf))))))
      all_goals first | exact w1 (by omega) | rfl | trace_state
  · have hf : (List.range 7).find? (fun i => tb bits i) = none := by
      rw [List.find?_eq_none]
      intro j hj
      rw [hal j (by have := List.mem_range.1 hj; omega)]; simp
    exact exit_plain rfl (by unfold lowB; rw [hf])
abbrev stepV (c : Conf) : List PV := [bv true, iv c.full, iv c.wit, iv c.learn, iv c.lwit]
abbrev stepZ : List PV := [bv false, iv 0, iv 0, iv 0, iv 0]
abbrev wantV (r : Conf × Int) : PV := .tu [.ag (stepV r.1), bv (r.2 == 0)]
theorem c_wanted (c : Conf) (e : Int) : Ctr Try.prog 110 [.ag c.enc, iv e] (wantV (c, e)) [] := by
  refine spec_of_body mixed Try.func110 rfl (by kernel_rfl) (by kernel_rfl) ?_; conv => whnf
  exact exit_plain rfl rfl
abbrev plnr (c : Conf) (full wit : Int) (p : List Pl) (silent caught : Int) : List PV := [iv c.full, iv c.wit, iv c.learn, iv c.lwit, iv full, iv wit, .sl 4 (p.map Pl.enc), iv silent, iv caught]
theorem c_gone (c : Conf) (full wit : Int) (p : List Pl) (silent caught bits : Int) : Ctr Try.prog 81 [.ag (plnr c full wit p silent caught), iv bits] (wantV (removeR c (lowB bits))) [] := by
  refine spec_of_body mixed Try.func81 rfl (by kernel_rfl) (by kernel_rfl) ?_; conv => whnf
  ((try ((refine Exists.intro none ?_); (conv => whnf))); first | ((with_reducible refine call_by (c_lowest bits) ?_); conv => whnf))
  ((try ((refine Exists.intro none ?_); (conv => whnf))); first | ((with_reducible refine call_by (c_Remove c (lowB bits)) ?_); conv => whnf))
  ((try ((refine Exists.intro none ?_); (conv => whnf))); first | ((with_reducible refine call_by (c_wanted (removeR c (lowB bits)).1 (removeR c (lowB bits)).2) ?_); conv => whnf))
  exact exit_plain rfl rfl
noncomputable def readyB (c : Conf) (full wit caught : Int) : Int :=
  if count c.wit ≤ wit then bor (if count c.full ≤ full then bor 0 (band c.learn caught) else 0) (band c.lwit caught) else (if count c.full ≤ full then bor 0 (band c.learn caught) else 0)
theorem c_promoted (c : Conf) (full wit : Int) (p : List Pl) (silent caught : Int) : Ctr Try.prog 82 [.ag (plnr c full wit p silent caught)] (wantV (promoteR c (lowB (readyB c full wit caught)))) [] := by
  have key : ∀ b : Int, b = readyB c full wit caught → Ctr Try.prog 112 [iv b] (iv (lowB (readyB c full wit caught))) [] := fun b e => by rw [← e]; exact c_lowest b
  have kp := c_Promote c (lowB (readyB c full wit caught))
  refine spec_of_body mixed Try.func82 rfl (by kernel_rfl) (by kernel_rfl) ?_; conv => whnf
  ((try ((refine Exists.intro none ?_); (conv => whnf))); first | ((with_reducible refine call_by (c_Count c.full) ?_); conv => whnf))
  ((first | (with_reducible refine split_dec (fun h => ?_) (fun h => ?_)) | (with_reducible refine split_beq (fun h => ?_) (fun h => ?_)) | (with_reducible refine split_bne (fun h => ?_) (fun h => ?_)) | (with_reducible refine split_not (fun h => ?_) (fun h => ?_)) | (with_reducible refine split_beqS (fun h => ?_) (fun h => ?_)) | (with_reducible refine split_intro (fun h => ?_) (fun h => ?_))) <;> conv => whnf)
  · have h1 := h
    ((try ((refine Exists.intro none ?_); (conv => whnf))); first | ((with_reducible refine call_by (c_Count c.wit) ?_); conv => whnf))
    ((first | (with_reducible refine split_dec (fun h => ?_) (fun h => ?_)) | (with_reducible refine split_beq (fun h => ?_) (fun h => ?_)) | (with_reducible refine split_bne (fun h => ?_) (fun h => ?_)) | (with_reducible refine split_not (fun h => ?_) (fun h => ?_)) | (with_reducible refine split_beqS (fun h => ?_) (fun h => ?_)) | (with_reducible refine split_intro (fun h => ?_) (fun h => ?_))) <;> conv => whnf)
    · have k1 := key (bor (bor 0 (band c.learn caught)) (band c.lwit caught)) (by unfold readyB; rw [if_pos h, if_pos h1])
      ((try ((refine Exists.intro none ?_); (conv => whnf))); first | ((with_reducible refine call_by (k1) ?_); conv => whnf))
      ((try ((refine Exists.intro none ?_); (conv => whnf))); first | ((with_reducible refine call_by (kp) ?_); conv => whnf))
      ((try ((refine Exists.intro none ?_); (conv => whnf))); first | ((with_reducible refine call_by (c_wanted _ _) ?_); conv => whnf))
      exact exit_plain rfl rfl
    · have k1 := key (bor 0 (band c.learn caught)) (by unfold readyB; rw [if_neg h, if_pos h1])
      ((try ((refine Exists.intro none ?_); (conv => whnf))); first | ((with_reducible refine call_by (k1) ?_); conv => whnf))
      ((try ((refine Exists.intro none ?_); (conv => whnf))); first | ((with_reducible refine call_by (kp) ?_); conv => whnf))
      ((try ((refine Exists.intro none ?_); (conv => whnf))); first | ((with_reducible refine call_by (c_wanted _ _) ?_); conv => whnf))
      exact exit_plain rfl rfl
  · have h1 := h
    ((try ((refine Exists.intro none ?_); (conv => whnf))); first | ((with_reducible refine call_by (c_Count c.wit) ?_); conv => whnf))
    ((first | (with_reducible refine split_dec (fun h => ?_) (fun h => ?_)) | (with_reducible refine split_beq (fun h => ?_) (fun h => ?_)) | (with_reducible refine split_bne (fun h => ?_) (fun h => ?_)) | (with_reducible refine split_not (fun h => ?_) (fun h => ?_)) | (with_reducible refine split_beqS (fun h => ?_) (fun h => ?_)) | (with_reducible refine split_intro (fun h => ?_) (fun h => ?_))) <;> conv => whnf)
    · have k1 := key (bor 0 (band c.lwit caught)) (by unfold readyB; rw [if_pos h, if_neg h1])
      ((try ((refine Exists.intro none ?_); (conv => whnf))); first | ((with_reducible refine call_by (k1) ?_); conv => whnf))
      ((try ((refine Exists.intro none ?_); (conv => whnf))); first | ((with_reducible refine call_by (kp) ?_); conv => whnf))
      ((try ((refine Exists.intro none ?_); (conv => whnf))); first | ((with_reducible refine call_by (c_wanted _ _) ?_); conv => whnf))
      exact exit_plain rfl rfl
    · have k1 := key 0 (by unfold readyB; rw [if_neg h, if_neg h1])
      ((try ((refine Exists.intro none ?_); (conv => whnf))); first | ((with_reducible refine call_by (k1) ?_); conv => whnf))
      ((try ((refine Exists.intro none ?_); (conv => whnf))); first | ((with_reducible refine call_by (kp) ?_); conv => whnf))
      ((try ((refine Exists.intro none ?_); (conv => whnf))); first | ((with_reducible refine call_by (c_wanted _ _) ?_); conv => whnf))
      exact exit_plain rfl rfl
noncomputable def tooP (c : Conf) (voters should silent : Int) : PV := if count voters ≤ should then .tu [.ag stepZ, bv false] else wantV (removeR c (lowB (band voters silent)))
theorem c_tooMany (c : Conf) (full wit : Int) (p : List Pl) (silent caught voters should : Int) : Ctr Try.prog 84 [.ag (plnr c full wit p silent caught), iv voters, iv should] (tooP c voters should silent) [] := by
  unfold tooP
  refine spec_of_body mixed Try.func84 rfl (by kernel_rfl) (by kernel_rfl) ?_; conv => whnf
  ((try ((refine Exists.intro none ?_); (conv => whnf))); first | ((with_reducible refine call_by (c_Count voters) ?_); conv => whnf))
  ((first | (with_reducible refine split_dec (fun h => ?_) (fun h => ?_)) | (with_reducible refine split_beq (fun h => ?_) (fun h => ?_)) | (with_reducible refine split_bne (fun h => ?_) (fun h => ?_)) | (with_reducible refine split_not (fun h => ?_) (fun h => ?_)) | (with_reducible refine split_beqS (fun h => ?_) (fun h => ?_)) | (with_reducible refine split_intro (fun h => ?_) (fun h => ?_))) <;> conv => whnf)
  · exact exit_plain rfl (by rw [if_pos h])
  · ((try ((refine Exists.intro none ?_); (conv => whnf))); first | ((with_reducible refine call_by (c_gone c full wit p silent caught (band voters silent)) ?_); conv => whnf))
    exact exit_plain rfl (by rw [if_neg h])
/-- Nobody is to learn. -/
def fullB (learn voters should silent : Int) : Prop := learn ≠ 0 ∨ should < count voters ∨ (count voters = should ∧ band voters silent = 0)
noncomputable def lrnBits (c : Conf) (spare silent : Int) : Int := bandn (bandn (band spare 127) (allB c)) silent
theorem c_learnedN (c : Conf) (full wit : Int) (p : List Pl) (silent caught learn voters should spare : Int) (w : Bool) (h : fullB learn voters should silent) : Ctr Try.prog 87 [.ag (plnr c full wit p silent caught), iv learn, iv voters, iv should, iv spare, bv w] (.tu [.ag stepZ, bv false]) [] := by
  unfold fullB at h
  have hh := h
  clear h
  refine spec_of_body mixed Try.func87 rfl (by kernel_rfl) (by kernel_rfl) ?_; conv => whnf
  ((try ((refine Exists.intro none ?_); (conv => whnf))); first | ((with_reducible refine call_by (c_Count voters) ?_); conv => whnf))
  ((first | (with_reducible refine split_dec (fun h => ?_) (fun h => ?_)) | (with_reducible refine split_beq (fun h => ?_) (fun h => ?_)) | (with_reducible refine split_bne (fun h => ?_) (fun h => ?_)) | (with_reducible refine split_not (fun h => ?_) (fun h => ?_)) | (with_reducible refine split_beqS (fun h => ?_) (fun h => ?_)) | (with_reducible refine split_intro (fun h => ?_) (fun h => ?_))) <;> conv => whnf)
  · exact exit_plain rfl rfl
  have h1 : learn = 0 := by first | exact h | exact Classical.byContradiction h
  clear h
  ((first | (with_reducible refine split_dec (fun h => ?_) (fun h => ?_)) | (with_reducible refine split_beq (fun h => ?_) (fun h => ?_)) | (with_reducible refine split_bne (fun h => ?_) (fun h => ?_)) | (with_reducible refine split_not (fun h => ?_) (fun h => ?_)) | (with_reducible refine split_beqS (fun h => ?_) (fun h => ?_)) | (with_reducible refine split_intro (fun h => ?_) (fun h => ?_))) <;> conv => whnf)
  · exact exit_plain rfl rfl
  have h2 : ¬ should < count voters := by first | exact h | simpa using h
  clear h
  ((first | (with_reducible refine split_dec (fun h => ?_) (fun h => ?_)) | (with_reducible refine split_beq (fun h => ?_) (fun h => ?_)) | (with_reducible refine split_bne (fun h => ?_) (fun h => ?_)) | (with_reducible refine split_not (fun h => ?_) (fun h => ?_)) | (with_reducible refine split_beqS (fun h => ?_) (fun h => ?_)) | (with_reducible refine split_intro (fun h => ?_) (fun h => ?_))) <;> conv => whnf)
  · have h3 := h
    clear h
    have h4 : band voters silent = 0 := by
      rcases hh with h | h | h
      · exact absurd h1 h
      · exact absurd h h2
      · exact h.2
    ((first | (first | (with_reducible refine split_dt (by assumption) ?_) | (with_reducible refine split_df (by assumption) ?_) | (with_reducible refine split_et (by assumption) ?_) | (with_reducible refine split_ef (by assumption) ?_) | (with_reducible refine split_bt (by assumption) ?_) | (with_reducible refine split_bf (by assumption) ?_) | (with_reducible refine split_nt (by assumption) ?_) | (with_reducible refine split_nf (by assumption) ?_) | (with_reducible refine split_t (by assumption) ?_) | (with_reducible refine split_f (by assumption) ?_)) | (first | (with_reducible refine split_dec (fun h => ?_) (fun h => ?_)) | (with_reducible refine split_beq (fun h => ?_) (fun h => ?_)) | (with_reducible refine split_bne (fun h => ?_) (fun h => ?_)) | (with_reducible refine split_not (fun h => ?_) (fun h => ?_)) | (with_reducible refine split_beqS (fun h => ?_) (fun h => ?_)) | (with_reducible refine split_intro (fun h => ?_) (fun h => ?_)))) <;> conv => whnf)
    exact exit_plain rfl rfl
  · exfalso
    rcases hh with h' | h' | h'
    · exact h' h1
    · exact h2 h'
    · exact h h'.1
theorem c_learned (c : Conf) (full wit : Int) (p : List Pl) (hl : p.length ≤ 4294967) (hp : plsB p = true) (silent caught learn voters should spare : Int) (w : Bool) (h : ¬ fullB learn voters should silent) : Ctr Try.prog 87 [.ag (plnr c full wit p silent caught), iv learn, iv voters, iv should, iv spare, bv w] (wantV (learnR c (bestP p (lrnBits c spare silent)) w)) [] := by
  unfold fullB at h
  have hh := h
  clear h
  have kb := c_Best p hl hp (lrnBits c spare silent)
  unfold lrnBits allB at kb
  have kl := c_Learn c (bestP p (lrnBits c spare silent)) w
  unfold lrnBits allB at kl
  unfold lrnBits allB
  have h1 : learn = 0 := Classical.byContradiction fun h => hh (.inl h)
  have h2 : ¬ should < count voters := fun h => hh (.inr (.inl h))
  refine spec_of_body mixed Try.func87 rfl (by kernel_rfl) (by kernel_rfl) ?_; conv => whnf
  ((try ((refine Exists.intro none ?_); (conv => whnf))); first | ((with_reducible refine call_by (c_Count voters) ?_); conv => whnf))
  ((first | (first | (with_reducible refine split_dt (by assumption) ?_) | (with_reducible refine split_df (by assumption) ?_) | (with_reducible refine split_et (by assumption) ?_) | (with_reducible refine split_ef (by assumption) ?_) | (with_reducible refine split_bt (by assumption) ?_) | (with_reducible refine split_bf (by assumption) ?_) | (with_reducible refine split_nt (by assumption) ?_) | (with_reducible refine split_nf (by assumption) ?_) | (with_reducible refine split_t (by assumption) ?_) | (with_reducible refine split_f (by assumption) ?_)) | (first | (with_reducible refine split_dec (fun h => ?_) (fun h => ?_)) | (with_reducible refine split_beq (fun h => ?_) (fun h => ?_)) | (with_reducible refine split_bne (fun h => ?_) (fun h => ?_)) | (with_reducible refine split_not (fun h => ?_) (fun h => ?_)) | (with_reducible refine split_beqS (fun h => ?_) (fun h => ?_)) | (with_reducible refine split_intro (fun h => ?_) (fun h => ?_)))) <;> conv => whnf)
  ((first | (first | (with_reducible refine split_dt (by assumption) ?_) | (with_reducible refine split_df (by assumption) ?_) | (with_reducible refine split_et (by assumption) ?_) | (with_reducible refine split_ef (by assumption) ?_) | (with_reducible refine split_bt (by assumption) ?_) | (with_reducible refine split_bf (by assumption) ?_) | (with_reducible refine split_nt (by assumption) ?_) | (with_reducible refine split_nf (by assumption) ?_) | (with_reducible refine split_t (by assumption) ?_) | (with_reducible refine split_f (by assumption) ?_)) | (first | (with_reducible refine split_dec (fun h => ?_) (fun h => ?_)) | (with_reducible refine split_beq (fun h => ?_) (fun h => ?_)) | (with_reducible refine split_bne (fun h => ?_) (fun h => ?_)) | (with_reducible refine split_not (fun h => ?_) (fun h => ?_)) | (with_reducible refine split_beqS (fun h => ?_) (fun h => ?_)) | (with_reducible refine split_intro (fun h => ?_) (fun h => ?_)))) <;> conv => whnf)
  ((first | (with_reducible refine split_dec (fun h => ?_) (fun h => ?_)) | (with_reducible refine split_beq (fun h => ?_) (fun h => ?_)) | (with_reducible refine split_bne (fun h => ?_) (fun h => ?_)) | (with_reducible refine split_not (fun h => ?_) (fun h => ?_)) | (with_reducible refine split_beqS (fun h => ?_) (fun h => ?_)) | (with_reducible refine split_intro (fun h => ?_) (fun h => ?_))) <;> conv => whnf)
  · have h3 : count voters = should := by first | exact h | simpa using h
    clear h
    have h4 : ¬ band voters silent = 0 := fun h => hh (.inr (.inr ⟨h3, h⟩))
    ((first | (first | (with_reducible refine split_dt (by assumption) ?_) | (with_reducible refine split_df (by assumption) ?_) | (with_reducible refine split_et (by assumption) ?_) | (with_reducible refine split_ef (by assumption) ?_) | (with_reducible refine split_bt (by assumption) ?_) | (with_reducible refine split_bf (by assumption) ?_) | (with_reducible refine split_nt (by assumption) ?_) | (with_reducible refine split_nf (by assumption) ?_) | (with_reducible refine split_t (by assumption) ?_) | (with_reducible refine split_f (by assumption) ?_)) | (first | (with_reducible refine split_dec (fun h => ?_) (fun h => ?_)) | (with_reducible refine split_beq (fun h => ?_) (fun h => ?_)) | (with_reducible refine split_bne (fun h => ?_) (fun h => ?_)) | (with_reducible refine split_not (fun h => ?_) (fun h => ?_)) | (with_reducible refine split_beqS (fun h => ?_) (fun h => ?_)) | (with_reducible refine split_intro (fun h => ?_) (fun h => ?_)))) <;> conv => whnf)
    ((try ((refine Exists.intro none ?_); (conv => whnf))); first | ((with_reducible refine call_by (c_All c) ?_); conv => whnf))
    ((try ((refine Exists.intro none ?_); (conv => whnf))); first | ((with_reducible refine call_by (kb) ?_); conv => whnf))
    ((try ((refine Exists.intro none ?_); (conv => whnf))); first | ((with_reducible refine call_by (kl) ?_); conv => whnf))
    ((try ((refine Exists.intro none ?_); (conv => whnf))); first | ((with_reducible refine call_by (c_wanted _ _) ?_); conv => whnf))
    exact exit_plain rfl rfl
  · ((try ((refine Exists.intro none ?_); (conv => whnf))); first | ((with_reducible refine call_by (c_All c) ?_); conv => whnf))
    ((try ((refine Exists.intro none ?_); (conv => whnf))); first | ((with_reducible refine call_by (kb) ?_); conv => whnf))
    ((try ((refine Exists.intro none ?_); (conv => whnf))); first | ((with_reducible refine call_by (kl) ?_); conv => whnf))
    ((try ((refine Exists.intro none ?_); (conv => whnf))); first | ((with_reducible refine call_by (c_wanted _ _) ?_); conv => whnf))
    exact exit_plain rfl rfl
end Go.Proofs
