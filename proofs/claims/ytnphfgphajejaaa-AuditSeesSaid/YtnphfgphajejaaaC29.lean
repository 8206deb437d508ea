/- Contracts of functions: calls, entries, logs that may be. -/
import Derived.Test.YtnphfgphajejaaaC28
import Derived.Test.YtnphfgphajejaaaC23
namespace Go.Proofs
open Go.Pv
set_option maxRecDepth 100000

noncomputable def callR (c : VCall) : Int := if c.client < 1 ∨ 4 < c.client ∨ c.seq < 1 ∨ 1099511627776 < c.seq then 1 else cmdR c.cmd
theorem c_rCall (c : VCall) : Ctr Try.prog 106 [.ag c.enc] (iv (callR c)) [] := by
  refine spec_of_body mixed Try.func106 rfl (by kernel_rfl) (by kernel_rfl) ?_; conv => whnf
  repeat' (first | ((first | (with_reducible refine split_dec (fun h => ?_) (fun h => ?_)) | (with_reducible refine split_beq (fun h => ?_) (fun h => ?_)) | (with_reducible refine split_bne (fun h => ?_) (fun h => ?_)) | (with_reducible refine split_not (fun h => ?_) (fun h => ?_)) | (with_reducible refine split_beqS (fun h => ?_) (fun h => ?_)) | (with_reducible refine split_intro (fun h => ?_) (fun h => ?_))) <;> conv => whnf) | ((try ((refine Exists.intro none ?_); (conv => whnf))); first | ((with_reducible refine call_by (c_rCmd c.cmd) ?_); conv => whnf)))
  all_goals (refine exit_plain rfl (congrArg (fun n : Int => iv n) ?_))
  all_goals (unfold callR)
  all_goals (try simp_all)
  all_goals (try ((repeat' split) <;> first | omega | simp_all | skip))
theorem c_rightNumber (a b : Int) : Ctr Try.prog 226 [iv a, iv b] (bv (decide (¬ (a < 1 ∨ 4 < a ∨ b < 1 ∨ 1099511627776 < b)))) [] := by
  refine spec_of_body mixed Try.func226 rfl (by kernel_rfl) (by kernel_rfl) ?_; conv => whnf
  repeat' ((first | (with_reducible refine split_dec (fun h => ?_) (fun h => ?_)) | (with_reducible refine split_beq (fun h => ?_) (fun h => ?_)) | (with_reducible refine split_bne (fun h => ?_) (fun h => ?_)) | (with_reducible refine split_not (fun h => ?_) (fun h => ?_)) | (with_reducible refine split_beqS (fun h => ?_) (fun h => ?_)) | (with_reducible refine split_intro (fun h => ?_) (fun h => ?_))) <;> conv => whnf)
  all_goals (refine exit_plain rfl (congrArg (fun n : Bool => bv n) ?_))
  all_goals (try simp_all)
  all_goals (try omega)
theorem c_sRight (c : VCall) : Ctr Try.prog 198 [.ag c.enc] (iv (callR c)) [] := by
  refine spec_of_body mixed Try.func198 rfl (by kernel_rfl) (by kernel_rfl) ?_; conv => whnf
  ((try ((refine Exists.intro none ?_); (conv => whnf))); first | ((with_reducible refine call_by (c_rightNumber c.client c.seq) ?_); conv => whnf))
  repeat' (first | ((first | (with_reducible refine split_dec (fun h => ?_) (fun h => ?_)) | (with_reducible refine split_beq (fun h => ?_) (fun h => ?_)) | (with_reducible refine split_bne (fun h => ?_) (fun h => ?_)) | (with_reducible refine split_not (fun h => ?_) (fun h => ?_)) | (with_reducible refine split_beqS (fun h => ?_) (fun h => ?_)) | (with_reducible refine split_intro (fun h => ?_) (fun h => ?_))) <;> conv => whnf) | ((try ((refine Exists.intro none ?_); (conv => whnf))); first | ((with_reducible refine call_by (c_kvRight c.cmd) ?_); conv => whnf)))
  all_goals (refine exit_plain rfl (congrArg (fun n : Int => iv n) ?_))
  all_goals (unfold callR)
  · rw [if_pos (by simp at h; omega)]
  · rw [if_neg (by simp at h; omega)]

/-- The zero call. -/
noncomputable def zeroC (c : VCall) : Bool := decide (c.client = 0 ∧ c.seq = 0 ∧ c.cmd.kind = 0 ∧ c.cmd.key = bz) && (zeroV c.cmd.old && zeroV c.cmd.val)
theorem zeroV_nrm (v : VVal) : v.nrm = vz.nrm ↔ zeroV v = true := by
  rw [VVal.nrm_eq, canonF_eq0, zeroV, decide_eq_true_eq]
theorem zeroC_nrm (c : VCall) : c.nrm = kz.nrm ↔ zeroC c = true := by
  rw [VCall.nrm_eq, VCmd.nrm_eq, zeroC, Bool.and_eq_true, Bool.and_eq_true, decide_eq_true_eq, ← zeroV_nrm, ← zeroV_nrm]
  constructor
  · rintro ⟨h1, h2, h3, h4, h5, h6⟩; exact ⟨⟨h1, h2, h3, h4⟩, h5, h6⟩
  · rintro ⟨⟨h1, h2, h3, h4⟩, h5, h6⟩; exact ⟨h1, h2, h3, h4, h5, h6⟩
theorem c_zeroCall (c : VCall) : Ctr Try.prog 233 [.ag c.enc] (bv (zeroC c)) [] := by
  refine spec_of_body mixed Try.func233 rfl (by kernel_rfl) (by kernel_rfl) ?_; conv => whnf
  ((try ((refine Exists.intro none ?_); (conv => whnf))); first | ((with_reducible refine call_by (c_kCall c kz) ?_); conv => whnf))
  refine exit_plain rfl (congrArg (fun n : Bool => bv n) ?_)
  rw [Bool.eq_iff_iff, decide_eq_true_eq, zeroC_nrm]
theorem c_zeroConf (c : Conf) : Ctr Try.prog 234 [.ag c.enc] (bv (decide (c = cz))) [] := by
  refine spec_of_body mixed Try.func234 rfl (by kernel_rfl) (by kernel_rfl) ?_; conv => whnf
  ((try ((refine Exists.intro none ?_); (conv => whnf))); first | ((with_reducible refine call_by (c_kConf c cz) ?_); conv => whnf))
  exact exit_plain rfl rfl
theorem c_noCall (c : VCall) : Ctr Try.prog 242 [.ag c.enc] (bv (zeroC c)) [] := by
  refine spec_of_body mixed Try.func242 rfl (by kernel_rfl) (by kernel_rfl) ?_; conv => whnf
  repeat' (first | ((first | (with_reducible refine split_dec (fun h => ?_) (fun h => ?_)) | (with_reducible refine split_beq (fun h => ?_) (fun h => ?_)) | (with_reducible refine split_bne (fun h => ?_) (fun h => ?_)) | (with_reducible refine split_not (fun h => ?_) (fun h => ?_)) | (with_reducible refine split_beqS (fun h => ?_) (fun h => ?_)) | (with_reducible refine split_intro (fun h => ?_) (fun h => ?_))) <;> conv => whnf) | ((try ((refine Exists.intro none ?_); (conv => whnf))); first | ((with_reducible refine call_by (c_noValue c.cmd.old) ?_); conv => whnf) | ((with_reducible refine call_by (c_noValue c.cmd.val) ?_); conv => whnf)))
  all_goals (refine exit_plain rfl (congrArg (fun n : Bool => bv n) ?_))
  all_goals (unfold zeroC)
  all_goals (simp_all [bl_nil])

noncomputable def entryB (x : Ent) : Bool :=
  if x.kind = 0 then zeroC x.call && decide (x.conf = cz) else
  if x.kind = 1 then decide (callR x.call = 0) && decide (x.conf = cz) else
  if x.kind = 2 then zeroC x.call && confB x.conf else false
theorem c_rEntry (x : Ent) : Ctr Try.prog 223 [.ag x.enc] (bv (entryB x)) [] := by
  refine spec_of_body mixed Try.func223 rfl (by kernel_rfl) (by kernel_rfl) ?_; conv => whnf
  repeat' (first | ((first | (with_reducible refine split_dec (fun h => ?_) (fun h => ?_)) | (with_reducible refine split_beq (fun h => ?_) (fun h => ?_)) | (with_reducible refine split_bne (fun h => ?_) (fun h => ?_)) | (with_reducible refine split_not (fun h => ?_) (fun h => ?_)) | (with_reducible refine split_beqS (fun h => ?_) (fun h => ?_)) | (with_reducible refine split_intro (fun h => ?_) (fun h => ?_))) <;> conv => whnf) | ((try ((refine Exists.intro none ?_); (conv => whnf))); first | ((with_reducible refine call_by (c_zeroCall x.call) ?_); conv => whnf) | ((with_reducible refine call_by (c_zeroConf x.conf) ?_); conv => whnf) | ((with_reducible refine call_by (c_rCall x.call) ?_); conv => whnf) | ((with_reducible refine call_by (c_rConf x.conf) ?_); conv => whnf)))
  all_goals (refine exit_plain rfl (congrArg (fun n : Bool => bv n) ?_))
  all_goals (unfold entryB)
  all_goals (try simp_all)
theorem c_rightEntry (x : Ent) : Ctr Try.prog 230 [.ag x.enc] (bv (entryB x)) [] := by
  refine spec_of_body mixed Try.func230 rfl (by kernel_rfl) (by kernel_rfl) ?_; conv => whnf
  repeat' (first | ((first | (with_reducible refine split_dec (fun h => ?_) (fun h => ?_)) | (with_reducible refine split_beq (fun h => ?_) (fun h => ?_)) | (with_reducible refine split_bne (fun h => ?_) (fun h => ?_)) | (with_reducible refine split_not (fun h => ?_) (fun h => ?_)) | (with_reducible refine split_beqS (fun h => ?_) (fun h => ?_)) | (with_reducible refine split_intro (fun h => ?_) (fun h => ?_))) <;> conv => whnf) | ((try ((refine Exists.intro none ?_); (conv => whnf))); first | ((with_reducible refine call_by (c_noCall x.call) ?_); conv => whnf) | ((with_reducible refine call_by (c_sRight x.call) ?_); conv => whnf) | ((with_reducible refine call_by (c_Check x.conf) ?_); conv => whnf)) | (refine ⟨eqOk23, _, eqConf x.conf cz, ?_⟩; conv => whnf))
  all_goals (refine exit_plain rfl (congrArg (fun n : Bool => bv n) ?_))
  all_goals (unfold entryB)
  all_goals (try simp_all)
  all_goals (cases confB x.conf <;> simp)

/-- Entries that may stand behind a term, in a log of a term. -/
noncomputable def rowB : List Ent → Int → Int → Bool
  | [], _, _ => true
  | x :: l, b, t => (decide (max b 1 ≤ x.term ∧ x.term ≤ t) && entryB x) && rowB l x.term t
/-- The term ahead of entry i. -/
def behind (l : List Ent) (b : Int) (i : Nat) : Int := match (l.take i).getLast? with
  | none => b
  | some x => x.term
theorem behind_0 (l : List Ent) (b : Int) : behind l b 0 = b := by simp [behind]
theorem behind_succ {l : List Ent} {b : Int} {i : Nat} (h : i < l.length) : behind l b (i + 1) = (l[i]'h).term := by
  have e : (l.take (i + 1)).getLast? = some (l[i]'h) := by rw [List.take_succ_eq_append_getElem h, List.getLast?_append]; rfl
  unfold behind
  rw [e]
theorem rowB_iff : ∀ (l : List Ent) (b t : Int), rowB l b t = true ↔ ∀ i (h : i < l.length), max (behind l b i) 1 ≤ (l[i]'h).term ∧ (l[i]'h).term ≤ t ∧ entryB (l[i]'h) = true
  | [], b, t => by simp [rowB]
  | x :: l, b, t => by
    simp only [rowB, Bool.and_eq_true, decide_eq_true_eq, rowB_iff l x.term t]
    constructor
    · rintro ⟨⟨⟨h1, h2⟩, h3⟩, h4⟩ i hi
      cases i with
      | zero => rw [behind_0]; exact ⟨h1, h2, h3⟩
      | succ i =>
        have := h4 i (by simpa using hi)
        have e : behind (x :: l) b (i + 1) = behind l x.term i := by
          cases i with
          | zero => rw [behind_0, behind_succ (by simp)]; simp
          | succ i => rw [behind_succ (by simp at hi ⊢; omega), behind_succ (by simp at hi; omega)]; simp
        rw [e]; simpa using this
    · intro h
      have h0 := h 0 (by simp)
      rw [behind_0] at h0
      refine ⟨⟨⟨h0.1, h0.2.1⟩, h0.2.2⟩, fun i hi => ?_⟩
      have := h (i + 1) (by simpa using hi)
      have e : behind (x :: l) b (i + 1) = behind l x.term i := by
        cases i with
        | zero => rw [behind_0, behind_succ (by simp)]; simp
        | succ i => rw [behind_succ (by simp; omega), behind_succ (by omega)]; simp
      rw [e] at this; simpa using this

theorem c_within08 (n lo hi : Int) : Ctr Try.prog 184 [iv n, iv lo, iv hi] (bv (decide (lo ≤ n ∧ n ≤ hi))) [] := by
  refine spec_of_body mixed Try.func184 rfl (by kernel_rfl) (by kernel_rfl) ?_; conv => whnf
  repeat' ((first | (with_reducible refine split_dec (fun h => ?_) (fun h => ?_)) | (with_reducible refine split_beq (fun h => ?_) (fun h => ?_)) | (with_reducible refine split_bne (fun h => ?_) (fun h => ?_)) | (with_reducible refine split_not (fun h => ?_) (fun h => ?_)) | (with_reducible refine split_beqS (fun h => ?_) (fun h => ?_)) | (with_reducible refine split_intro (fun h => ?_) (fun h => ?_))) <;> conv => whnf)
  all_goals (refine exit_plain rfl (congrArg (fun b : Bool => bv b) ?_))
  all_goals (try simp_all)
  all_goals (try omega)

theorem c_row (l : List Ent) (hm : l.length ≤ maxLen) (b t : Int) : Ctr Try.prog 185 [.sl 16 (l.map Ent.enc), iv b, iv t] (bv (rowB l b t)) [] := by
  have hm' : l.length ≤ 9223372036854775807 := Nat.le_trans hm (by decide)
  refine spec_of_body mixed Try.func185 rfl (by kernel_rfl) (by kernel_rfl) ?_; conv => whnf
  refine tri_for0 mixed (by kernel_rfl) (fun i : Nat => i ≤ l.length ∧ ∀ j (hj : j < l.length), j < i → max (behind l b j) 1 ≤ (l[j]'hj).term ∧ (l[j]'hj).term ≤ t ∧ entryB (l[j]'hj) = true) (fun i => [(7, iv i), (1, iv (behind l b i))]) [] (fun i => l.length - i) 0 ⟨Nat.zero_le _, fun j _ h => absurd h (Nat.not_lt_zero _)⟩ ?_ ?_
  · conv => whnf
    (refine And.intro (And.intro (by with_unfolding_all rfl) (by intro q h; cases h)) ?_; refine And.intro ?_ (And.intro ?_ ?_) <;> (conv => whnf) <;> (repeat' (first | exact True.intro | (with_reducible exact rfl) | exact (rfl : List.replicate 0 PV.bad = []) | ((with_reducible refine And.intro ?_ ?_) <;> (first | (with_reducible exact wkV_same _ rfl) | exact wkV_pt rfl rfl | exact wkV_ow rfl rfl rfl | (refine wkV_ow rfl rfl ?_) | (refine wkV_sc (congrArg (Value.int .i64) ?_)) | (refine wkV_sc (congrArg Value.bool ?_)) | exact wkV_ls rfl | ((refine wkV_cl ?_); conv => whnf) | ((refine wkV_tu ?_); conv => whnf) | ((refine wkV_ag ?_); conv => whnf) | (conv => whnf))))))
    all_goals rfl
  rintro i ⟨hi, hp⟩
  conv => whnf
  ((first | (with_reducible refine split_dec (fun h => ?_) (fun h => ?_)) | (with_reducible refine split_beq (fun h => ?_) (fun h => ?_)) | (with_reducible refine split_bne (fun h => ?_) (fun h => ?_)) | (with_reducible refine split_not (fun h => ?_) (fun h => ?_)) | (with_reducible refine split_beqS (fun h => ?_) (fun h => ?_)) | (with_reducible refine split_intro (fun h => ?_) (fun h => ?_))) <;> conv => whnf)
  · simp only [List.length_map] at h
    have hlt : i < l.length := by omega
    have emax : (if (1 : Int) > behind l b i then 1 else behind l b i) = max (behind l b i) 1 := by split <;> omega
    (first | ((with_reducible refine And.intro (by omega) (Exists.intro _ (And.intro (row_at hlt) ?_))); conv => whnf))
    ((try ((refine Exists.intro none ?_); (conv => whnf))); first | ((with_reducible refine call_by (c_within08 _ _ _) ?_); conv => whnf))
    ((first | (with_reducible refine split_dec (fun h => ?_) (fun h => ?_)) | (with_reducible refine split_beq (fun h => ?_) (fun h => ?_)) | (with_reducible refine split_bne (fun h => ?_) (fun h => ?_)) | (with_reducible refine split_not (fun h => ?_) (fun h => ?_)) | (with_reducible refine split_beqS (fun h => ?_) (fun h => ?_)) | (with_reducible refine split_intro (fun h => ?_) (fun h => ?_))) <;> conv => whnf)
    · refine exit_plain rfl (congrArg (fun b : Bool => bv b) ?_)
      symm
      rw [← Bool.not_eq_true, rowB_iff]
      intro hh
      have := hh i hlt
      have h2 := of_decide_eq_false h
      rw [emax] at h2
      exact h2 ⟨this.1, this.2.1⟩
    · have h1 := of_decide_eq_true h
      rw [emax] at h1
      (first | ((with_reducible refine And.intro (by omega) (Exists.intro _ (And.intro (row_at hlt) ?_))); conv => whnf))
      ((try ((refine Exists.intro none ?_); (conv => whnf))); first | ((with_reducible refine call_by (c_rEntry (l[i]'hlt)) ?_); conv => whnf))
      ((first | (with_reducible refine split_dec (fun h => ?_) (fun h => ?_)) | (with_reducible refine split_beq (fun h => ?_) (fun h => ?_)) | (with_reducible refine split_bne (fun h => ?_) (fun h => ?_)) | (with_reducible refine split_not (fun h => ?_) (fun h => ?_)) | (with_reducible refine split_beqS (fun h => ?_) (fun h => ?_)) | (with_reducible refine split_intro (fun h => ?_) (fun h => ?_))) <;> conv => whnf)
      · refine exit_plain rfl (congrArg (fun b : Bool => bv b) ?_)
        symm
        rw [← Bool.not_eq_true, rowB_iff]
        intro hh
        have := hh i hlt
        rw [h] at this; cases this.2.2
      · (first | ((with_reducible refine And.intro (by omega) (Exists.intro _ (And.intro (row_at hlt) ?_))); conv => whnf))
        refine ⟨i + 1, ⟨⟨by omega, ?_⟩, by omega⟩, ?_⟩
        · intro j hj hji
          by_cases e : j = i
          · subst e; exact ⟨h1.1, h1.2, h⟩
          · exact hp j hj (by omega)
        · rw [behind_succ hlt]
          conv => whnf
          (refine And.intro (And.intro (by with_unfolding_all rfl) (by intro q h; cases h)) ?_; refine And.intro ?_ (And.intro ?_ ?_) <;> (conv => whnf) <;> (repeat' (first | exact True.intro | (with_reducible exact rfl) | exact (rfl : List.replicate 0 PV.bad = []) | ((with_reducible refine And.intro ?_ ?_) <;> (first | (with_reducible exact wkV_same _ rfl) | exact wkV_pt rfl rfl | exact wkV_ow rfl rfl rfl | (refine wkV_ow rfl rfl ?_) | (refine wkV_sc (congrArg (Value.int .i64) ?_)) | (refine wkV_sc (congrArg Value.bool ?_)) | exact wkV_ls rfl | ((refine wkV_cl ?_); conv => whnf) | ((refine wkV_tu ?_); conv => whnf) | ((refine wkV_ag ?_); conv => whnf) | (conv => whnf))))))
          all_goals first | exact w1 (by omega) | rfl
  · simp only [List.length_map] at h
    have : i = l.length := by omega
    subst this
    refine exit_plain rfl (congrArg (fun b : Bool => bv b) ?_)
    symm
    rw [rowB_iff]
    intro j hj
    exact hp j hj hj

theorem c_rightEntries (l : List Ent) (hm : l.length ≤ maxLen) (b t : Int) : Ctr Try.prog 205 [.sl 16 (l.map Ent.enc), iv b, iv t] (bv (rowB l b t)) [] := by
  have hm' : l.length ≤ 9223372036854775807 := Nat.le_trans hm (by decide)
  have emax : ∀ x : Int, (if (1 : Int) > x then 1 else x) = max x 1 := by intro x; split <;> omega
  refine spec_of_body mixed Try.func205 rfl (by kernel_rfl) (by kernel_rfl) ?_; conv => whnf
  refine tri_for0 mixed (by kernel_rfl) (fun i : Nat => i ≤ l.length ∧ ∀ j (hj : j < l.length), j < i → max (behind l b j) 1 ≤ (l[j]'hj).term ∧ (l[j]'hj).term ≤ t ∧ entryB (l[j]'hj) = true) (fun i => [(14, iv i), (7, iv (max (behind l b i) 1))]) [] (fun i => l.length - i) 0 ⟨Nat.zero_le _, fun j _ h => absurd h (Nat.not_lt_zero _)⟩ ?_ ?_
  · conv => whnf
    (refine And.intro (And.intro (by with_unfolding_all rfl) (by intro q h; cases h)) ?_; refine And.intro ?_ (And.intro ?_ ?_) <;> (conv => whnf) <;> (repeat' (first | exact True.intro | (with_reducible exact rfl) | exact (rfl : List.replicate 0 PV.bad = []) | ((with_reducible refine And.intro ?_ ?_) <;> (first | (with_reducible exact wkV_same _ rfl) | exact wkV_pt rfl rfl | exact wkV_ow rfl rfl rfl | (refine wkV_ow rfl rfl ?_) | (refine wkV_sc (congrArg (Value.int .i64) ?_)) | (refine wkV_sc (congrArg Value.bool ?_)) | exact wkV_ls rfl | ((refine wkV_cl ?_); conv => whnf) | ((refine wkV_tu ?_); conv => whnf) | ((refine wkV_ag ?_); conv => whnf) | (conv => whnf))))))
    all_goals first | rfl | (rw [behind_0]; exact emax b)
  rintro i ⟨hi, hp⟩
  conv => whnf
  ((first | (with_reducible refine split_dec (fun h => ?_) (fun h => ?_)) | (with_reducible refine split_beq (fun h => ?_) (fun h => ?_)) | (with_reducible refine split_bne (fun h => ?_) (fun h => ?_)) | (with_reducible refine split_not (fun h => ?_) (fun h => ?_)) | (with_reducible refine split_beqS (fun h => ?_) (fun h => ?_)) | (with_reducible refine split_intro (fun h => ?_) (fun h => ?_))) <;> conv => whnf)
  · simp only [List.length_map] at h
    have hlt : i < l.length := by omega
    have bad : ¬ (max (behind l b i) 1 ≤ (l[i]'hlt).term ∧ (l[i]'hlt).term ≤ t ∧ entryB (l[i]'hlt) = true) → rowB l b t = false := by
      intro hn
      rw [← Bool.not_eq_true, rowB_iff]
      exact fun hh => hn (hh i hlt)
    (first | ((with_reducible refine And.intro (by omega) (Exists.intro _ (And.intro (row_at hlt) ?_))); conv => whnf))
    ((first | (with_reducible refine split_dec (fun h => ?_) (fun h => ?_)) | (with_reducible refine split_beq (fun h => ?_) (fun h => ?_)) | (with_reducible refine split_bne (fun h => ?_) (fun h => ?_)) | (with_reducible refine split_not (fun h => ?_) (fun h => ?_)) | (with_reducible refine split_beqS (fun h => ?_) (fun h => ?_)) | (with_reducible refine split_intro (fun h => ?_) (fun h => ?_))) <;> conv => whnf)
    · exact exit_plain rfl (by rw [bad (by omega)])
    · have h1 := h
      ((first | (with_reducible refine split_dec (fun h => ?_) (fun h => ?_)) | (with_reducible refine split_beq (fun h => ?_) (fun h => ?_)) | (with_reducible refine split_bne (fun h => ?_) (fun h => ?_)) | (with_reducible refine split_not (fun h => ?_) (fun h => ?_)) | (with_reducible refine split_beqS (fun h => ?_) (fun h => ?_)) | (with_reducible refine split_intro (fun h => ?_) (fun h => ?_))) <;> conv => whnf)
      · exact exit_plain rfl (by rw [bad (by omega)])
      · have h2 := h
        ((try ((refine Exists.intro none ?_); (conv => whnf))); first | ((with_reducible refine call_by (c_rightEntry (l[i]'hlt)) ?_); conv => whnf))
        ((first | (with_reducible refine split_dec (fun h => ?_) (fun h => ?_)) | (with_reducible refine split_beq (fun h => ?_) (fun h => ?_)) | (with_reducible refine split_bne (fun h => ?_) (fun h => ?_)) | (with_reducible refine split_not (fun h => ?_) (fun h => ?_)) | (with_reducible refine split_beqS (fun h => ?_) (fun h => ?_)) | (with_reducible refine split_intro (fun h => ?_) (fun h => ?_))) <;> conv => whnf)
        · exact exit_plain rfl (by rw [bad (by rw [h]; simp)])
        · refine ⟨i + 1, ⟨⟨by omega, ?_⟩, by omega⟩, ?_⟩
          · intro j hj hji
            by_cases e : j = i
            · subst e; exact ⟨by omega, by omega, h⟩
            · exact hp j hj (by omega)
          · rw [behind_succ hlt, show max (l[i]'hlt).term 1 = (l[i]'hlt).term from by omega]
            conv => whnf
            (refine And.intro (And.intro (by with_unfolding_all rfl) (by intro q h; cases h)) ?_; refine And.intro ?_ (And.intro ?_ ?_) <;> (conv => whnf) <;> (repeat' (first | exact True.intro | (with_reducible exact rfl) | exact (rfl : List.replicate 0 PV.bad = []) | ((with_reducible refine And.intro ?_ ?_) <;> (first | (with_reducible exact wkV_same _ rfl) | exact wkV_pt rfl rfl | exact wkV_ow rfl rfl rfl | (refine wkV_ow rfl rfl ?_) | (refine wkV_sc (congrArg (Value.int .i64) ?_)) | (refine wkV_sc (congrArg Value.bool ?_)) | exact wkV_ls rfl | ((refine wkV_cl ?_); conv => whnf) | ((refine wkV_tu ?_); conv => whnf) | ((refine wkV_ag ?_); conv => whnf) | (conv => whnf))))))
            all_goals first | exact w1 (by omega) | rfl
  · simp only [List.length_map] at h
    have : i = l.length := by omega
    subst this
    refine exit_plain rfl (congrArg (fun b : Bool => bv b) ?_)
    symm
    rw [rowB_iff]
    intro j hj
    exact hp j hj hj
end Go.Proofs
