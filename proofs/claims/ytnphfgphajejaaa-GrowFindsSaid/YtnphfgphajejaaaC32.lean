import Derived.Test.YtnphfgphajejaaaC22
import Derived.Test.YtnphfgphajejaaaC13
import Derived.Test.YtnphfgphajejaaaC21
import Derived.Test.YtnphfgphajejaaaPvN
/- Contracts of functions: calls that wait: the program's checks, what waits. -/
set_option linter.unusedSimpArgs false
set_option linter.unusedVariables false
namespace Go.Proofs
open Go.Pv
set_option maxRecDepth 100000

structure Pd where
  call : VCall
  index : Int
deriving DecidableEq
abbrev Pd.enc (x : Pd) : List PV := [iv x.call.client, iv x.call.seq, iv x.call.cmd.kind, sv x.call.cmd.key, iv x.call.cmd.old.kind, .sc (.float .f64 x.call.cmd.old.num), sv x.call.cmd.old.text, iv x.call.cmd.val.kind, .sc (.float .f64 x.call.cmd.val.num), sv x.call.cmd.val.text, iv x.index]
def Pd.ok (x : Pd) : Prop := x.call.ok ∧ isI x.index
theorem ty_Pd {ls : List PV} (h : Ty Try.prog 102 ls) : ∃ x : Pd, ls = x.enc ∧ x.ok := by
  obtain ⟨ps, rfl, h0⟩ := ty_struct [70, 3] (by kernel_rfl) (by kernel_rfl) h
  obtain ⟨p0, ps, rfl, h1, h0⟩ := tyParts_cons h0
  obtain ⟨p1, ps, rfl, h2, h0⟩ := tyParts_cons h0
  obtain rfl := tyParts_nil h0
  obtain ⟨x0, rfl, w0⟩ := ty_VCall h1
  obtain ⟨x1, rfl, w1⟩ := ty_i h2
  exact ⟨⟨x0, x1⟩, rfl, w0, w1⟩
theorem ty_Put {ls : List PV} (h : Ty Try.prog 115 ls) : ∃ x : Pd, ls = x.enc ∧ x.ok := by
  obtain ⟨ps, rfl, h0⟩ := ty_struct [70, 3] (by kernel_rfl) (by kernel_rfl) h
  obtain ⟨p0, ps, rfl, h1, h0⟩ := tyParts_cons h0
  obtain ⟨p1, ps, rfl, h2, h0⟩ := tyParts_cons h0
  obtain rfl := tyParts_nil h0
  obtain ⟨x0, rfl, w0⟩ := ty_VCall h1
  obtain ⟨x1, rfl, w1⟩ := ty_i h2
  exact ⟨⟨x0, x1⟩, rfl, w0, w1⟩
theorem arg_Pds {p : PV} (h : ArgOf Try.prog 97 p) : ∃ xs : List Pd, p = .sl 11 (xs.map Pd.enc) ∧ xs.length ≤ maxLen ∧ ∀ x ∈ xs, x.ok := by
  obtain ⟨rows, e, hl, hr⟩ := ty_slice (e := 102) 11 (by kernel_rfl) (by kernel_rfl) (by decide) (argOf_one (by kernel_rfl) h)
  cases e
  obtain ⟨xs, rfl, hx⟩ := rows_map (f := Pd.enc) (ok := Pd.ok) fun r hr' => ty_Pd (hr r hr')
  exact ⟨xs, rfl, by simpa using hl, hx⟩
theorem arg_Puts {p : PV} (h : ArgOf Try.prog 114 p) : ∃ xs : List Pd, p = .sl 11 (xs.map Pd.enc) ∧ xs.length ≤ maxLen ∧ ∀ x ∈ xs, x.ok := by
  obtain ⟨rows, e, hl, hr⟩ := ty_slice (e := 115) 11 (by kernel_rfl) (by kernel_rfl) (by decide) (argOf_one (by kernel_rfl) h)
  cases e
  obtain ⟨xs, rfl, hx⟩ := rows_map (f := Pd.enc) (ok := Pd.ok) fun r hr' => ty_Put (hr r hr')
  exact ⟨xs, rfl, by simpa using hl, hx⟩

def ownC (a b : VCall) : Bool := decide (a.client = b.client ∧ a.seq = b.seq)
theorem c_own (a b : VCall) : Ctr Try.prog 196 [.ag a.enc, .ag b.enc] (bv (ownC a b)) [] := by
  refine spec_of_body mixed Try.func196 rfl (by kernel_rfl) (by kernel_rfl) ?_; conv => whnf
  repeat' ((first | (with_reducible refine split_dec (fun h => ?_) (fun h => ?_)) | (with_reducible refine split_beq (fun h => ?_) (fun h => ?_)) | (with_reducible refine split_bne (fun h => ?_) (fun h => ?_)) | (with_reducible refine split_not (fun h => ?_) (fun h => ?_)) | (with_reducible refine split_beqS (fun h => ?_) (fun h => ?_)) | (with_reducible refine split_intro (fun h => ?_) (fun h => ?_))) <;> conv => whnf)
  all_goals (refine exit_plain rfl (congrArg (fun n : Bool => bv n) ?_))
  all_goals (simp_all [ownC])
  all_goals (rw [Bool.eq_iff_iff]; simp)
theorem c_Has1 (c : VCall) (x : Pd) : Ctr Try.prog 200 [.ag x.enc, .ep c.enc] (bv (ownC x.call c)) [] := by
  refine spec_of_body mixed Try.func200 rfl (by kernel_rfl) (by kernel_rfl) ?_; conv => whnf
  ((try ((refine Exists.intro none ?_); (conv => whnf))); first | ((with_reducible refine call_by (c_own x.call c) ?_); conv => whnf))
  exact exit_plain rfl rfl
theorem c_Put1 (c : VCall) (x : Pd) : Ctr Try.prog 203 [.ag x.enc, .ep c.enc] (bv (x.call.client == c.client)) [] := by
  refine spec_of_body mixed Try.func203 rfl (by kernel_rfl) (by kernel_rfl) ?_; conv => whnf
  exact exit_plain rfl rfl

/-- The first that is so; else -1. -/
def firstI {α : Type} (f : α → Bool) (l : List α) : Int := match l.findIdx? f with
  | some i => i
  | none => -1

theorem c_IndexFunc (l : List Pd) (hm : l.length ≤ maxLen) (g : Nat) (p : List PV) (f : Pd → Bool) (hg : ∀ x, Ctr Try.prog g [.ag (Pd.enc x), .ep p] (bv (f x)) []) : Ctr Try.prog 228 [.sl 11 (l.map Pd.enc), .cl g [.ep p]] (iv (firstI f l)) [] := by
  have hm' : l.length ≤ 9223372036854775807 := Nat.le_trans hm (by decide)
  refine spec_of_body mixed Try.func228 rfl (by kernel_rfl) (by kernel_rfl) ?_; conv => whnf
  refine tri_for0 mixed (by kernel_rfl) (fun i : Nat => i ≤ l.length ∧ ∀ j (hj : j < l.length), j < i → f (l[j]'hj) = false) (fun i => [(8, iv i)]) [] (fun i => l.length - i) 0 ⟨Nat.zero_le _, fun j _ h => absurd h (Nat.not_lt_zero _)⟩ ?_ ?_
  · conv => whnf
    (refine And.intro (And.intro (by with_unfolding_all rfl) (by intro q h; cases h)) ?_; refine And.intro ?_ (And.intro ?_ ?_) <;> (conv => whnf) <;> (repeat' (first | exact True.intro | (with_reducible exact rfl) | exact (rfl : List.replicate 0 PV.bad = []) | ((with_reducible refine And.intro ?_ ?_) <;> (first | (with_reducible exact wkV_same _ rfl) | exact wkV_pt rfl rfl | exact wkV_ow rfl rfl rfl | (refine wkV_ow rfl rfl ?_) | (refine wkV_sc (congrArg (Value.int .i64) ?_)) | (refine wkV_sc (congrArg Value.bool ?_)) | exact wkV_ls rfl | ((refine wkV_cl ?_); conv => whnf) | ((refine wkV_tu ?_); conv => whnf) | ((refine wkV_ag ?_); conv => whnf) | (conv => whnf))))))
    all_goals rfl
  rintro i ⟨hi, hp⟩
  conv => whnf
  ((first | (with_reducible refine split_dec (fun h => ?_) (fun h => ?_)) | (with_reducible refine split_beq (fun h => ?_) (fun h => ?_)) | (with_reducible refine split_bne (fun h => ?_) (fun h => ?_)) | (with_reducible refine split_not (fun h => ?_) (fun h => ?_)) | (with_reducible refine split_beqS (fun h => ?_) (fun h => ?_)) | (with_reducible refine split_intro (fun h => ?_) (fun h => ?_))) <;> conv => whnf)
  · simp only [List.length_map] at h
    have hlt : i < l.length := by omega
    (first | ((with_reducible refine And.intro (by omega) (Exists.intro _ (And.intro (row_at hlt) ?_))); conv => whnf))
    have hc := hg (l[i]'hlt)
    ((try ((refine Exists.intro none ?_); (conv => whnf))); first | ((with_reducible refine call_by (hc) ?_); conv => whnf))
    ((first | (with_reducible refine split_dec (fun h => ?_) (fun h => ?_)) | (with_reducible refine split_beq (fun h => ?_) (fun h => ?_)) | (with_reducible refine split_bne (fun h => ?_) (fun h => ?_)) | (with_reducible refine split_not (fun h => ?_) (fun h => ?_)) | (with_reducible refine split_beqS (fun h => ?_) (fun h => ?_)) | (with_reducible refine split_intro (fun h => ?_) (fun h => ?_))) <;> conv => whnf)
    · refine exit_plain rfl (congrArg (fun n : Int => iv n) ?_)
      have : l.findIdx? f = some i := by
        rw [List.findIdx?_eq_some_iff_getElem]
        exact ⟨hlt, h, fun j hj => by rw [hp j (by omega) hj]; simp⟩
      unfold firstI; rw [this]
    · refine ⟨i + 1, ⟨⟨by omega, ?_⟩, by omega⟩, ?_⟩
      · intro j hj hji
        by_cases e : j = i
        · subst e; exact h
        · exact hp j hj (by omega)
      · conv => whnf
        (refine And.intro (And.intro (by with_unfolding_all rfl) (by intro q h; cases h)) ?_; refine And.intro ?_ (And.intro ?_ ?_) <;> (conv => whnf) <;> (repeat' (first | exact True.intro | (with_reducible exact rfl) | exact (rfl : List.replicate 0 PV.bad = []) | ((with_reducible refine And.intro ?_ ?_) <;> (first | (with_reducible exact wkV_same _ rfl) | exact wkV_pt rfl rfl | exact wkV_ow rfl rfl rfl | (refine wkV_ow rfl rfl ?_) | (refine wkV_sc (congrArg (Value.int .i64) ?_)) | (refine wkV_sc (congrArg Value.bool ?_)) | exact wkV_ls rfl | ((refine wkV_cl ?_); conv => whnf) | ((refine wkV_tu ?_); conv => whnf) | ((refine wkV_ag ?_); conv => whnf) | (conv => whnf))))))
        all_goals first | exact w1 (by omega) | rfl
  · simp only [List.length_map] at h
    have : i = l.length := by omega
    subst this
    refine exit_plain rfl (congrArg (fun n : Int => iv n) ?_)
    have : l.findIdx? f = none := by
      rw [List.findIdx?_eq_none_iff]
      intro x hx
      obtain ⟨j, hj, rfl⟩ := List.getElem_of_mem hx
      exact hp j hj hj
    unfold firstI; rw [this]

theorem firstI_any {α : Type} (f : α → Bool) (l : List α) : (decide (0 ≤ firstI f l)) = l.any f := by
  unfold firstI
  cases h : l.findIdx? f with
  | none =>
    rw [List.findIdx?_eq_none_iff] at h
    rw [List.any_eq_false.2 (by simpa using h)]; rfl
  | some i =>
    rw [List.findIdx?_eq_some_iff_getElem] at h
    obtain ⟨hi, h1, _⟩ := h
    rw [List.any_eq_true.2 ⟨_, List.getElem_mem hi, h1⟩]
    simp

def hasP (l : List Pd) (c : VCall) : Bool := l.any fun x => ownC x.call c
theorem c_ContainsFunc (l : List Pd) (hm : l.length ≤ maxLen) (g : Nat) (p : List PV) (f : Pd → Bool) (hg : ∀ x, Ctr Try.prog g [.ag (Pd.enc x), .ep p] (bv (f x)) []) : Ctr Try.prog 199 [.sl 11 (l.map Pd.enc), .cl g [.ep p]] (bv (l.any f)) [] := by
  refine spec_of_body mixed Try.func199 rfl (by kernel_rfl) (by kernel_rfl) ?_; conv => whnf
  ((try ((refine Exists.intro none ?_); (conv => whnf))); first | ((with_reducible refine call_by (c_IndexFunc l hm g p f hg) ?_); conv => whnf))
  exact exit_plain rfl (by rw [← firstI_any])
theorem c_HasP (l : List Pd) (hm : l.length ≤ maxLen) (c : VCall) : Ctr Try.prog 111 [.sl 11 (l.map Pd.enc), .ag c.enc] (bv (hasP l c)) [] := by
  refine spec_of_body mixed Try.func111 rfl (by kernel_rfl) (by kernel_rfl) ?_; conv => whnf
  ((try ((refine Exists.intro none ?_); (conv => whnf))); first | ((with_reducible refine call_by (c_ContainsFunc l hm 200 c.enc (fun x => ownC x.call c) (c_Has1 c)) ?_); conv => whnf))
  exact exit_plain rfl rfl

/-- Waiting calls that are right. -/
structure PendsP (l : List Pd) : Prop where
  len : l.length ≤ 4
  each : ∀ x ∈ l, 1 ≤ x.index ∧ x.index ≤ 1099511627776 ∧ callR x.call = 0
  inc : ∀ i j (hi : i < l.length) (hj : j < l.length), i < j → (l[i]'hi).index < (l[j]'hj).index
  one : ∀ i j (hi : i < l.length) (hj : j < l.length), i < j → (l[i]'hi).call.client ≠ (l[j]'hj).call.client

def heavyP (l : List Pd) : Bool := decide (100 < (l.length : Int)) || l.any fun x => heavyCmd x.call.cmd
theorem c_heavy21 (l : List Pd) : Ctr Try.prog 102 [.sl 11 (l.map Pd.enc)] (bv (heavyP l)) [] := by
  refine spec_of_body mixed Try.func102 rfl (by kernel_rfl) (by kernel_rfl) ?_; conv => whnf
  ((first | (with_reducible refine split_dec (fun h => ?_) (fun h => ?_)) | (with_reducible refine split_beq (fun h => ?_) (fun h => ?_)) | (with_reducible refine split_bne (fun h => ?_) (fun h => ?_)) | (with_reducible refine split_not (fun h => ?_) (fun h => ?_)) | (with_reducible refine split_beqS (fun h => ?_) (fun h => ?_)) | (with_reducible refine split_intro (fun h => ?_) (fun h => ?_))) <;> conv => whnf)
  · exact exit_plain rfl (by simp at h; simp [heavyP, h])
  · have hl : l.length ≤ 100 := by simp at h; omega
    refine tri_for0 mixed (by kernel_rfl) (fun i : Nat => i ≤ l.length ∧ ∀ j (hj : j < l.length), j < i → heavyCmd (l[j]'hj).call.cmd = false) (fun i => [(3, iv i)]) [] (fun i => l.length - i) 0 ⟨Nat.zero_le _, fun j _ h => absurd h (Nat.not_lt_zero _)⟩ ?_ ?_
    · conv => whnf
      (refine And.intro (And.intro (by with_unfolding_all rfl) (by intro q h; cases h)) ?_; refine And.intro ?_ (And.intro ?_ ?_) <;> (conv => whnf) <;> (repeat' (first | exact True.intro | (with_reducible exact rfl) | exact (rfl : List.replicate 0 PV.bad = []) | ((with_reducible refine And.intro ?_ ?_) <;> (first | (with_reducible exact wkV_same _ rfl) | exact wkV_pt rfl rfl | exact wkV_ow rfl rfl rfl | (refine wkV_ow rfl rfl ?_) | (refine wkV_sc (congrArg (Value.int .i64) ?_)) | (refine wkV_sc (congrArg Value.bool ?_)) | exact wkV_ls rfl | ((refine wkV_cl ?_); conv => whnf) | ((refine wkV_tu ?_); conv => whnf) | ((refine wkV_ag ?_); conv => whnf) | (conv => whnf))))))
      all_goals rfl
    · rintro i ⟨hi, hp⟩
      conv => whnf
      ((first | (with_reducible refine split_dec (fun h => ?_) (fun h => ?_)) | (with_reducible refine split_beq (fun h => ?_) (fun h => ?_)) | (with_reducible refine split_bne (fun h => ?_) (fun h => ?_)) | (with_reducible refine split_not (fun h => ?_) (fun h => ?_)) | (with_reducible refine split_beqS (fun h => ?_) (fun h => ?_)) | (with_reducible refine split_intro (fun h => ?_) (fun h => ?_))) <;> conv => whnf)
      · have hlt : i < l.length := by simp at h; omega
        (first | ((with_reducible refine And.intro (by omega) (Exists.intro _ (And.intro (row_at hlt) ?_))); conv => whnf))
        ((try ((refine Exists.intro none ?_); (conv => whnf))); first | ((with_reducible refine call_by (c_HeavyCmd (l[i]'hlt).call.cmd) ?_); conv => whnf))
        ((first | (with_reducible refine split_dec (fun h => ?_) (fun h => ?_)) | (with_reducible refine split_beq (fun h => ?_) (fun h => ?_)) | (with_reducible refine split_bne (fun h => ?_) (fun h => ?_)) | (with_reducible refine split_not (fun h => ?_) (fun h => ?_)) | (with_reducible refine split_beqS (fun h => ?_) (fun h => ?_)) | (with_reducible refine split_intro (fun h => ?_) (fun h => ?_))) <;> conv => whnf)
        · exact exit_plain rfl (by
            have := any_at (p := fun x : Pd => heavyCmd x.call.cmd) hlt h
            simp only [heavyP, this, Bool.or_true])
        · refine ⟨i + 1, ⟨⟨by omega, ?_⟩, by omega⟩, ?_⟩
          · intro j hj hji
            by_cases e : j = i
            · subst e; exact h
            · exact hp j hj (by omega)
          · conv => whnf
            (refine And.intro (And.intro (by with_unfolding_all rfl) (by intro q h; cases h)) ?_; refine And.intro ?_ (And.intro ?_ ?_) <;> (conv => whnf) <;> (repeat' (first | exact True.intro | (with_reducible exact rfl) | exact (rfl : List.replicate 0 PV.bad = []) | ((with_reducible refine And.intro ?_ ?_) <;> (first | (with_reducible exact wkV_same _ rfl) | exact wkV_pt rfl rfl | exact wkV_ow rfl rfl rfl | (refine wkV_ow rfl rfl ?_) | (refine wkV_sc (congrArg (Value.int .i64) ?_)) | (refine wkV_sc (congrArg Value.bool ?_)) | exact wkV_ls rfl | ((refine wkV_cl ?_); conv => whnf) | ((refine wkV_tu ?_); conv => whnf) | ((refine wkV_ag ?_); conv => whnf) | (conv => whnf))))))
            all_goals first | exact w1 (by omega) | rfl
      · have : i = l.length := by simp at h; omega
        subst this
        refine exit_plain rfl ?_
        have := any_none (p := fun x : Pd => heavyCmd x.call.cmd) fun j hj => hp j hj hj
        simp only [heavyP, this, Bool.or_false]
        rw [decide_eq_false (by omega)]
end Go.Proofs

/- Contracts of functions: waiting calls that are right. -/
namespace Go.Proofs
open Go.Pv
set_option maxRecDepth 100000

theorem adj_inc {l : List Pd} (h : ∀ i (hi : i + 1 < l.length), (l[i]'(by omega)).index < (l[i + 1]'hi).index) : ∀ i j (hi : i < l.length) (hj : j < l.length), i < j → (l[i]'hi).index < (l[j]'hj).index := by
  intro i j hi hj hij
  induction j with
  | zero => omega
  | succ j ih =>
    have h1 := h j hj
    by_cases e : i = j
    · subst e; exact h1
    · exact Int.lt_trans (ih (by omega) (by omega)) h1

theorem c_within19 (n lo hi : Int) : Ctr Try.prog 195 [iv n, iv lo, iv hi] (bv (decide (lo ≤ n ∧ n ≤ hi))) [] := by
  refine spec_of_body mixed Try.func195 rfl (by kernel_rfl) (by kernel_rfl) ?_; conv => whnf
  repeat' ((first | (with_reducible refine split_dec (fun h => ?_) (fun h => ?_)) | (with_reducible refine split_beq (fun h => ?_) (fun h => ?_)) | (with_reducible refine split_bne (fun h => ?_) (fun h => ?_)) | (with_reducible refine split_not (fun h => ?_) (fun h => ?_)) | (with_reducible refine split_beqS (fun h => ?_) (fun h => ?_)) | (with_reducible refine split_intro (fun h => ?_) (fun h => ?_))) <;> conv => whnf)
  all_goals (refine exit_plain rfl (congrArg (fun b : Bool => bv b) ?_))
  all_goals (try simp_all)
  all_goals (try omega)

/-- Right up to some index. -/
structure PendsTo (l : List Pd) (i : Nat) : Prop where
  each : ∀ j (hj : j < l.length), j < i → 1 ≤ (l[j]'hj).index ∧ (l[j]'hj).index ≤ 1099511627776 ∧ callR (l[j]'hj).call = 0
  inc : ∀ j (hj : j + 1 < l.length), j + 1 < i → (l[j]'(by omega)).index < (l[j + 1]'hj).index
  one : ∀ j k (hj : j < l.length) (hk : k < l.length), j < k → k < i → (l[j]'hj).call.client ≠ (l[k]'hk).call.client
theorem pendsTo_all {l : List Pd} (h : PendsTo l l.length) (hl : l.length ≤ 4) : PendsP l where
  len := hl
  each := fun x hx => by obtain ⟨j, hj, rfl⟩ := List.getElem_of_mem hx; exact h.each j hj hj
  inc := adj_inc fun i hi => h.inc i hi hi
  one := fun i j hi hj hij => h.one i j hi hj hij hj

set_option maxHeartbeats 1000000 in
theorem c_rPends (l : List Pd) (hm : l.length ≤ maxLen) : Ctr Try.prog 103 [.sl 11 (l.map Pd.enc)] (bv (dec (PendsP l))) [] := by
  have hm' : l.length ≤ 9223372036854775807 := Nat.le_trans hm (by decide)
  refine spec_of_body mixed Try.func103 rfl (by kernel_rfl) (by kernel_rfl) ?_; conv => whnf
  refine tri_for0 mixed (by kernel_rfl) (fun i : Nat => i ≤ l.length ∧ PendsTo l i) (fun i => [(3, iv i)]) [] (fun i => l.length - i) 0 ⟨Nat.zero_le _, ⟨fun j _ h => absurd h (Nat.not_lt_zero _), fun j _ h => absurd h (Nat.not_lt_zero _), fun j k _ _ _ h => absurd h (Nat.not_lt_zero _)⟩⟩ ?_ ?_
  · conv => whnf
    (refine And.intro (And.intro (by with_unfolding_all rfl) (by intro q h; cases h)) ?_; refine And.intro ?_ (And.intro ?_ ?_) <;> (conv => whnf) <;> (repeat' (first | exact True.intro | (with_reducible exact rfl) | exact (rfl : List.replicate 0 PV.bad = []) | ((with_reducible refine And.intro ?_ ?_) <;> (first | (with_reducible exact wkV_same _ rfl) | exact wkV_pt rfl rfl | exact wkV_ow rfl rfl rfl | (refine wkV_ow rfl rfl ?_) | (refine wkV_sc (congrArg (Value.int .i64) ?_)) | (refine wkV_sc (congrArg Value.bool ?_)) | exact wkV_ls rfl | ((refine wkV_cl ?_); conv => whnf) | ((refine wkV_tu ?_); conv => whnf) | ((refine wkV_ag ?_); conv => whnf) | (conv => whnf))))))
    all_goals rfl
  rintro i ⟨hi, hp⟩
  conv => whnf
  ((first | (with_reducible refine split_dec (fun h => ?_) (fun h => ?_)) | (with_reducible refine split_beq (fun h => ?_) (fun h => ?_)) | (with_reducible refine split_bne (fun h => ?_) (fun h => ?_)) | (with_reducible refine split_not (fun h => ?_) (fun h => ?_)) | (with_reducible refine split_beqS (fun h => ?_) (fun h => ?_)) | (with_reducible refine split_intro (fun h => ?_) (fun h => ?_))) <;> conv => whnf)
  · simp only [List.length_map] at h
    have hlt : i < l.length := by omega
    (first | ((with_reducible refine And.intro (by omega) (Exists.intro _ (And.intro (row_at hlt) ?_))); conv => whnf))
    ((try ((refine Exists.intro none ?_); (conv => whnf))); first | ((with_reducible refine call_by (c_within19 _ _ _) ?_); conv => whnf))
    ((first | (with_reducible refine split_dec (fun h => ?_) (fun h => ?_)) | (with_reducible refine split_beq (fun h => ?_) (fun h => ?_)) | (with_reducible refine split_bne (fun h => ?_) (fun h => ?_)) | (with_reducible refine split_not (fun h => ?_) (fun h => ?_)) | (with_reducible refine split_beqS (fun h => ?_) (fun h => ?_)) | (with_reducible refine split_intro (fun h => ?_) (fun h => ?_))) <;> conv => whnf)
    · refine exit_plain rfl ?_
      rw [dec_false]
      intro hh
      have := hh.each _ (List.getElem_mem hlt)
      exact of_decide_eq_false h ⟨this.1, this.2.1⟩
    have g1 := of_decide_eq_true h
    (first | ((with_reducible refine And.intro (by omega) (Exists.intro _ (And.intro (row_at hlt) ?_))); conv => whnf))
    ((try ((refine Exists.intro none ?_); (conv => whnf))); first | ((with_reducible refine call_by (c_rCall (l[i]'hlt).call) ?_); conv => whnf))
    ((first | (with_reducible refine split_dec (fun h => ?_) (fun h => ?_)) | (with_reducible refine split_beq (fun h => ?_) (fun h => ?_)) | (with_reducible refine split_bne (fun h => ?_) (fun h => ?_)) | (with_reducible refine split_not (fun h => ?_) (fun h => ?_)) | (with_reducible refine split_beqS (fun h => ?_) (fun h => ?_)) | (with_reducible refine split_intro (fun h => ?_) (fun h => ?_))) <;> conv => whnf)
    · refine exit_plain rfl ?_
      rw [dec_false]
      intro hh
      exact h (hh.each _ (List.getElem_mem hlt)).2.2
    have g2 := h
    ((first | (with_reducible refine split_dec (fun h => ?_) (fun h => ?_)) | (with_reducible refine split_beq (fun h => ?_) (fun h => ?_)) | (with_reducible refine split_bne (fun h => ?_) (fun h => ?_)) | (with_reducible refine split_not (fun h => ?_) (fun h => ?_)) | (with_reducible refine split_beqS (fun h => ?_) (fun h => ?_)) | (with_reducible refine split_intro (fun h => ?_) (fun h => ?_))) <;> conv => whnf)
    all_goals first
      | (have h0 : 0 < i := by omega
         have hlt1 : i - 1 < l.length := by omega
         have ew : IntKind.i64.wrap ((i : Int) - 1) = ((i - 1 : Nat) : Int) := by rw [wrap_id (by omega) (by omega)]; omega
         rw [ew]
         (first | ((with_reducible refine And.intro (by omega) (Exists.intro _ (And.intro (row_at hlt1) ?_))); conv => whnf))
         (first | ((with_reducible refine And.intro (by omega) (Exists.intro _ (And.intro (row_at hlt) ?_))); conv => whnf))
         ((first | (with_reducible refine split_dec (fun h => ?_) (fun h => ?_)) | (with_reducible refine split_beq (fun h => ?_) (fun h => ?_)) | (with_reducible refine split_bne (fun h => ?_) (fun h => ?_)) | (with_reducible refine split_not (fun h => ?_) (fun h => ?_)) | (with_reducible refine split_beqS (fun h => ?_) (fun h => ?_)) | (with_reducible refine split_intro (fun h => ?_) (fun h => ?_))) <;> conv => whnf)
         · refine exit_plain rfl ?_
           rw [dec_false]
           intro hh
           have := hh.inc (i - 1) i hlt1 hlt (by omega)
           omega
         have g3 : ∀ hlt1 : i - 1 < l.length, 0 < i → (l[i - 1]'hlt1).index < (l[i]'hlt).index := fun _ _ => by omega)
      | (have g3 : ∀ hlt1 : i - 1 < l.length, 0 < i → (l[i - 1]'hlt1).index < (l[i]'hlt).index := fun _ h0 => absurd h0 (by omega))
    all_goals (refine tri_for0 mixed (by kernel_rfl) (fun k : Nat => k ≤ i ∧ ∀ j (hj : j < k) (hjl : j < l.length), (l[j]'hjl).call.client ≠ (l[i]'hlt).call.client) (fun k => [(4, iv k)]) [] (fun k => i - k) 0 ⟨Nat.zero_le _, fun j h => absurd h (Nat.not_lt_zero _)⟩ ?_ ?_)
    all_goals first
      | (conv => whnf
         (refine And.intro (And.intro (by with_unfolding_all rfl) (by intro q h; cases h)) ?_; refine And.intro ?_ (And.intro ?_ ?_) <;> (conv => whnf) <;> (repeat' (first | exact True.intro | (with_reducible exact rfl) | exact (rfl : List.replicate 0 PV.bad = []) | ((with_reducible refine And.intro ?_ ?_) <;> (first | (with_reducible exact wkV_same _ rfl) | exact wkV_pt rfl rfl | exact wkV_ow rfl rfl rfl | (refine wkV_ow rfl rfl ?_) | (refine wkV_sc (congrArg (Value.int .i64) ?_)) | (refine wkV_sc (congrArg Value.bool ?_)) | exact wkV_ls rfl | ((refine wkV_cl ?_); conv => whnf) | ((refine wkV_tu ?_); conv => whnf) | ((refine wkV_ag ?_); conv => whnf) | (conv => whnf))))))
         all_goals rfl)
      | skip
    all_goals (
      rintro k ⟨hk, hq⟩
      conv => whnf
      ((first | (with_reducible refine split_dec (fun h => ?_) (fun h => ?_)) | (with_reducible refine split_beq (fun h => ?_) (fun h => ?_)) | (with_reducible refine split_bne (fun h => ?_) (fun h => ?_)) | (with_reducible refine split_not (fun h => ?_) (fun h => ?_)) | (with_reducible refine split_beqS (fun h => ?_) (fun h => ?_)) | (with_reducible refine split_intro (fun h => ?_) (fun h => ?_))) <;> conv => whnf)
      · have hki : k < i := by omega
        have hkl : k < l.length := by omega
        (first | ((with_reducible refine And.intro (by omega) (Exists.intro _ (And.intro (row_at hkl) ?_))); conv => whnf))
        (first | ((with_reducible refine And.intro (by omega) (Exists.intro _ (And.intro (row_at hlt) ?_))); conv => whnf))
        ((first | (with_reducible refine split_dec (fun h => ?_) (fun h => ?_)) | (with_reducible refine split_beq (fun h => ?_) (fun h => ?_)) | (with_reducible refine split_bne (fun h => ?_) (fun h => ?_)) | (with_reducible refine split_not (fun h => ?_) (fun h => ?_)) | (with_reducible refine split_beqS (fun h => ?_) (fun h => ?_)) | (with_reducible refine split_intro (fun h => ?_) (fun h => ?_))) <;> conv => whnf)
        · refine exit_plain rfl ?_
          rw [dec_false]
          intro hh
          exact hh.one k i hkl hlt hki h
        · refine ⟨k + 1, ⟨⟨by omega, ?_⟩, by omega⟩, ?_⟩
          · intro j hj hjl
            by_cases e : j = k
            · subst e; exact h
            · exact hq j (by omega) hjl
          · conv => whnf
            (refine And.intro (And.intro (by with_unfolding_all rfl) (by intro q h; cases h)) ?_; refine And.intro ?_ (And.intro ?_ ?_) <;> (conv => whnf) <;> (repeat' (first | exact True.intro | (with_reducible exact rfl) | exact (rfl : List.replicate 0 PV.bad = []) | ((with_reducible refine And.intro ?_ ?_) <;> (first | (with_reducible exact wkV_same _ rfl) | exact wkV_pt rfl rfl | exact wkV_ow rfl rfl rfl | (refine wkV_ow rfl rfl ?_) | (refine wkV_sc (congrArg (Value.int .i64) ?_)) | (refine wkV_sc (congrArg Value.bool ?_)) | exact wkV_ls rfl | ((refine wkV_cl ?_); conv => whnf) | ((refine wkV_tu ?_); conv => whnf) | ((refine wkV_ag ?_); conv => whnf) | (conv => whnf))))))
            all_goals first | exact w1 (by omega) | rfl
      · have : k = i := by omega
        subst this
        refine ⟨k + 1, ⟨⟨by omega, ⟨?_, ?_, ?_⟩⟩, by omega⟩, ?_⟩
        · intro j hj hji
          by_cases e : j = k
          · subst e; exact ⟨g1.1, g1.2, g2⟩
          · exact hp.each j hj (by omega)
        · intro j hj hji
          by_cases e : j + 1 = k
          · subst e; exact g3 _ (by omega)
          · exact hp.inc j hj (by omega)
        · intro j m hj hm hjm hmi
          by_cases e : m = k
          · subst e; exact hq j hjm hj
          · exact hp.one j m hj hm hjm (by omega)
        · conv => whnf
          (refine And.intro (And.intro (by with_unfolding_all rfl) (by intro q h; cases h)) ?_; refine And.intro ?_ (And.intro ?_ ?_) <;> (conv => whnf) <;> (repeat' (first | exact True.intro | (with_reducible exact rfl) | exact (rfl : List.replicate 0 PV.bad = []) | ((with_reducible refine And.intro ?_ ?_) <;> (first | (with_reducible exact wkV_same _ rfl) | exact wkV_pt rfl rfl | exact wkV_ow rfl rfl rfl | (refine wkV_ow rfl rfl ?_) | (refine wkV_sc (congrArg (Value.int .i64) ?_)) | (refine wkV_sc (congrArg Value.bool ?_)) | exact wkV_ls rfl | ((refine wkV_cl ?_); conv => whnf) | ((refine wkV_tu ?_); conv => whnf) | ((refine wkV_ag ?_); conv => whnf) | (conv => whnf))))))
          all_goals first | exact w1 (by omega) | rfl)
  · simp only [List.length_map] at h
    have : i = l.length := by omega
    subst this
    refine exit_plain rfl (congrArg (fun b : Bool => bv b) ?_)
    simp only [List.length_map]
    rw [Bool.eq_iff_iff, decide_eq_true_eq, dec_eq_true]
    exact ⟨fun h4 => pendsTo_all hp (by omega), fun hh => by have := hh.len; omega⟩
end Go.Proofs

/- Contracts of functions: waiting calls: the program's check; who waits; what an entry leaves. -/
namespace Go.Proofs
open Go.Pv
set_option maxRecDepth 100000

noncomputable def clB (l : List Pd) (i : Nat) : Int := (l.take i).foldl (fun a x => bor a (shl 1 x.call.client)) 0
theorem clB_succ {l : List Pd} {i : Nat} (h : i < l.length) : clB l (i + 1) = bor (clB l i) (shl 1 (l[i]'h).call.client) := by
  unfold clB
  rw [List.take_succ_eq_append_getElem h, List.foldl_append]; rfl
theorem callR_client {c : VCall} (h : callR c = 0) : 1 ≤ c.client ∧ c.client ≤ 4 := by
  unfold callR at h
  split at h
  · omega
  · omega
theorem tb_clB {l : List Pd} : ∀ {i : Nat}, i ≤ l.length → (∀ j (hj : j < l.length), j < i → callR (l[j]'hj).call = 0) → ∀ n : Nat, n < 63 → (tb (clB l i) n = true ↔ ∃ j, ∃ hj : j < l.length, j < i ∧ (l[j]'hj).call.client = n)
  | 0, _, _, n, _ => by simp [clB, tb_zero]
  | i + 1, hi, hc, n, hn => by
    have hlt : i < l.length := by omega
    obtain ⟨c1, c2⟩ := callR_client (hc i hlt (by omega))
    obtain ⟨m, hm⟩ := Int.eq_ofNat_of_zero_le (show 0 ≤ (l[i]'hlt).call.client by omega)
    have ih := tb_clB (l := l) (i := i) (by omega) (fun j hj hji => hc j hj (by omega)) n hn
    rw [clB_succ hlt, tb_or, Bool.or_eq_true, ih, hm]
    rw [tb_shl m n (by omega), decide_eq_true_eq]
    constructor
    · rintro (⟨j, hj, h1, h2⟩ | h)
      · exact ⟨j, hj, by omega, h2⟩
      · subst h; exact ⟨i, hlt, by omega, hm⟩
    · rintro ⟨j, hj, h1, h2⟩
      by_cases e : j = i
      · subst e; right; rw [hm] at h2; omega
      · exact .inl ⟨j, hj, by omega, h2⟩

def lastX (l : List Pd) (i : Nat) : Int := match (l.take i).getLast? with
  | none => 0
  | some x => x.index
theorem lastX_0 (l : List Pd) : lastX l 0 = 0 := by simp [lastX]
theorem lastX_succ {l : List Pd} {i : Nat} (h : i < l.length) : lastX l (i + 1) = (l[i]'h).index := by
  have e : (l.take (i + 1)).getLast? = some (l[i]'h) := by rw [List.take_succ_eq_append_getElem h, List.getLast?_append]; rfl
  unfold lastX
  rw [e]

set_option maxHeartbeats 1000000 in
theorem c_gCheck (l : List Pd) (hm : l.length ≤ maxLen) : Ctr Try.prog 110 [.sl 11 (l.map Pd.enc)] (iv (if dec (PendsP l) then 0 else 6)) [] := by
  have hm' : l.length ≤ 9223372036854775807 := Nat.le_trans hm (by decide)
  have bad : ¬ PendsP l → iv 6 = iv (if dec (PendsP l) then 0 else 6) := fun hn => by rw [dec_false hn]; rfl
  refine spec_of_body mixed Try.func110 rfl (by kernel_rfl) (by kernel_rfl) ?_; conv => whnf
  ((first | (with_reducible refine split_dec (fun h => ?_) (fun h => ?_)) | (with_reducible refine split_beq (fun h => ?_) (fun h => ?_)) | (with_reducible refine split_bne (fun h => ?_) (fun h => ?_)) | (with_reducible refine split_not (fun h => ?_) (fun h => ?_)) | (with_reducible refine split_beqS (fun h => ?_) (fun h => ?_)) | (with_reducible refine split_intro (fun h => ?_) (fun h => ?_))) <;> conv => whnf)
  · exact exit_plain rfl (bad fun k => by have := k.len; simp at h; omega)
  have hl4 : l.length ≤ 4 := by simp at h; omega
  refine tri_for0 mixed (by kernel_rfl) (fun i : Nat => i ≤ l.length ∧ PendsTo l i) (fun i => [(12, iv i), (3, iv (lastX l i)), (4, iv (clB l i))]) [] (fun i => l.length - i) 0 ⟨Nat.zero_le _, ⟨fun j _ h => absurd h (Nat.not_lt_zero _), fun j _ h => absurd h (Nat.not_lt_zero _), fun j k _ _ _ h => absurd h (Nat.not_lt_zero _)⟩⟩ ?_ ?_
  · conv => whnf
    (refine And.intro (And.intro (by with_unfolding_all rfl) (by intro q h; cases h)) ?_; refine And.intro ?_ (And.intro ?_ ?_) <;> (conv => whnf) <;> (repeat' (first | exact True.intro | (with_reducible exact rfl) | exact (rfl : List.replicate 0 PV.bad = []) | ((with_reducible refine And.intro ?_ ?_) <;> (first | (with_reducible exact wkV_same _ rfl) | exact wkV_pt rfl rfl | exact wkV_ow rfl rfl rfl | (refine wkV_ow rfl rfl ?_) | (refine wkV_sc (congrArg (Value.int .i64) ?_)) | (refine wkV_sc (congrArg Value.bool ?_)) | exact wkV_ls rfl | ((refine wkV_cl ?_); conv => whnf) | ((refine wkV_tu ?_); conv => whnf) | ((refine wkV_ag ?_); conv => whnf) | (conv => whnf))))))
    all_goals rfl
  rintro i ⟨hi, hp⟩
  conv => whnf
  ((first | (with_reducible refine split_dec (fun h => ?_) (fun h => ?_)) | (with_reducible refine split_beq (fun h => ?_) (fun h => ?_)) | (with_reducible refine split_bne (fun h => ?_) (fun h => ?_)) | (with_reducible refine split_not (fun h => ?_) (fun h => ?_)) | (with_reducible refine split_beqS (fun h => ?_) (fun h => ?_)) | (with_reducible refine split_intro (fun h => ?_) (fun h => ?_))) <;> conv => whnf)
  · simp only [List.length_map] at h
    have hlt : i < l.length := by omega
    have hlast : ∀ k : PendsP l, lastX l i < (l[i]'hlt).index := by
      intro k
      cases i with
      | zero => rw [lastX_0]; have := (k.each _ (List.getElem_mem hlt)).1; omega
      | succ i => rw [lastX_succ (by omega)]; exact k.inc i (i + 1) (by omega) hlt (by omega)
    (first | ((with_reducible refine And.intro (by omega) (Exists.intro _ (And.intro (row_at hlt) ?_))); conv => whnf))
    ((first | (with_reducible refine split_dec (fun h => ?_) (fun h => ?_)) | (with_reducible refine split_beq (fun h => ?_) (fun h => ?_)) | (with_reducible refine split_bne (fun h => ?_) (fun h => ?_)) | (with_reducible refine split_not (fun h => ?_) (fun h => ?_)) | (with_reducible refine split_beqS (fun h => ?_) (fun h => ?_)) | (with_reducible refine split_intro (fun h => ?_) (fun h => ?_))) <;> conv => whnf)
    · exact exit_plain rfl (bad fun k => by have := hlast k; omega)
    have g0 := h
    ((first | (with_reducible refine split_dec (fun h => ?_) (fun h => ?_)) | (with_reducible refine split_beq (fun h => ?_) (fun h => ?_)) | (with_reducible refine split_bne (fun h => ?_) (fun h => ?_)) | (with_reducible refine split_not (fun h => ?_) (fun h => ?_)) | (with_reducible refine split_beqS (fun h => ?_) (fun h => ?_)) | (with_reducible refine split_intro (fun h => ?_) (fun h => ?_))) <;> conv => whnf)
    · exact exit_plain rfl (bad fun k => by have := (k.each _ (List.getElem_mem hlt)).2.1; omega)
    have g1 := h
    ((try ((refine Exists.intro none ?_); (conv => whnf))); first | ((with_reducible refine call_by (c_sRight (l[i]'hlt).call) ?_); conv => whnf))
    ((first | (with_reducible refine split_dec (fun h => ?_) (fun h => ?_)) | (with_reducible refine split_beq (fun h => ?_) (fun h => ?_)) | (with_reducible refine split_bne (fun h => ?_) (fun h => ?_)) | (with_reducible refine split_not (fun h => ?_) (fun h => ?_)) | (with_reducible refine split_beqS (fun h => ?_) (fun h => ?_)) | (with_reducible refine split_intro (fun h => ?_) (fun h => ?_))) <;> conv => whnf)
    · exact exit_plain rfl (bad fun k => h (k.each _ (List.getElem_mem hlt)).2.2)
    have g2 : callR (l[i]'hlt).call = 0 := by first | exact h | exact Classical.byContradiction h
    obtain ⟨c1, c2⟩ := callR_client g2
    obtain ⟨m, hmc⟩ := Int.eq_ofNat_of_zero_le (show 0 ≤ (l[i]'hlt).call.client by omega)
    have hmc : (l[i]'hlt).call.client = (m : Int) := hmc
    have ht := tb_clB (l := l) (i := i) hi (fun j hj hji => (hp.each j hj hji).2.2) m (by omega)
    refine ⟨⟨by decide, by omega⟩, ?_⟩
    conv => whnf
    have eb : band (shr (clB l i) (l[i]'hlt).call.client) 1 = nb (tb (clB l i) m) := by rw [hmc, bit_shr _ _ (by omega)]
    ((first | (with_reducible refine split_dec (fun h => ?_) (fun h => ?_)) | (with_reducible refine split_beq (fun h => ?_) (fun h => ?_)) | (with_reducible refine split_bne (fun h => ?_) (fun h => ?_)) | (with_reducible refine split_not (fun h => ?_) (fun h => ?_)) | (with_reducible refine split_beqS (fun h => ?_) (fun h => ?_)) | (with_reducible refine split_intro (fun h => ?_) (fun h => ?_))) <;> conv => whnf)
    · have hb : tb (clB l i) m = true := by
        have h : band (shr (clB l i) (l[i]'hlt).call.client) 1 = 1 := h
        rw [eb] at h
        cases hx : tb (clB l i) m
        · rw [hx] at h; simp at h
        · rfl
      obtain ⟨j, hj, j1, j2⟩ := ht.1 hb
      exact exit_plain rfl (bad fun k => k.one j i hj hlt j1 (by rw [j2, hmc]))
    · have hb : ¬ tb (clB l i) m = true := by
        intro hx
        apply h
        show band (shr (clB l i) (l[i]'hlt).call.client) 1 = 1
        rw [eb, hx]; rfl
      refine ⟨⟨by decide, by omega⟩, ?_⟩
      conv => whnf
      have e0 : 0 ≤ lastX l i := by
        cases i with
        | zero => rw [lastX_0]; omega
        | succ i => rw [lastX_succ (by omega)]; have := (hp.each i (by omega) (by omega)).1; omega
      refine ⟨i + 1, ⟨⟨by omega, ⟨?_, ?_, ?_⟩⟩, by omega⟩, ?_⟩
      · intro j hj hji
        by_cases e : j = i
        · subst e; exact ⟨by omega, by omega, g2⟩
        · exact hp.each j hj (by omega)
      · intro j hj hji
        by_cases e : j + 1 = i
        · subst e
          rw [lastX_succ (by omega)] at g0
          omega
        · exact hp.inc j hj (by omega)
      · intro j k hj hk hjk hki
        by_cases e : k = i
        · subst e
          intro hx
          exact hb (ht.2 ⟨j, hj, hjk, by rw [hx, hmc]⟩)
        · exact hp.one j k hj hk hjk (by omega)
      · rw [lastX_succ hlt, clB_succ hlt]
        conv => whnf
        (refine And.intro (And.intro (by with_unfolding_all rfl) (by intro q h; cases h)) ?_; refine And.intro ?_ (And.intro ?_ ?_) <;> (conv => whnf) <;> (repeat' (first | exact True.intro | (with_reducible exact rfl) | exact (rfl : List.replicate 0 PV.bad = []) | ((with_reducible refine And.intro ?_ ?_) <;> (first | (with_reducible exact wkV_same _ rfl) | exact wkV_pt rfl rfl | exact wkV_ow rfl rfl rfl | (refine wkV_ow rfl rfl ?_) | (refine wkV_sc (congrArg (Value.int .i64) ?_)) | (refine wkV_sc (congrArg Value.bool ?_)) | exact wkV_ls rfl | ((refine wkV_cl ?_); conv => whnf) | ((refine wkV_tu ?_); conv => whnf) | ((refine wkV_ag ?_); conv => whnf) | (conv => whnf))))))
        all_goals first | exact w1 (by omega) | rfl
  · simp only [List.length_map] at h
    have : i = l.length := by omega
    subst this
    refine exit_plain rfl ?_
    rw [dec_true (pendsTo_all hp hl4)]; rfl

theorem c_rHas (l : List Pd) (hm : l.length ≤ maxLen) (c : VCall) : Ctr Try.prog 112 [.sl 11 (l.map Pd.enc), .ag c.enc] (bv (hasP l c)) [] := by
  have hm' : l.length ≤ 9223372036854775807 := Nat.le_trans hm (by decide)
  refine spec_of_body mixed Try.func112 rfl (by kernel_rfl) (by kernel_rfl) ?_; conv => whnf
  refine tri_for0 mixed (by kernel_rfl) (fun i : Nat => i ≤ l.length ∧ ∀ j (hj : j < l.length), j < i → ownC (l[j]'hj).call c = false) (fun i => [(5, iv i)]) [] (fun i => l.length - i) 0 ⟨Nat.zero_le _, fun j _ h => absurd h (Nat.not_lt_zero _)⟩ ?_ ?_
  · conv => whnf
    (refine And.intro (And.intro (by with_unfolding_all rfl) (by intro q h; cases h)) ?_; refine And.intro ?_ (And.intro ?_ ?_) <;> (conv => whnf) <;> (repeat' (first | exact True.intro | (with_reducible exact rfl) | exact (rfl : List.replicate 0 PV.bad = []) | ((with_reducible refine And.intro ?_ ?_) <;> (first | (with_reducible exact wkV_same _ rfl) | exact wkV_pt rfl rfl | exact wkV_ow rfl rfl rfl | (refine wkV_ow rfl rfl ?_) | (refine wkV_sc (congrArg (Value.int .i64) ?_)) | (refine wkV_sc (congrArg Value.bool ?_)) | exact wkV_ls rfl | ((refine wkV_cl ?_); conv => whnf) | ((refine wkV_tu ?_); conv => whnf) | ((refine wkV_ag ?_); conv => whnf) | (conv => whnf))))))
    all_goals rfl
  rintro i ⟨hi, hp⟩
  conv => whnf
  ((first | (with_reducible refine split_dec (fun h => ?_) (fun h => ?_)) | (with_reducible refine split_beq (fun h => ?_) (fun h => ?_)) | (with_reducible refine split_bne (fun h => ?_) (fun h => ?_)) | (with_reducible refine split_not (fun h => ?_) (fun h => ?_)) | (with_reducible refine split_beqS (fun h => ?_) (fun h => ?_)) | (with_reducible refine split_intro (fun h => ?_) (fun h => ?_))) <;> conv => whnf)
  · simp only [List.length_map] at h
    have hlt : i < l.length := by omega
    have next : ownC (l[i]'hlt).call c = false → ∀ j (hj : j < l.length), j < i + 1 → ownC (l[j]'hj).call c = false := by
      intro hh j hj hji
      by_cases e : j = i
      · subst e; exact hh
      · exact hp j hj (by omega)
    (first | ((with_reducible refine And.intro (by omega) (Exists.intro _ (And.intro (row_at hlt) ?_))); conv => whnf))
    ((first | (with_reducible refine split_dec (fun h => ?_) (fun h => ?_)) | (with_reducible refine split_beq (fun h => ?_) (fun h => ?_)) | (with_reducible refine split_bne (fun h => ?_) (fun h => ?_)) | (with_reducible refine split_not (fun h => ?_) (fun h => ?_)) | (with_reducible refine split_beqS (fun h => ?_) (fun h => ?_)) | (with_reducible refine split_intro (fun h => ?_) (fun h => ?_))) <;> conv => whnf)
    · have h1 := h
      (first | ((with_reducible refine And.intro (by omega) (Exists.intro _ (And.intro (row_at hlt) ?_))); conv => whnf))
      ((first | (with_reducible refine split_dec (fun h => ?_) (fun h => ?_)) | (with_reducible refine split_beq (fun h => ?_) (fun h => ?_)) | (with_reducible refine split_bne (fun h => ?_) (fun h => ?_)) | (with_reducible refine split_not (fun h => ?_) (fun h => ?_)) | (with_reducible refine split_beqS (fun h => ?_) (fun h => ?_)) | (with_reducible refine split_intro (fun h => ?_) (fun h => ?_))) <;> conv => whnf)
      · refine exit_plain rfl (congrArg (fun b : Bool => bv b) ?_)
        exact (any_at (p := fun x : Pd => ownC x.call c) hlt (by simp [ownC, h1, h])).symm
      · refine ⟨i + 1, ⟨⟨by omega, next (by simp [ownC, h])⟩, by omega⟩, ?_⟩
        conv => whnf
        (refine And.intro (And.intro (by with_unfolding_all rfl) (by intro q h; cases h)) ?_; refine And.intro ?_ (And.intro ?_ ?_) <;> (conv => whnf) <;> (repeat' (first | exact True.intro | (with_reducible exact rfl) | exact (rfl : List.replicate 0 PV.bad = []) | ((with_reducible refine And.intro ?_ ?_) <;> (first | (with_reducible exact wkV_same _ rfl) | exact wkV_pt rfl rfl | exact wkV_ow rfl rfl rfl | (refine wkV_ow rfl rfl ?_) | (refine wkV_sc (congrArg (Value.int .i64) ?_)) | (refine wkV_sc (congrArg Value.bool ?_)) | exact wkV_ls rfl | ((refine wkV_cl ?_); conv => whnf) | ((refine wkV_tu ?_); conv => whnf) | ((refine wkV_ag ?_); conv => whnf) | (conv => whnf))))))
        all_goals first | exact w1 (by omega) | rfl
    · refine ⟨i + 1, ⟨⟨by omega, next (by simp [ownC, h])⟩, by omega⟩, ?_⟩
      conv => whnf
      (refine And.intro (And.intro (by with_unfolding_all rfl) (by intro q h; cases h)) ?_; refine And.intro ?_ (And.intro ?_ ?_) <;> (conv => whnf) <;> (repeat' (first | exact True.intro | (with_reducible exact rfl) | exact (rfl : List.replicate 0 PV.bad = []) | ((with_reducible refine And.intro ?_ ?_) <;> (first | (with_reducible exact wkV_same _ rfl) | exact wkV_pt rfl rfl | exact wkV_ow rfl rfl rfl | (refine wkV_ow rfl rfl ?_) | (refine wkV_sc (congrArg (Value.int .i64) ?_)) | (refine wkV_sc (congrArg Value.bool ?_)) | exact wkV_ls rfl | ((refine wkV_cl ?_); conv => whnf) | ((refine wkV_tu ?_); conv => whnf) | ((refine wkV_ag ?_); conv => whnf) | (conv => whnf))))))
      all_goals first | exact w1 (by omega) | rfl
  · simp only [List.length_map] at h
    have : i = l.length := by omega
    subst this
    refine exit_plain rfl (congrArg (fun b : Bool => bv b) ?_)
    exact (any_none (p := fun x : Pd => ownC x.call c) fun j hj => hp j hj hj).symm
end Go.Proofs

/- Contracts of functions: what an entry leaves waiting. -/
namespace Go.Proofs
open Go.Pv
set_option maxRecDepth 100000

def tkF (index : Int) (x : Ent) (p : Pd) : Bool := p.index == index && (x.kind == 1 && ownC x.call p.call)
def leftL (l : List Pd) (index : Int) (i : Nat) : List Pd := (l.take i).filter fun p => decide (index < p.index)
def foundL (l : List Pd) (index : Int) (x : Ent) (i : Nat) : Option Pd := (l.take i).find? (tkF index x)
def callOf (o : Option Pd) : VCall := match o with | some p => p.call | none => kz
theorem leftL_succ {l : List Pd} {index : Int} {i : Nat} (h : i < l.length) : leftL l index (i + 1) = leftL l index i ++ if index < (l[i]'h).index then [l[i]'h] else [] := by
  unfold leftL
  rw [List.take_succ_eq_append_getElem h, List.filter_append]
  congr 1
  by_cases hr : index < (l[i]'h).index <;> simp [hr]
theorem leftL_len (l : List Pd) (index : Int) (i : Nat) : (leftL l index i).length ≤ l.length := by
  unfold leftL
  exact Nat.le_trans (List.length_filter_le _ _) (by simp; omega)
theorem foundL_succ {l : List Pd} {index : Int} {x : Ent} {i : Nat} (h : i < l.length) : foundL l index x (i + 1) = (foundL l index x i).or (if tkF index x (l[i]'h) then some (l[i]'h) else none) := by
  unfold foundL
  rw [List.take_succ_eq_append_getElem h, List.find?_append]
  congr 1
  cases hr : tkF index x (l[i]'h) <;> simp [List.find?, hr]
theorem leftL_all (l : List Pd) (index : Int) : leftL l index l.length = l.filter fun p => decide (index < p.index) := by simp [leftL]
theorem foundL_all (l : List Pd) (index : Int) (x : Ent) : foundL l index x l.length = l.find? (tkF index x) := by simp [foundL]
theorem or_none' (o : Option Pd) : o.or none = o := by cases o <;> rfl

theorem app1_map {α : Type} {f : α → List PV} {l : List α} {n : Nat} {x : List PV} (hn : n = (l.map f).length) (y : α) (hx : x = f y) : (l.map f).take n ++ [x] = (l ++ [y]).map f := by
  subst hn; subst hx; simp [List.take_of_length_le]

set_option maxHeartbeats 2000000 in
theorem c_Take (l : List Pd) (hl : l.length ≤ 4294967) (index : Int) (x : Ent) : Ctr Try.prog 104 [.sl 11 (l.map Pd.enc), iv index, .ag x.enc] (.tu [.ow 0 0 ((l.filter fun p => decide (index < p.index)).map Pd.enc).length, .ag (callOf (l.find? (tkF index x))).enc, bv (l.find? (tkF index x)).isSome]) [(11, (l.filter fun p => decide (index < p.index)).map Pd.enc)] := by
  rw [← leftL_all, ← foundL_all]
  refine spec_of_body mixed Try.func104 rfl (by kernel_rfl) (by kernel_rfl) ?_; conv => whnf
  refine tri_nil 6 1000 11 rfl rfl ?_
  conv => whnf
  refine tri_forO mixed (by kernel_rfl) (fun i : Nat => i ≤ l.length) (fun i => [(13, iv i), (6, .ow 1000 0 ((leftL l index i).map Pd.enc).length), (8, bv (foundL l index x i).isSome)]) (fun i => [(5, x.enc), (7, (callOf (foundL l index x i)).enc)]) (fun i => [(1000, some (false, 11, (leftL l index i).map Pd.enc))]) [(1000, 1000)] (fun i => l.length - i) 0 (Nat.zero_le _) ?_ ?_
  · conv => whnf
    (refine And.intro (And.intro (by with_unfolding_all rfl) (by intro q h; cases h)) ?_; refine And.intro ?_ (And.intro ?_ ?_) <;> (conv => whnf) <;> (repeat' (first | exact True.intro | (with_reducible exact rfl) | exact (rfl : List.replicate 0 PV.bad = []) | ((with_reducible refine And.intro ?_ ?_) <;> (first | (with_reducible exact wkV_same _ rfl) | exact wkV_pt rfl rfl | exact wkV_ow rfl rfl rfl | (refine wkV_ow rfl rfl ?_) | (refine wkV_sc (congrArg (Value.int .i64) ?_)) | (refine wkV_sc (congrArg Value.bool ?_)) | exact wkV_ls rfl | ((refine wkV_cl ?_); conv => whnf) | ((refine wkV_tu ?_); conv => whnf) | ((refine wkV_ag ?_); conv => whnf) | (conv => whnf))))))
    all_goals rfl
  intro i hi
  conv => whnf
  ((first | (with_reducible refine split_dec (fun h => ?_) (fun h => ?_)) | (with_reducible refine split_beq (fun h => ?_) (fun h => ?_)) | (with_reducible refine split_bne (fun h => ?_) (fun h => ?_)) | (with_reducible refine split_not (fun h => ?_) (fun h => ?_)) | (with_reducible refine split_beqS (fun h => ?_) (fun h => ?_)) | (with_reducible refine split_intro (fun h => ?_) (fun h => ?_))) <;> conv => whnf)
  · simp only [List.length_map] at h
    have hlt : i < l.length := by omega
    have n1 : ((leftL l index i).map Pd.enc).length ≤ 4294967 := by rw [List.length_map]; exact Nat.le_trans (leftL_len l index i) hl
    have s1 := leftL_succ (index := index) hlt
    have s2 := foundL_succ (index := index) (x := x) hlt
    (first | ((with_reducible refine And.intro (by omega) (Exists.intro _ (And.intro (row_at hlt) ?_))); conv => whnf))
    ((first | (with_reducible refine split_dec (fun h => ?_) (fun h => ?_)) | (with_reducible refine split_beq (fun h => ?_) (fun h => ?_)) | (with_reducible refine split_bne (fun h => ?_) (fun h => ?_)) | (with_reducible refine split_not (fun h => ?_) (fun h => ?_)) | (with_reducible refine split_beqS (fun h => ?_) (fun h => ?_)) | (with_reducible refine split_intro (fun h => ?_) (fun h => ?_))) <;> conv => whnf)
    · rw [if_pos h] at s1
      have ef : tkF index x (l[i]'hlt) = false := by unfold tkF; rw [show ((l[i]'hlt).index == index) = false from by rw [beq_eq_false_iff_ne]; omega]; rfl
      rw [ef] at s2
      simp only [Bool.false_eq_true, if_false, or_none'] at s2
      (refine And.intro rfl ?_; (conv => whnf); refine And.intro (And.intro (And.intro (by kernel_rfl) (And.intro (by simp) (And.intro (small (by simp only [List.length_cons, List.length_nil]; omega) (by kernel_rfl)) (And.intro (smallM (by simp only [List.length_cons, List.length_nil]; omega)) (by intro r hr; rw [List.mem_singleton.1 hr]; rfl))))) (And.intro (by decide) rfl)) ?_; conv => whnf)
      refine ⟨i + 1, [(1000, 400)], ⟨by omega, by omega⟩, ?_⟩
      rw [s1, s2]
      conv => whnf
      (refine And.intro (And.intro (by with_unfolding_all rfl) (by intro q h; cases h)) ?_; refine And.intro ?_ (And.intro ?_ ?_) <;> (conv => whnf) <;> (repeat' (first | exact True.intro | (with_reducible exact rfl) | exact (rfl : List.replicate 0 PV.bad = []) | ((with_reducible refine And.intro ?_ ?_) <;> (first | (with_reducible exact wkV_same _ rfl) | exact wkV_pt rfl rfl | exact wkV_ow rfl rfl rfl | (refine wkV_ow rfl rfl ?_) | (refine wkV_sc (congrArg (Value.int .i64) ?_)) | (refine wkV_sc (congrArg Value.bool ?_)) | exact wkV_ls rfl | ((refine wkV_cl ?_); conv => whnf) | ((refine wkV_tu ?_); conv => whnf) | ((refine wkV_ag ?_); conv => whnf) | (conv => whnf))))))
      all_goals first | exact w1 (by omega) | (refine obj_eq (by kernel_rfl) ?_; exact app1_map rfl _ rfl) | (simp only [List.map_append, List.length_append]; rfl) | rfl
    · have h0 := h
      rw [if_neg h, List.append_nil] at s1
      have stay : tkF index x (l[i]'hlt) = false → foundL l index x (i + 1) = foundL l index x i := fun e => by
        rw [s2, e]; simp only [Bool.false_eq_true, if_false, or_none']
      ((first | (with_reducible refine split_dec (fun h => ?_) (fun h => ?_)) | (with_reducible refine split_beq (fun h => ?_) (fun h => ?_)) | (with_reducible refine split_bne (fun h => ?_) (fun h => ?_)) | (with_reducible refine split_not (fun h => ?_) (fun h => ?_)) | (with_reducible refine split_beqS (fun h => ?_) (fun h => ?_)) | (with_reducible refine split_intro (fun h => ?_) (fun h => ?_))) <;> conv => whnf)
      · have h1 := h
        cases hfo : foundL l index x i with
        | some q =>
          have e3 : foundL l index x (i + 1) = some q := by rw [s2, hfo]; rfl
          conv => whnf
          refine ⟨i + 1, [(1000, 1000)], ⟨by omega, by omega⟩, ?_⟩
          rw [s1, e3]
          conv => whnf
          (refine And.intro (And.intro (by with_unfolding_all rfl) (by intro q h; cases h)) ?_; refine And.intro ?_ (And.intro ?_ ?_) <;> (conv => whnf) <;> (repeat' (first | exact True.intro | (with_reducible exact rfl) | exact (rfl : List.replicate 0 PV.bad = []) | ((with_reducible refine And.intro ?_ ?_) <;> (first | (with_reducible exact wkV_same _ rfl) | exact wkV_pt rfl rfl | exact wkV_ow rfl rfl rfl | (refine wkV_ow rfl rfl ?_) | (refine wkV_sc (congrArg (Value.int .i64) ?_)) | (refine wkV_sc (congrArg Value.bool ?_)) | exact wkV_ls rfl | ((refine wkV_cl ?_); conv => whnf) | ((refine wkV_tu ?_); conv => whnf) | ((refine wkV_ag ?_); conv => whnf) | (conv => whnf))))))
          all_goals first | exact w1 (by omega) | rfl
        | none =>
          conv => whnf
          ((first | (with_reducible refine split_dec (fun h => ?_) (fun h => ?_)) | (with_reducible refine split_beq (fun h => ?_) (fun h => ?_)) | (with_reducible refine split_bne (fun h => ?_) (fun h => ?_)) | (with_reducible refine split_not (fun h => ?_) (fun h => ?_)) | (with_reducible refine split_beqS (fun h => ?_) (fun h => ?_)) | (with_reducible refine split_intro (fun h => ?_) (fun h => ?_))) <;> conv => whnf)
          · have h2 := h
            ((try ((refine Exists.intro none ?_); (conv => whnf))); first | ((with_reducible refine call_by (c_own x.call (l[i]'hlt).call) ?_); conv => whnf))
            ((first | (with_reducible refine split_dec (fun h => ?_) (fun h => ?_)) | (with_reducible refine split_beq (fun h => ?_) (fun h => ?_)) | (with_reducible refine split_bne (fun h => ?_) (fun h => ?_)) | (with_reducible refine split_not (fun h => ?_) (fun h => ?_)) | (with_reducible refine split_beqS (fun h => ?_) (fun h => ?_)) | (with_reducible refine split_intro (fun h => ?_) (fun h => ?_))) <;> conv => whnf)
            · have ef : tkF index x (l[i]'hlt) = true := by simp [tkF, h1, h2, h]
              have e3 : foundL l index x (i + 1) = some (l[i]'hlt) := by rw [s2, hfo, ef]; rfl
              refine ⟨i + 1, [(1000, 1000)], ⟨by omega, by omega⟩, ?_⟩
              rw [s1, e3]
              conv => whnf
              (refine And.intro (And.intro (by with_unfolding_all rfl) (by intro q h; cases h)) ?_; refine And.intro ?_ (And.intro ?_ ?_) <;> (conv => whnf) <;> (repeat' (first | exact True.intro | (with_reducible exact rfl) | exact (rfl : List.replicate 0 PV.bad = []) | ((with_reducible refine And.intro ?_ ?_) <;> (first | (with_reducible exact wkV_same _ rfl) | exact wkV_pt rfl rfl | exact wkV_ow rfl rfl rfl | (refine wkV_ow rfl rfl ?_) | (refine wkV_sc (congrArg (Value.int .i64) ?_)) | (refine wkV_sc (congrArg Value.bool ?_)) | exact wkV_ls rfl | ((refine wkV_cl ?_); conv => whnf) | ((refine wkV_tu ?_); conv => whnf) | ((refine wkV_ag ?_); conv => whnf) | (conv => whnf))))))
              all_goals first | exact w1 (by omega) | rfl
            · have e3 := stay (by simp [tkF, h])
              rw [hfo] at e3
              refine ⟨i + 1, [(1000, 1000)], ⟨by omega, by omega⟩, ?_⟩
              rw [s1, e3]
              conv => whnf
              (refine And.intro (And.intro (by with_unfolding_all rfl) (by intro q h; cases h)) ?_; refine And.intro ?_ (And.intro ?_ ?_) <;> (conv => whnf) <;> (repeat' (first | exact True.intro | (with_reducible exact rfl) | exact (rfl : List.replicate 0 PV.bad = []) | ((with_reducible refine And.intro ?_ ?_) <;> (first | (with_reducible exact wkV_same _ rfl) | exact wkV_pt rfl rfl | exact wkV_ow rfl rfl rfl | (refine wkV_ow rfl rfl ?_) | (refine wkV_sc (congrArg (Value.int .i64) ?_)) | (refine wkV_sc (congrArg Value.bool ?_)) | exact wkV_ls rfl | ((refine wkV_cl ?_); conv => whnf) | ((refine wkV_tu ?_); conv => whnf) | ((refine wkV_ag ?_); conv => whnf) | (conv => whnf))))))
              all_goals first | exact w1 (by omega) | rfl
          · have e3 := stay (by simp [tkF, h])
            rw [hfo] at e3
            refine ⟨i + 1, [(1000, 1000)], ⟨by omega, by omega⟩, ?_⟩
            rw [s1, e3]
            conv => whnf
            (refine And.intro (And.intro (by with_unfolding_all rfl) (by intro q h; cases h)) ?_; refine And.intro ?_ (And.intro ?_ ?_) <;> (conv => whnf) <;> (repeat' (first | exact True.intro | (with_reducible exact rfl) | exact (rfl : List.replicate 0 PV.bad = []) | ((with_reducible refine And.intro ?_ ?_) <;> (first | (with_reducible exact wkV_same _ rfl) | exact wkV_pt rfl rfl | exact wkV_ow rfl rfl rfl | (refine wkV_ow rfl rfl ?_) | (refine wkV_sc (congrArg (Value.int .i64) ?_)) | (refine wkV_sc (congrArg Value.bool ?_)) | exact wkV_ls rfl | ((refine wkV_cl ?_); conv => whnf) | ((refine wkV_tu ?_); conv => whnf) | ((refine wkV_ag ?_); conv => whnf) | (conv => whnf))))))
            all_goals first | exact w1 (by omega) | rfl
      · have e3 := stay (by simp [tkF, h])
        refine ⟨i + 1, [(1000, 1000)], ⟨by omega, by omega⟩, ?_⟩
        rw [s1, e3]
        conv => whnf
        (refine And.intro (And.intro (by with_unfolding_all rfl) (by intro q h; cases h)) ?_; refine And.intro ?_ (And.intro ?_ ?_) <;> (conv => whnf) <;> (repeat' (first | exact True.intro | (with_reducible exact rfl) | exact (rfl : List.replicate 0 PV.bad = []) | ((with_reducible refine And.intro ?_ ?_) <;> (first | (with_reducible exact wkV_same _ rfl) | exact wkV_pt rfl rfl | exact wkV_ow rfl rfl rfl | (refine wkV_ow rfl rfl ?_) | (refine wkV_sc (congrArg (Value.int .i64) ?_)) | (refine wkV_sc (congrArg Value.bool ?_)) | exact wkV_ls rfl | ((refine wkV_cl ?_); conv => whnf) | ((refine wkV_tu ?_); conv => whnf) | ((refine wkV_ag ?_); conv => whnf) | (conv => whnf))))))
        all_goals first | exact w1 (by omega) | rfl
  · simp only [List.length_map] at h
    have : i = l.length := by omega
    subst this
    refine exit_own [(0, 1000)] rfl ⟨rfl, True.intro⟩ (wkV_tu ?_)
    exact ⟨wkV_ow rfl rfl rfl, wkV_same _ rfl, wkV_same _ rfl, rfl⟩

set_option maxHeartbeats 2000000 in
theorem c_rTake (l : List Pd) (hl : l.length ≤ 4294967) (index : Int) (x : Ent) : Ctr Try.prog 115 [.sl 11 (l.map Pd.enc), iv index, .ag x.enc] (.tu [.ow 0 0 ((l.filter fun p => decide (index < p.index)).map Pd.enc).length, .ag (callOf (l.find? (tkF index x))).enc, bv (l.find? (tkF index x)).isSome]) [(11, (l.filter fun p => decide (index < p.index)).map Pd.enc)] := by
  rw [← leftL_all, ← foundL_all]
  refine spec_of_body mixed Try.func115 rfl (by kernel_rfl) (by kernel_rfl) ?_; conv => whnf
  refine tri_nil 9 1000 11 rfl rfl ?_
  conv => whnf
  refine tri_forO mixed (by kernel_rfl) (fun i : Nat => i ≤ l.length) (fun i => [(12, iv i), (9, .ow 1000 0 ((leftL l index i).map Pd.enc).length), (11, bv (foundL l index x i).isSome)]) (fun i => [(5, x.enc), (7, kz.enc), (10, (callOf (foundL l index x i)).enc)]) (fun i => [(1000, some (false, 11, (leftL l index i).map Pd.enc))]) [(1000, 1000)] (fun i => l.length - i) 0 (Nat.zero_le _) ?_ ?_
  · conv => whnf
    (refine And.intro (And.intro (by with_unfolding_all rfl) (by intro q h; cases h)) ?_; refine And.intro ?_ (And.intro ?_ ?_) <;> (conv => whnf) <;> (repeat' (first | exact True.intro | (with_reducible exact rfl) | exact (rfl : List.replicate 0 PV.bad = []) | ((with_reducible refine And.intro ?_ ?_) <;> (first | (with_reducible exact wkV_same _ rfl) | exact wkV_pt rfl rfl | exact wkV_ow rfl rfl rfl | (refine wkV_ow rfl rfl ?_) | (refine wkV_sc (congrArg (Value.int .i64) ?_)) | (refine wkV_sc (congrArg Value.bool ?_)) | exact wkV_ls rfl | ((refine wkV_cl ?_); conv => whnf) | ((refine wkV_tu ?_); conv => whnf) | ((refine wkV_ag ?_); conv => whnf) | (conv => whnf))))))
    all_goals rfl
  intro i hi
  conv => whnf
  ((first | (with_reducible refine split_dec (fun h => ?_) (fun h => ?_)) | (with_reducible refine split_beq (fun h => ?_) (fun h => ?_)) | (with_reducible refine split_bne (fun h => ?_) (fun h => ?_)) | (with_reducible refine split_not (fun h => ?_) (fun h => ?_)) | (with_reducible refine split_beqS (fun h => ?_) (fun h => ?_)) | (with_reducible refine split_intro (fun h => ?_) (fun h => ?_))) <;> conv => whnf)
  · simp only [List.length_map] at h
    have hlt : i < l.length := by omega
    have n1 : ((leftL l index i).map Pd.enc).length ≤ 4294967 := by rw [List.length_map]; exact Nat.le_trans (leftL_len l index i) hl
    have s1 := leftL_succ (index := index) hlt
    have s2 := foundL_succ (index := index) (x := x) hlt
    (first | ((with_reducible refine And.intro (by omega) (Exists.intro _ (And.intro (row_at hlt) ?_))); conv => whnf))
    ((first | (with_reducible refine split_dec (fun h => ?_) (fun h => ?_)) | (with_reducible refine split_beq (fun h => ?_) (fun h => ?_)) | (with_reducible refine split_bne (fun h => ?_) (fun h => ?_)) | (with_reducible refine split_not (fun h => ?_) (fun h => ?_)) | (with_reducible refine split_beqS (fun h => ?_) (fun h => ?_)) | (with_reducible refine split_intro (fun h => ?_) (fun h => ?_))) <;> conv => whnf)
    · rw [if_pos h] at s1
      have ef : tkF index x (l[i]'hlt) = false := by unfold tkF; rw [show ((l[i]'hlt).index == index) = false from by rw [beq_eq_false_iff_ne]; omega]; rfl
      rw [ef] at s2
      simp only [Bool.false_eq_true, if_false, or_none'] at s2
      (first | ((with_reducible refine And.intro (by omega) (Exists.intro _ (And.intro (row_at hlt) ?_))); conv => whnf))
      (refine And.intro rfl ?_; (conv => whnf); refine And.intro (And.intro (And.intro (by kernel_rfl) (And.intro (by simp) (And.intro (small (by simp only [List.length_cons, List.length_nil]; omega) (by kernel_rfl)) (And.intro (smallM (by simp only [List.length_cons, List.length_nil]; omega)) (by intro r hr; rw [List.mem_singleton.1 hr]; rfl))))) (And.intro (by decide) rfl)) ?_; conv => whnf)
      refine ⟨i + 1, [(1000, 528)], ⟨by omega, by omega⟩, ?_⟩
      rw [s1, s2]
      conv => whnf
      (refine And.intro (And.intro (by with_unfolding_all rfl) (by intro q h; cases h)) ?_; refine And.intro ?_ (And.intro ?_ ?_) <;> (conv => whnf) <;> (repeat' (first | exact True.intro | (with_reducible exact rfl) | exact (rfl : List.replicate 0 PV.bad = []) | ((with_reducible refine And.intro ?_ ?_) <;> (first | (with_reducible exact wkV_same _ rfl) | exact wkV_pt rfl rfl | exact wkV_ow rfl rfl rfl | (refine wkV_ow rfl rfl ?_) | (refine wkV_sc (congrArg (Value.int .i64) ?_)) | (refine wkV_sc (congrArg Value.bool ?_)) | exact wkV_ls rfl | ((refine wkV_cl ?_); conv => whnf) | ((refine wkV_tu ?_); conv => whnf) | ((refine wkV_ag ?_); conv => whnf) | (conv => whnf))))))
      all_goals first | exact w1 (by omega) | (refine obj_eq (by kernel_rfl) ?_; exact app1_map rfl _ rfl) | (simp only [List.map_append, List.length_append]; rfl) | rfl
    · have h0 := h
      rw [if_neg h, List.append_nil] at s1
      have stay : tkF index x (l[i]'hlt) = false → foundL l index x (i + 1) = foundL l index x i := fun e => by
        rw [s2, e]; simp only [Bool.false_eq_true, if_false, or_none']
      cases hfo : foundL l index x i with
      | some q =>
        have e3 : foundL l index x (i + 1) = some q := by rw [s2, hfo]; rfl
        conv => whnf
        refine ⟨i + 1, [(1000, 1000)], ⟨by omega, by omega⟩, ?_⟩
        rw [s1, e3]
        conv => whnf
        (refine And.intro (And.intro (by with_unfolding_all rfl) (by intro q h; cases h)) ?_; refine And.intro ?_ (And.intro ?_ ?_) <;> (conv => whnf) <;> (repeat' (first | exact True.intro | (with_reducible exact rfl) | exact (rfl : List.replicate 0 PV.bad = []) | ((with_reducible refine And.intro ?_ ?_) <;> (first | (with_reducible exact wkV_same _ rfl) | exact wkV_pt rfl rfl | exact wkV_ow rfl rfl rfl | (refine wkV_ow rfl rfl ?_) | (refine wkV_sc (congrArg (Value.int .i64) ?_)) | (refine wkV_sc (congrArg Value.bool ?_)) | exact wkV_ls rfl | ((refine wkV_cl ?_); conv => whnf) | ((refine wkV_tu ?_); conv => whnf) | ((refine wkV_ag ?_); conv => whnf) | (conv => whnf))))))
        all_goals first | exact w1 (by omega) | rfl
      | none =>
        conv => whnf
        (first | ((with_reducible refine And.intro (by omega) (Exists.intro _ (And.intro (row_at hlt) ?_))); conv => whnf))
        ((first | (with_reducible refine split_dec (fun h => ?_) (fun h => ?_)) | (with_reducible refine split_beq (fun h => ?_) (fun h => ?_)) | (with_reducible refine split_bne (fun h => ?_) (fun h => ?_)) | (with_reducible refine split_not (fun h => ?_) (fun h => ?_)) | (with_reducible refine split_beqS (fun h => ?_) (fun h => ?_)) | (with_reducible refine split_intro (fun h => ?_) (fun h => ?_))) <;> conv => whnf)
        · have h1 := h
          ((first | (with_reducible refine split_dec (fun h => ?_) (fun h => ?_)) | (with_reducible refine split_beq (fun h => ?_) (fun h => ?_)) | (with_reducible refine split_bne (fun h => ?_) (fun h => ?_)) | (with_reducible refine split_not (fun h => ?_) (fun h => ?_)) | (with_reducible refine split_beqS (fun h => ?_) (fun h => ?_)) | (with_reducible refine split_intro (fun h => ?_) (fun h => ?_))) <;> conv => whnf)
          · have h2 := h
            (first | ((with_reducible refine And.intro (by omega) (Exists.intro _ (And.intro (row_at hlt) ?_))); conv => whnf))
            ((first | (with_reducible refine split_dec (fun h => ?_) (fun h => ?_)) | (with_reducible refine split_beq (fun h => ?_) (fun h => ?_)) | (with_reducible refine split_bne (fun h => ?_) (fun h => ?_)) | (with_reducible refine split_not (fun h => ?_) (fun h => ?_)) | (with_reducible refine split_beqS (fun h => ?_) (fun h => ?_)) | (with_reducible refine split_intro (fun h => ?_) (fun h => ?_))) <;> conv => whnf)
            · have h3 := h
              (first | ((with_reducible refine And.intro (by omega) (Exists.intro _ (And.intro (row_at hlt) ?_))); conv => whnf))
              ((first | (with_reducible refine split_dec (fun h => ?_) (fun h => ?_)) | (with_reducible refine split_beq (fun h => ?_) (fun h => ?_)) | (with_reducible refine split_bne (fun h => ?_) (fun h => ?_)) | (with_reducible refine split_not (fun h => ?_) (fun h => ?_)) | (with_reducible refine split_beqS (fun h => ?_) (fun h => ?_)) | (with_reducible refine split_intro (fun h => ?_) (fun h => ?_))) <;> conv => whnf)
              · have ef : tkF index x (l[i]'hlt) = true := by simp [tkF, ownC, h1, h2, h3, h]
                have e3 : foundL l index x (i + 1) = some (l[i]'hlt) := by rw [s2, hfo, ef]; rfl
                (first | ((with_reducible refine And.intro (by omega) (Exists.intro _ (And.intro (row_at hlt) ?_))); conv => whnf))
                refine ⟨i + 1, [(1000, 1000)], ⟨by omega, by omega⟩, ?_⟩
                rw [s1, e3]
                conv => whnf
                (refine And.intro (And.intro (by with_unfolding_all rfl) (by intro q h; cases h)) ?_; refine And.intro ?_ (And.intro ?_ ?_) <;> (conv => whnf) <;> (repeat' (first | exact True.intro | (with_reducible exact rfl) | exact (rfl : List.replicate 0 PV.bad = []) | ((with_reducible refine And.intro ?_ ?_) <;> (first | (with_reducible exact wkV_same _ rfl) | exact wkV_pt rfl rfl | exact wkV_ow rfl rfl rfl | (refine wkV_ow rfl rfl ?_) | (refine wkV_sc (congrArg (Value.int .i64) ?_)) | (refine wkV_sc (congrArg Value.bool ?_)) | exact wkV_ls rfl | ((refine wkV_cl ?_); conv => whnf) | ((refine wkV_tu ?_); conv => whnf) | ((refine wkV_ag ?_); conv => whnf) | (conv => whnf))))))
                all_goals first | exact w1 (by omega) | rfl
              · have e3 := stay (by simp [tkF, ownC, h])
                rw [hfo] at e3
                refine ⟨i + 1, [(1000, 1000)], ⟨by omega, by omega⟩, ?_⟩
                rw [s1, e3]
                conv => whnf
                (refine And.intro (And.intro (by with_unfolding_all rfl) (by intro q h; cases h)) ?_; refine And.intro ?_ (And.intro ?_ ?_) <;> (conv => whnf) <;> (repeat' (first | exact True.intro | (with_reducible exact rfl) | exact (rfl : List.replicate 0 PV.bad = []) | ((with_reducible refine And.intro ?_ ?_) <;> (first | (with_reducible exact wkV_same _ rfl) | exact wkV_pt rfl rfl | exact wkV_ow rfl rfl rfl | (refine wkV_ow rfl rfl ?_) | (refine wkV_sc (congrArg (Value.int .i64) ?_)) | (refine wkV_sc (congrArg Value.bool ?_)) | exact wkV_ls rfl | ((refine wkV_cl ?_); conv => whnf) | ((refine wkV_tu ?_); conv => whnf) | ((refine wkV_ag ?_); conv => whnf) | (conv => whnf))))))
                all_goals first | exact w1 (by omega) | rfl
            · have e3 := stay (by simp [tkF, ownC, h])
              rw [hfo] at e3
              refine ⟨i + 1, [(1000, 1000)], ⟨by omega, by omega⟩, ?_⟩
              rw [s1, e3]
              conv => whnf
              (refine And.intro (And.intro (by with_unfolding_all rfl) (by intro q h; cases h)) ?_; refine And.intro ?_ (And.intro ?_ ?_) <;> (conv => whnf) <;> (repeat' (first | exact True.intro | (with_reducible exact rfl) | exact (rfl : List.replicate 0 PV.bad = []) | ((with_reducible refine And.intro ?_ ?_) <;> (first | (with_reducible exact wkV_same _ rfl) | exact wkV_pt rfl rfl | exact wkV_ow rfl rfl rfl | (refine wkV_ow rfl rfl ?_) | (refine wkV_sc (congrArg (Value.int .i64) ?_)) | (refine wkV_sc (congrArg Value.bool ?_)) | exact wkV_ls rfl | ((refine wkV_cl ?_); conv => whnf) | ((refine wkV_tu ?_); conv => whnf) | ((refine wkV_ag ?_); conv => whnf) | (conv => whnf))))))
              all_goals first | exact w1 (by omega) | rfl
          · have e3 := stay (by simp [tkF, h])
            rw [hfo] at e3
            refine ⟨i + 1, [(1000, 1000)], ⟨by omega, by omega⟩, ?_⟩
            rw [s1, e3]
            conv => whnf
            (refine And.intro (And.intro (by with_unfolding_all rfl) (by intro q h; cases h)) ?_; refine And.intro ?_ (And.intro ?_ ?_) <;> (conv => whnf) <;> (repeat' (first | exact True.intro | (with_reducible exact rfl) | exact (rfl : List.replicate 0 PV.bad = []) | ((with_reducible refine And.intro ?_ ?_) <;> (first | (with_reducible exact wkV_same _ rfl) | exact wkV_pt rfl rfl | exact wkV_ow rfl rfl rfl | (refine wkV_ow rfl rfl ?_) | (refine wkV_sc (congrArg (Value.int .i64) ?_)) | (refine wkV_sc (congrArg Value.bool ?_)) | exact wkV_ls rfl | ((refine wkV_cl ?_); conv => whnf) | ((refine wkV_tu ?_); conv => whnf) | ((refine wkV_ag ?_); conv => whnf) | (conv => whnf))))))
            all_goals first | exact w1 (by omega) | rfl
        · have e3 := stay (by simp [tkF, h])
          rw [hfo] at e3
          refine ⟨i + 1, [(1000, 1000)], ⟨by omega, by omega⟩, ?_⟩
          rw [s1, e3]
          conv => whnf
          (refine And.intro (And.intro (by with_unfolding_all rfl) (by intro q h; cases h)) ?_; refine And.intro ?_ (And.intro ?_ ?_) <;> (conv => whnf) <;> (repeat' (first | exact True.intro | (with_reducible exact rfl) | exact (rfl : List.replicate 0 PV.bad = []) | ((with_reducible refine And.intro ?_ ?_) <;> (first | (with_reducible exact wkV_same _ rfl) | exact wkV_pt rfl rfl | exact wkV_ow rfl rfl rfl | (refine wkV_ow rfl rfl ?_) | (refine wkV_sc (congrArg (Value.int .i64) ?_)) | (refine wkV_sc (congrArg Value.bool ?_)) | exact wkV_ls rfl | ((refine wkV_cl ?_); conv => whnf) | ((refine wkV_tu ?_); conv => whnf) | ((refine wkV_ag ?_); conv => whnf) | (conv => whnf))))))
          all_goals first | exact w1 (by omega) | rfl
  · simp only [List.length_map] at h
    have : i = l.length := by omega
    subst this
    refine exit_own [(0, 1000)] rfl ⟨rfl, True.intro⟩ (wkV_tu ?_)
    exact ⟨wkV_ow rfl rfl rfl, wkV_same _ rfl, wkV_same _ rfl, rfl⟩

/-! Pends compared. -/
def Pd.nrm (p : Pd) : Pd := ⟨p.call.nrm, p.index⟩
theorem Pd.nrm_eq {a b : Pd} : a.nrm = b.nrm ↔ a.call.nrm = b.call.nrm ∧ a.index = b.index := by
  cases a; cases b; simp [Pd.nrm]
theorem c_kPends (l m : List Pd) (hm : l.length ≤ maxLen) : Ctr Try.prog 105 [.sl 11 (l.map Pd.enc), .sl 11 (m.map Pd.enc)] (bv (decide (l.map Pd.nrm = m.map Pd.nrm))) [] := by
  have hm' : l.length ≤ 9223372036854775807 := Nat.le_trans hm (by decide)
  refine spec_of_body mixed Try.func105 rfl (by kernel_rfl) (by kernel_rfl) ?_; conv => whnf
  ((first | (with_reducible refine split_dec (fun h => ?_) (fun h => ?_)) | (with_reducible refine split_beq (fun h => ?_) (fun h => ?_)) | (with_reducible refine split_bne (fun h => ?_) (fun h => ?_)) | (with_reducible refine split_not (fun h => ?_) (fun h => ?_)) | (with_reducible refine split_beqS (fun h => ?_) (fun h => ?_)) | (with_reducible refine split_intro (fun h => ?_) (fun h => ?_))) <;> conv => whnf)
  · refine exit_plain rfl (congrArg (fun b : Bool => bv b) ?_)
    symm
    apply decide_eq_false
    intro e
    have := congrArg List.length e
    simp at this h
    omega
  simp only [List.length_map] at h
  have hlm : l.length = m.length := by first | omega | (simp at h; omega)
  refine tri_for0 mixed (by kernel_rfl) (fun i : Nat => i ≤ l.length ∧ ∀ j (hj : j < l.length), j < i → (l[j]'hj).nrm = (m[j]'(hlm ▸ hj)).nrm) (fun i => [(5, iv i)]) [] (fun i => l.length - i) 0 ⟨Nat.zero_le _, fun j _ h => absurd h (Nat.not_lt_zero _)⟩ ?_ ?_
  · conv => whnf
    (refine And.intro (And.intro (by with_unfolding_all rfl) (by intro q h; cases h)) ?_; refine And.intro ?_ (And.intro ?_ ?_) <;> (conv => whnf) <;> (repeat' (first | exact True.intro | (with_reducible exact rfl) | exact (rfl : List.replicate 0 PV.bad = []) | ((with_reducible refine And.intro ?_ ?_) <;> (first | (with_reducible exact wkV_same _ rfl) | exact wkV_pt rfl rfl | exact wkV_ow rfl rfl rfl | (refine wkV_ow rfl rfl ?_) | (refine wkV_sc (congrArg (Value.int .i64) ?_)) | (refine wkV_sc (congrArg Value.bool ?_)) | exact wkV_ls rfl | ((refine wkV_cl ?_); conv => whnf) | ((refine wkV_tu ?_); conv => whnf) | ((refine wkV_ag ?_); conv => whnf) | (conv => whnf))))))
    all_goals rfl
  rintro i ⟨hi, hp⟩
  conv => whnf
  ((first | (with_reducible refine split_dec (fun h => ?_) (fun h => ?_)) | (with_reducible refine split_beq (fun h => ?_) (fun h => ?_)) | (with_reducible refine split_bne (fun h => ?_) (fun h => ?_)) | (with_reducible refine split_not (fun h => ?_) (fun h => ?_)) | (with_reducible refine split_beqS (fun h => ?_) (fun h => ?_)) | (with_reducible refine split_intro (fun h => ?_) (fun h => ?_))) <;> conv => whnf)
  · simp only [List.length_map] at h
    have hlt : i < l.length := by omega
    have hlt2 : i < m.length := by omega
    have no : ¬ (l[i]'hlt).nrm = (m[i]'hlt2).nrm → decide (l.map Pd.nrm = m.map Pd.nrm) = false := by
      intro hn
      apply decide_eq_false
      intro e
      have : (l.map Pd.nrm)[i]? = (m.map Pd.nrm)[i]? := by rw [e]
      simp [hlt, hlt2] at this
      exact hn this
    (first | ((with_reducible refine And.intro (by omega) (Exists.intro _ (And.intro (row_at hlt) ?_))); conv => whnf))
    (first | ((with_reducible refine And.intro (by omega) (Exists.intro _ (And.intro (row_at hlt2) ?_))); conv => whnf))
    ((try ((refine Exists.intro none ?_); (conv => whnf))); first | ((with_reducible refine call_by (c_kCall (l[i]'hlt).call (m[i]'hlt2).call) ?_); conv => whnf))
    ((first | (with_reducible refine split_dec (fun h => ?_) (fun h => ?_)) | (with_reducible refine split_beq (fun h => ?_) (fun h => ?_)) | (with_reducible refine split_bne (fun h => ?_) (fun h => ?_)) | (with_reducible refine split_not (fun h => ?_) (fun h => ?_)) | (with_reducible refine split_beqS (fun h => ?_) (fun h => ?_)) | (with_reducible refine split_intro (fun h => ?_) (fun h => ?_))) <;> conv => whnf)
    · exact exit_plain rfl (by rw [no (by rw [Pd.nrm_eq]; intro hh; first | exact h hh.1 | exact of_decide_eq_false h hh.1)])
    have h1 : (l[i]'hlt).call.nrm = (m[i]'hlt2).call.nrm := by first | exact h | exact of_decide_eq_true h
    (first | ((with_reducible refine And.intro (by omega) (Exists.intro _ (And.intro (row_at hlt) ?_))); conv => whnf))
    (first | ((with_reducible refine And.intro (by omega) (Exists.intro _ (And.intro (row_at hlt2) ?_))); conv => whnf))
    ((first | (with_reducible refine split_dec (fun h => ?_) (fun h => ?_)) | (with_reducible refine split_beq (fun h => ?_) (fun h => ?_)) | (with_reducible refine split_bne (fun h => ?_) (fun h => ?_)) | (with_reducible refine split_not (fun h => ?_) (fun h => ?_)) | (with_reducible refine split_beqS (fun h => ?_) (fun h => ?_)) | (with_reducible refine split_intro (fun h => ?_) (fun h => ?_))) <;> conv => whnf)
    · exact exit_plain rfl (by rw [no (by rw [Pd.nrm_eq]; intro hh; exact h hh.2)])
    · refine ⟨i + 1, ⟨⟨by omega, ?_⟩, by omega⟩, ?_⟩
      · intro j hj hji
        by_cases e : j = i
        · subst e; rw [Pd.nrm_eq]; exact ⟨h1, h⟩
        · exact hp j hj (by omega)
      · conv => whnf
        (refine And.intro (And.intro (by with_unfolding_all rfl) (by intro q h; cases h)) ?_; refine And.intro ?_ (And.intro ?_ ?_) <;> (conv => whnf) <;> (repeat' (first | exact True.intro | (with_reducible exact rfl) | exact (rfl : List.replicate 0 PV.bad = []) | ((with_reducible refine And.intro ?_ ?_) <;> (first | (with_reducible exact wkV_same _ rfl) | exact wkV_pt rfl rfl | exact wkV_ow rfl rfl rfl | (refine wkV_ow rfl rfl ?_) | (refine wkV_sc (congrArg (Value.int .i64) ?_)) | (refine wkV_sc (congrArg Value.bool ?_)) | exact wkV_ls rfl | ((refine wkV_cl ?_); conv => whnf) | ((refine wkV_tu ?_); conv => whnf) | ((refine wkV_ag ?_); conv => whnf) | (conv => whnf))))))
        all_goals first | exact w1 (by omega) | rfl
  · simp only [List.length_map] at h
    have : i = l.length := by omega
    subst this
    refine exit_plain rfl (congrArg (fun b : Bool => bv b) ?_)
    symm
    apply decide_eq_true
    refine List.ext_getElem (by simpa using hlm) fun j h1 h2 => ?_
    simp at h1
    simpa using hp j h1 h1
end Go.Proofs

/- Contracts of functions: waiting calls: clones, deleting in place. -/
namespace Go.Proofs
open Go.Pv
set_option maxRecDepth 100000

theorem c_ClonePends (l : List Pd) (h : l.length ≤ 4294967296) : Ctr Try.prog 202 [.sl 11 (l.map Pd.enc)] (.ow 0 0 (l.map Pd.enc).length) [(11, l.map Pd.enc)] := by
  have h' : (l.map Pd.enc).length ≤ 4294967296 := by simpa using h
  refine spec_of_body mixed Try.func202 rfl (by kernel_rfl) (by kernel_rfl) ?_; conv => whnf
  refine ⟨fun e => ?_, ?_⟩ <;> conv => whnf
  · have : l = [] := by simpa using e
    subst this
    exact exit_nil 11
  · refine ⟨rfl, ?_⟩
    conv => whnf
    refine ⟨⟨⟨small h' (by kernel_rfl), smallM h'⟩, rfl⟩, ?_⟩
    conv => whnf
    exact exit_own [(0, 112)] rfl ⟨rfl, True.intro⟩ (wkV_ow rfl rfl rfl)
theorem c_TwinPends (l : List Pd) (h : l.length ≤ 4294967296) : Ctr Try.prog 109 [.sl 11 (l.map Pd.enc)] (.ow 0 0 (l.map Pd.enc).length) [(11, l.map Pd.enc)] := by
  have h' : (l.map Pd.enc).length ≤ 4294967296 := by simpa using h
  refine spec_of_body mixed Try.func109 rfl (by kernel_rfl) (by kernel_rfl) ?_; conv => whnf
  refine ⟨rfl, ?_⟩
  conv => whnf
  refine ⟨⟨⟨small h' (by kernel_rfl), smallM h'⟩, rfl⟩, ?_⟩
  conv => whnf
  exact exit_own [(0, 96)] rfl ⟨rfl, True.intro⟩ (wkV_ow rfl rfl rfl)

def keepL (f : Pd → Bool) (l : List Pd) (j : Nat) : List Pd := (l.take j).filter fun x => !f x
theorem keepL_len (f : Pd → Bool) (l : List Pd) (j : Nat) (h : j ≤ l.length) : (keepL f l j).length ≤ j := by
  unfold keepL
  exact Nat.le_trans (List.length_filter_le _ _) (by simp; omega)
theorem keepL_succ {f : Pd → Bool} {l : List Pd} {j : Nat} (h : j < l.length) : keepL f l (j + 1) = keepL f l j ++ if f (l[j]'h) then [] else [l[j]'h] := by
  unfold keepL
  rw [List.take_succ_eq_append_getElem h, List.filter_append]
  congr 1
  cases hr : f (l[j]'h) <;> simp [hr]
theorem keepL_id {f : Pd → Bool} {l : List Pd} {j : Nat} (hj : j ≤ l.length) (h : ∀ k (hk : k < l.length), k < j → f (l[k]'hk) = false) : keepL f l j = l.take j := by
  unfold keepL
  rw [List.filter_eq_self]
  intro x hx
  obtain ⟨k, hk, rfl⟩ := List.getElem_of_mem hx
  simp only [List.length_take] at hk
  rw [List.getElem_take, h k (by omega) (by omega)]; rfl

theorem set_mid {K mid D : List Pd} {x : Pd} (y : Pd) (ys : List Pd) (e : mid ++ [x] = y :: ys) : (K ++ mid ++ x :: D).set K.length x = (K ++ [x]) ++ ys ++ D := by
  have h1 : K ++ mid ++ x :: D = K ++ (y :: ys ++ D) := by rw [← e]; simp
  rw [h1, List.set_append_right _ _ (Nat.le_refl _), Nat.sub_self]
  simp
theorem at_mid {K mid D : List Pd} {x : Pd} (y : Pd) (ys : List Pd) (e : mid ++ [x] = y :: ys) : (K ++ mid ++ x :: D)[K.length]? = some y := by
  have h1 : K ++ mid ++ x :: D = K ++ (y :: ys ++ D) := by rw [← e]; simp
  rw [h1, List.getElem?_append_right (Nat.le_refl _), Nat.sub_self]; simp

set_option maxHeartbeats 2000000 in
theorem c_DeleteFunc (l : List Pd) (hl : l.length ≤ 4294967) (g : Nat) (c : VCall) (f : Pd → Bool) (hg : ∀ x, Ctr Try.prog g [.ag (Pd.enc x), .ep c.enc] (bv (f x)) []) :
    CtrE Try.prog 201 [.ow 1000000 0 (l.map Pd.enc).length, .cl g [.pt 1000000 0]] [(1000000, c.enc)] [(1000000, some (false, 11, l.map Pd.enc))]
      (.ow 1000000 0 ((l.filter fun x => !f x).map Pd.enc).length) [(1000000, c.enc)] [(1000000, some (false, 11, (l.filter fun x => !f x).map Pd.enc ++ List.replicate (l.length - (l.filter fun x => !f x).length) (List.replicate 11 .bad)))] := by
  have hkl : keepL f l l.length = l.filter fun x => !f x := by simp [keepL]
  have hml : l.length ≤ maxLen := smallM (by omega)
  refine spec_of_bodyE mixed Try.func201 rfl (by kernel_rfl) (by kernel_rfl) ?_; conv => whnf
  ((try ((refine Exists.intro none ?_); (conv => whnf))); (first | (with_reducible refine And.intro (Nat.le_of_eq (Nat.zero_add _)) ?_) | (refine And.intro (by simp only [List.length_map, List.length_set, Nat.zero_add]; omega) ?_)); conv => whnf)
  ((try ((refine Exists.intro none ?_); (conv => whnf))); first | (refine call_eq (c_IndexFunc l hml g c.enc f hg) (by simp only [List.drop_zero, List.take_length]) ?_; conv => whnf))
  unfold firstI
  cases hf : l.findIdx? f with
  | none =>
    simp only
    conv => whnf
    rw [List.findIdx?_eq_none_iff] at hf
    have e : (l.filter fun x => !f x) = l := List.filter_eq_self.2 fun x hx => by rw [hf x hx]; rfl
    rw [e]
    (refine ExitE.mk ⟨[(1000000, 1000000)], [], ?_⟩; (conv => whnf); (refine And.intro (And.intro (by with_unfolding_all rfl) (by intro q h; cases h)) ?_; refine And.intro ?_ (And.intro ?_ ?_) <;> (conv => whnf) <;> (repeat' (first | exact True.intro | (with_reducible exact rfl) | exact (rfl : List.replicate 0 PV.bad = []) | ((with_reducible refine And.intro ?_ ?_) <;> (first | (with_reducible exact wkV_same _ rfl) | exact wkV_pt rfl rfl | exact wkV_ow rfl rfl rfl | (refine wkV_ow rfl rfl ?_) | (refine wkV_sc (congrArg (Value.int .i64) ?_)) | (refine wkV_sc (congrArg Value.bool ?_)) | exact wkV_ls rfl | ((refine wkV_cl ?_); conv => whnf) | ((refine wkV_tu ?_); conv => whnf) | ((refine wkV_ag ?_); conv => whnf) | (conv => whnf)))))))
    all_goals first | rfl | simp
  | some i =>
    simp only
    rw [List.findIdx?_eq_some_iff_getElem] at hf
    obtain ⟨hi, hfi, hlow⟩ := hf
    have hne : ¬ ((i : Nat) : Int) = -1 := by omega
    ((first | (first | (with_reducible refine split_dt (by assumption) ?_) | (with_reducible refine split_df (by assumption) ?_) | (with_reducible refine split_et (by assumption) ?_) | (with_reducible refine split_ef (by assumption) ?_) | (with_reducible refine split_bt (by assumption) ?_) | (with_reducible refine split_bf (by assumption) ?_) | (with_reducible refine split_nt (by assumption) ?_) | (with_reducible refine split_nf (by assumption) ?_) | (with_reducible refine split_t (by assumption) ?_) | (with_reducible refine split_f (by assumption) ?_)) | (first | (with_reducible refine split_dec (fun h => ?_) (fun h => ?_)) | (with_reducible refine split_beq (fun h => ?_) (fun h => ?_)) | (with_reducible refine split_bne (fun h => ?_) (fun h => ?_)) | (with_reducible refine split_not (fun h => ?_) (fun h => ?_)) | (with_reducible refine split_beqS (fun h => ?_) (fun h => ?_)) | (with_reducible refine split_intro (fun h => ?_) (fun h => ?_)))) <;> conv => whnf)
    have low : ∀ k (hk : k < l.length), k < i → f (l[k]'hk) = false := fun k hk hki => by have := hlow k hki; simpa using this
    have k0 : keepL f l (i + 1) = l.take i := by rw [keepL_succ hi, hfi, keepL_id (by omega) low]; simp
    refine tri_forO mixed (by kernel_rfl) (fun b : Nat × List Pd => b.1 ≤ l.length ∧ (keepL f l b.1).length + b.2.length = b.1) (fun b => [(6, iv b.1), (5, iv (keepL f l b.1).length)]) (fun _ => [(1000000, c.enc)]) (fun b => [(1000000, some (false, 11, (keepL f l b.1 ++ b.2 ++ l.drop b.1).map Pd.enc))]) [(1000000, 1000000)] (fun b => l.length - b.1) (i + 1, [l[i]'hi]) ⟨by simp only; omega, by simp only [k0]; simp; omega⟩ ?_ ?_
    · conv => whnf
      (refine And.intro (And.intro (by with_unfolding_all rfl) (by intro q h; cases h)) ?_; refine And.intro ?_ (And.intro ?_ ?_) <;> (conv => whnf) <;> (repeat' (first | exact True.intro | (with_reducible exact rfl) | exact (rfl : List.replicate 0 PV.bad = []) | ((with_reducible refine And.intro ?_ ?_) <;> (first | (with_reducible exact wkV_same _ rfl) | exact wkV_pt rfl rfl | exact wkV_ow rfl rfl rfl | (refine wkV_ow rfl rfl ?_) | (refine wkV_sc (congrArg (Value.int .i64) ?_)) | (refine wkV_sc (congrArg Value.bool ?_)) | exact wkV_ls rfl | ((refine wkV_cl ?_); conv => whnf) | ((refine wkV_tu ?_); conv => whnf) | ((refine wkV_ag ?_); conv => whnf) | (conv => whnf))))))
      all_goals first | rfl | exact w1 (by omega) | skip
      · refine obj_eq rfl ?_
        simp only [k0]
        rw [List.append_assoc, List.singleton_append, ← List.drop_eq_getElem_cons hi, List.take_append_drop]
      · simp only [k0]; simp; omega
    rintro ⟨j, mid⟩ ⟨hj, hK⟩
    simp only at hj hK
    conv => whnf
    ((first | (with_reducible refine split_dec (fun h => ?_) (fun h => ?_)) | (with_reducible refine split_beq (fun h => ?_) (fun h => ?_)) | (with_reducible refine split_bne (fun h => ?_) (fun h => ?_)) | (with_reducible refine split_not (fun h => ?_) (fun h => ?_)) | (with_reducible refine split_beqS (fun h => ?_) (fun h => ?_)) | (with_reducible refine split_intro (fun h => ?_) (fun h => ?_))) <;> conv => whnf)
    · simp only [List.length_map] at h
      have hlt : j < l.length := by omega
      have ed : l.drop j = l[j]'hlt :: l.drop (j + 1) := List.drop_eq_getElem_cons hlt
      have ks := keepL_succ (f := f) hlt
      have hrow : ((keepL f l j ++ mid ++ l.drop j).map Pd.enc)[0 + ((j : Nat) : Int).toNat]? = some (l[j]'hlt).enc := by
        rw [Nat.zero_add, Int.toNat_natCast, List.getElem?_map, List.getElem?_append_right (by simp; omega), ed]
        rw [show j - (keepL f l j ++ mid).length = 0 by simp; omega]; rfl
      refine ⟨by simp only [List.length_map]; omega, ?_⟩
      conv => whnf
      refine ⟨_, hrow, ?_⟩
      conv => whnf
      have hc := hg (l[j]'hlt)
      ((try ((refine Exists.intro none ?_); (conv => whnf))); first | ((with_reducible refine call_by (hc) ?_); conv => whnf))
      ((first | (with_reducible refine split_dec (fun h => ?_) (fun h => ?_)) | (with_reducible refine split_beq (fun h => ?_) (fun h => ?_)) | (with_reducible refine split_bne (fun h => ?_) (fun h => ?_)) | (with_reducible refine split_not (fun h => ?_) (fun h => ?_)) | (with_reducible refine split_beqS (fun h => ?_) (fun h => ?_)) | (with_reducible refine split_intro (fun h => ?_) (fun h => ?_))) <;> conv => whnf)
      · rw [h] at ks
        simp only [Bool.false_eq_true, if_false] at ks
        obtain ⟨y, ys, ey⟩ : ∃ y ys, mid ++ [l[j]'hlt] = y :: ys := by
          cases mid with
          | nil => exact ⟨_, _, rfl⟩
          | cons y m => exact ⟨y, m ++ [l[j]'hlt], rfl⟩
        have hys : ys.length = mid.length := by have := congrArg List.length ey; simp at this; omega
        have hrow2 : ((keepL f l j ++ mid ++ l.drop j).map Pd.enc)[0 + (((keepL f l j).length : Nat) : Int).toNat]? = some y.enc := by
          rw [Nat.zero_add, Int.toNat_natCast, List.getElem?_map, ed, at_mid y ys ey]; rfl
        refine ⟨by simp only [List.length_map]; omega, ?_⟩
        conv => whnf
        refine ⟨_, hrow2, ?_⟩
        conv => whnf
        refine ⟨(j + 1, ys), [(1000000, 1000000)], ⟨⟨by simp only; omega, by simp only [ks]; simp; omega⟩, by simp only; omega⟩, ?_⟩
        rw [ks]
        conv => whnf
        (refine And.intro (And.intro (by with_unfolding_all rfl) (by intro q h; cases h)) ?_; refine And.intro ?_ (And.intro ?_ ?_) <;> (conv => whnf) <;> (repeat' (first | exact True.intro | (with_reducible exact rfl) | exact (rfl : List.replicate 0 PV.bad = []) | ((with_reducible refine And.intro ?_ ?_) <;> (first | (with_reducible exact wkV_same _ rfl) | exact wkV_pt rfl rfl | exact wkV_ow rfl rfl rfl | (refine wkV_ow rfl rfl ?_) | (refine wkV_sc (congrArg (Value.int .i64) ?_)) | (refine wkV_sc (congrArg Value.bool ?_)) | exact wkV_ls rfl | ((refine wkV_cl ?_); conv => whnf) | ((refine wkV_tu ?_); conv => whnf) | ((refine wkV_ag ?_); conv => whnf) | (conv => whnf))))))
        all_goals first | rfl | exact w1 (by omega) | skip
        · refine obj_eq rfl ?_
          rw [Nat.zero_add, Int.toNat_natCast, ed, ← set_mid y ys ey, List.map_set]
        · rw [w1 (by simp only; omega)]; simp
      · rw [h] at ks
        simp only [if_true, List.append_nil] at ks
        refine ⟨(j + 1, mid ++ [l[j]'hlt]), [(1000000, 1000000)], ⟨⟨by simp only; omega, by simp only [ks]; simp; omega⟩, by simp only; omega⟩, ?_⟩
        rw [ks]
        conv => whnf
        (refine And.intro (And.intro (by with_unfolding_all rfl) (by intro q h; cases h)) ?_; refine And.intro ?_ (And.intro ?_ ?_) <;> (conv => whnf) <;> (repeat' (first | exact True.intro | (with_reducible exact rfl) | exact (rfl : List.replicate 0 PV.bad = []) | ((with_reducible refine And.intro ?_ ?_) <;> (first | (with_reducible exact wkV_same _ rfl) | exact wkV_pt rfl rfl | exact wkV_ow rfl rfl rfl | (refine wkV_ow rfl rfl ?_) | (refine wkV_sc (congrArg (Value.int .i64) ?_)) | (refine wkV_sc (congrArg Value.bool ?_)) | exact wkV_ls rfl | ((refine wkV_cl ?_); conv => whnf) | ((refine wkV_tu ?_); conv => whnf) | ((refine wkV_ag ?_); conv => whnf) | (conv => whnf))))))
        all_goals first | rfl | exact w1 (by omega) | skip
        · refine obj_eq rfl ?_
          rw [ed]; simp
    · simp only [List.length_map] at h
      have : j = l.length := by omega
      subst this
      dsimp only
      rw [List.drop_length, List.append_nil, hkl]
      rw [hkl] at hK
      generalize hKl : (l.filter fun x => !f x) = K at *
      refine ⟨?_, ?_⟩
      · simp only [List.length_map]; omega
      conv => whnf
      refine ⟨⟨by kernel_rfl, ?_⟩, ?_⟩
      · simp only [Int.toNat_natCast, List.length_map, List.length_append]; omega
      conv => whnf
      refine ⟨?_, ?_⟩
      · simp only [List.length_map]; omega
      conv => whnf
      (refine ExitE.mk ⟨[(1000000, 1000000)], [], ?_⟩; (conv => whnf); (refine And.intro (And.intro (by with_unfolding_all rfl) (by intro q h; cases h)) ?_; refine And.intro ?_ (And.intro ?_ ?_) <;> (conv => whnf) <;> (repeat' (first | exact True.intro | (with_reducible exact rfl) | exact (rfl : List.replicate 0 PV.bad = []) | ((with_reducible refine And.intro ?_ ?_) <;> (first | (with_reducible exact wkV_same _ rfl) | exact wkV_pt rfl rfl | exact wkV_ow rfl rfl rfl | (refine wkV_ow rfl rfl ?_) | (refine wkV_sc (congrArg (Value.int .i64) ?_)) | (refine wkV_sc (congrArg Value.bool ?_)) | exact wkV_ls rfl | ((refine wkV_cl ?_); conv => whnf) | ((refine wkV_tu ?_); conv => whnf) | ((refine wkV_ag ?_); conv => whnf) | (conv => whnf)))))))
      all_goals first | rfl | skip
      · refine obj_eq rfl ?_
        simp only [Int.toNat_natCast, List.length_map, Nat.zero_add]
        rw [List.drop_eq_nil_of_le (by simp only [List.length_map, List.length_append]; omega), List.append_nil, List.map_append, List.take_append_of_le_length (by simp), List.take_of_length_le (by simp)]
      · simp
end Go.Proofs

/- Contracts of functions: one more call that waits. -/
namespace Go.Proofs
open Go.Pv
set_option maxRecDepth 100000

def keptL (l : List Pd) (c : VCall) : List Pd := l.filter fun x => !(x.call.client == c.client)
noncomputable def putE (l : List Pd) (c : VCall) (index : Int) : Int :=
  if dec (PendsP l) then (if callR c = 0 then (if index ≤ lastX l l.length ∨ 1099511627776 < index then 1 else if 4 ≤ (keptL l c).length then 12 else 0) else callR c) else 6
abbrev putL (l : List Pd) (c : VCall) (index : Int) : List Pd := keptL l c ++ [⟨c, index⟩]
noncomputable def putV (l : List Pd) (c : VCall) (index : Int) : PV := if putE l c index = 0 then .tu [.ow 0 0 ((putL l c index).map Pd.enc).length, iv 0] else .tu [.nl, iv (putE l c index)]
noncomputable def putO (l : List Pd) (c : VCall) (index : Int) : List (Nat × List (List PV)) := if putE l c index = 0 then [(11, (putL l c index).map Pd.enc)] else []

theorem put_err {l : List Pd} {c : VCall} {index e : Int} (h : putE l c index = e) (he : e ≠ 0) : putV l c index = .tu [.nl, iv e] ∧ putO l c index = [] := by
  unfold putV putO
  rw [h, if_neg he, if_neg he]; exact ⟨rfl, rfl⟩
theorem put_ok {l : List Pd} {c : VCall} {index : Int} (h : putE l c index = 0) : putV l c index = .tu [.ow 0 0 ((putL l c index).map Pd.enc).length, iv 0] ∧ putO l c index = [(11, (putL l c index).map Pd.enc)] := by
  unfold putV putO
  rw [if_pos h, if_pos h]; exact ⟨rfl, rfl⟩

theorem lastX_last {l : List Pd} (h : 0 < l.length) : lastX l l.length = (l[l.length - 1]'(by omega)).index := by
  have := lastX_succ (l := l) (i := l.length - 1) (by omega)
  rwa [show l.length - 1 + 1 = l.length by omega] at this
theorem lastX_nil {l : List Pd} (h : l.length = 0) : lastX l l.length = 0 := by rw [h, lastX_0]

theorem putE_bad {l : List Pd} {c : VCall} {index : Int} (h : ¬ PendsP l) : putE l c index = 6 := by unfold putE; rw [dec_false h]; rfl
theorem putE_call {l : List Pd} {c : VCall} {index : Int} (h : PendsP l) (hc : ¬ callR c = 0) : putE l c index = callR c := by unfold putE; rw [dec_true h, if_pos rfl, if_neg hc]
theorem putE_arg {l : List Pd} {c : VCall} {index : Int} (h : PendsP l) (hc : callR c = 0) (hi : index ≤ lastX l l.length ∨ 1099511627776 < index) : putE l c index = 1 := by unfold putE; rw [dec_true h, if_pos rfl, if_pos hc, if_pos hi]
theorem putE_full {l : List Pd} {c : VCall} {index : Int} (h : PendsP l) (hc : callR c = 0) (hi : ¬ (index ≤ lastX l l.length ∨ 1099511627776 < index)) (h4 : 4 ≤ (keptL l c).length) : putE l c index = 12 := by unfold putE; rw [dec_true h, if_pos rfl, if_pos hc, if_neg hi, if_pos h4]
theorem putE_ok {l : List Pd} {c : VCall} {index : Int} (h : PendsP l) (hc : callR c = 0) (hi : ¬ (index ≤ lastX l l.length ∨ 1099511627776 < index)) (h4 : ¬ 4 ≤ (keptL l c).length) : putE l c index = 0 := by unfold putE; rw [dec_true h, if_pos rfl, if_pos hc, if_neg hi, if_neg h4]

set_option maxHeartbeats 4000000 in
theorem c_gPut (l : List Pd) (hl : l.length ≤ 4294967) (c : VCall) (index : Int) : Ctr Try.prog 113 [.sl 11 (l.map Pd.enc), .ag c.enc, iv index] (putV l c index) (putO l c index) := by
  have hml : l.length ≤ maxLen := smallM (by omega)
  have hml' : l.length ≤ 4294967296 := by omega
  have hck := c_gCheck l hml
  have hkl : (keptL l c).length ≤ l.length := List.length_filter_le _ _
  by_cases hP : PendsP l
  · rw [dec_true hP] at hck
    simp only [if_true] at hck
    by_cases hc : callR c = 0
    · have hr := c_sRight c
      rw [hc] at hr
      refine spec_of_body mixed Try.func113 rfl (by kernel_rfl) (by kernel_rfl) ?_; conv => whnf
      ((try ((refine Exists.intro none ?_); (conv => whnf))); first | ((with_reducible refine call_by (hck) ?_); conv => whnf))
      ((try ((refine Exists.intro none ?_); (conv => whnf))); first | ((with_reducible refine call_by (hr) ?_); conv => whnf))
      ((first | (with_reducible refine split_dec (fun h => ?_) (fun h => ?_)) | (with_reducible refine split_beq (fun h => ?_) (fun h => ?_)) | (with_reducible refine split_bne (fun h => ?_) (fun h => ?_)) | (with_reducible refine split_not (fun h => ?_) (fun h => ?_)) | (with_reducible refine split_beqS (fun h => ?_) (fun h => ?_)) | (with_reducible refine split_intro (fun h => ?_) (fun h => ?_))) <;> conv => whnf)
      all_goals first
        | (have h0 : 0 < l.length := by simp only [List.length_map] at h; omega
           have hlt1 : l.length - 1 < l.length := by omega
           have ew : IntKind.i64.wrap (((l.map Pd.enc).length : Int) - 1) = ((l.length - 1 : Nat) : Int) := by rw [List.length_map, wrap_id (by omega) (by omega)]; omega
           rw [ew]
           refine ⟨by omega, _, row_at hlt1, ?_⟩
           conv => whnf
           rw [← lastX_last h0]
           have e0 : True := trivial)
        | (have h0 : l.length = 0 := by simp only [List.length_map] at h; omega
           have e0 : lastX l l.length = 0 := lastX_nil h0)
      all_goals (
        ((first | (with_reducible refine split_dec (fun h => ?_) (fun h => ?_)) | (with_reducible refine split_beq (fun h => ?_) (fun h => ?_)) | (with_reducible refine split_bne (fun h => ?_) (fun h => ?_)) | (with_reducible refine split_not (fun h => ?_) (fun h => ?_)) | (with_reducible refine split_beqS (fun h => ?_) (fun h => ?_)) | (with_reducible refine split_intro (fun h => ?_) (fun h => ?_))) <;> conv => whnf)
        · obtain ⟨p1, p2⟩ := put_err (putE_arg hP hc (index := index) (.inl (by omega))) (by decide)
          rw [p1, p2]
          exact exit_plain rfl rfl
        have i1 := h
        ((first | (with_reducible refine split_dec (fun h => ?_) (fun h => ?_)) | (with_reducible refine split_beq (fun h => ?_) (fun h => ?_)) | (with_reducible refine split_bne (fun h => ?_) (fun h => ?_)) | (with_reducible refine split_not (fun h => ?_) (fun h => ?_)) | (with_reducible refine split_beqS (fun h => ?_) (fun h => ?_)) | (with_reducible refine split_intro (fun h => ?_) (fun h => ?_))) <;> conv => whnf)
        · obtain ⟨p1, p2⟩ := put_err (putE_arg hP hc (index := index) (.inr h)) (by decide)
          rw [p1, p2]
          exact exit_plain rfl rfl
        have hi : ¬ (index ≤ lastX l l.length ∨ 1099511627776 < index) := by omega
        ((try ((refine Exists.intro none ?_); (conv => whnf))); first | ((with_reducible refine call_by (c_ClonePends l hml') ?_); conv => whnf))
        (refine Exists.intro _ (And.intro rfl (And.intro (by intro q hq; first | (cases hq; done) | (simp only [List.mem_cons, List.not_mem_nil, or_false] at hq; rcases hq with rfl | rfl <;> (simp only [List.length_cons, List.length_nil]; omega)) | (simp only [List.mem_cons, List.not_mem_nil, or_false] at hq; subst hq; simp only [List.length_cons, List.length_nil]; omega)) (And.intro (by intro i hi; simp only [List.length_cons, List.length_nil, Nat.lt_one_iff, Nat.zero_add] at hi; subst hi; rfl) ?_))); conv => whnf)
        ((refine Exists.intro (some ([(1000000, 4)], [(1000000, 672)], [])) ?_); (conv => whnf); first | ((with_reducible refine callE_by (c_DeleteFunc l hl 203 c (fun x => x.call.client == c.client) (c_Put1 c)) ?_); conv => whnf))
        ((first | (with_reducible refine split_dec (fun h => ?_) (fun h => ?_)) | (with_reducible refine split_beq (fun h => ?_) (fun h => ?_)) | (with_reducible refine split_bne (fun h => ?_) (fun h => ?_)) | (with_reducible refine split_not (fun h => ?_) (fun h => ?_)) | (with_reducible refine split_beqS (fun h => ?_) (fun h => ?_)) | (with_reducible refine split_intro (fun h => ?_) (fun h => ?_))) <;> conv => whnf)
        · have h4 : 4 ≤ (keptL l c).length := by
            simp only [List.length_map] at h
            unfold keptL; omega
          obtain ⟨p1, p2⟩ := put_err (putE_full hP hc hi h4) (by decide)
          rw [p1, p2]
          exact exit_plain rfl rfl
        have h4 : ¬ 4 ≤ (keptL l c).length := by
          simp only [List.length_map] at h
          unfold keptL; omega
        obtain ⟨p1, p2⟩ := put_ok (putE_ok hP hc hi h4)
        rw [p1, p2]
        have nb : (List.map Pd.enc (List.filter (fun x => !x.call.client == c.client) l)).length ≤ 4294967 := by
          rw [List.length_map]; exact Nat.le_trans (List.length_filter_le _ _) hl
        (refine And.intro rfl ?_; (conv => whnf); refine And.intro (And.intro (And.intro (by kernel_rfl) (And.intro (by simp) (And.intro (small (by simp only [List.length_cons, List.length_nil]; omega) (by kernel_rfl)) (And.intro (smallM (by simp only [List.length_cons, List.length_nil]; omega)) (by intro r hr; rw [List.mem_singleton.1 hr]; rfl))))) (And.intro (by decide) rfl)) ?_; conv => whnf)
        refine exit_own [(0, 848)] rfl ⟨?_, True.intro⟩ (wkV_tu ⟨wkV_ow rfl rfl ?_, wkV_same _ rfl, rfl⟩)
        · refine obj_eq (by kernel_rfl) ?_
          rw [List.take_append_of_le_length (by simp), List.take_of_length_le (by simp), List.map_append]; rfl
        · simp only [List.map_append, List.length_append]; rfl)
    · have hr := c_sRight c
      refine spec_of_body mixed Try.func113 rfl (by kernel_rfl) (by kernel_rfl) ?_; conv => whnf
      ((try ((refine Exists.intro none ?_); (conv => whnf))); first | ((with_reducible refine call_by (hck) ?_); conv => whnf))
      ((try ((refine Exists.intro none ?_); (conv => whnf))); first | ((with_reducible refine call_by (hr) ?_); conv => whnf))
      ((first | (with_reducible refine split_dec (fun h => ?_) (fun h => ?_)) | (with_reducible refine split_beq (fun h => ?_) (fun h => ?_)) | (with_reducible refine split_bne (fun h => ?_) (fun h => ?_)) | (with_reducible refine split_not (fun h => ?_) (fun h => ?_)) | (with_reducible refine split_beqS (fun h => ?_) (fun h => ?_)) | (with_reducible refine split_intro (fun h => ?_) (fun h => ?_))) <;> conv => whnf)
      all_goals first
        | (have h0 : 0 < l.length := by simp only [List.length_map] at h; omega
           have hlt1 : l.length - 1 < l.length := by omega
           have ew : IntKind.i64.wrap (((l.map Pd.enc).length : Int) - 1) = ((l.length - 1 : Nat) : Int) := by rw [List.length_map, wrap_id (by omega) (by omega)]; omega
           rw [ew]
           refine ⟨by omega, _, row_at hlt1, ?_⟩
           conv => whnf)
        | skip
      all_goals (
        ((first | (first | (with_reducible refine split_dt (by assumption) ?_) | (with_reducible refine split_df (by assumption) ?_) | (with_reducible refine split_et (by assumption) ?_) | (with_reducible refine split_ef (by assumption) ?_) | (with_reducible refine split_bt (by assumption) ?_) | (with_reducible refine split_bf (by assumption) ?_) | (with_reducible refine split_nt (by assumption) ?_) | (with_reducible refine split_nf (by assumption) ?_) | (with_reducible refine split_t (by assumption) ?_) | (with_reducible refine split_f (by assumption) ?_)) | (first | (with_reducible refine split_dec (fun h => ?_) (fun h => ?_)) | (with_reducible refine split_beq (fun h => ?_) (fun h => ?_)) | (with_reducible refine split_bne (fun h => ?_) (fun h => ?_)) | (with_reducible refine split_not (fun h => ?_) (fun h => ?_)) | (with_reducible refine split_beqS (fun h => ?_) (fun h => ?_)) | (with_reducible refine split_intro (fun h => ?_) (fun h => ?_)))) <;> conv => whnf)
        obtain ⟨p1, p2⟩ := put_err (putE_call hP hc (index := index)) hc
        rw [p1, p2]
        ((first | (first | (with_reducible refine split_dt (by assumption) ?_) | (with_reducible refine split_df (by assumption) ?_) | (with_reducible refine split_et (by assumption) ?_) | (with_reducible refine split_ef (by assumption) ?_) | (with_reducible refine split_bt (by assumption) ?_) | (with_reducible refine split_bf (by assumption) ?_) | (with_reducible refine split_nt (by assumption) ?_) | (with_reducible refine split_nf (by assumption) ?_) | (with_reducible refine split_t (by assumption) ?_) | (with_reducible refine split_f (by assumption) ?_)) | (first | (with_reducible refine split_dec (fun h => ?_) (fun h => ?_)) | (with_reducible refine split_beq (fun h => ?_) (fun h => ?_)) | (with_reducible refine split_bne (fun h => ?_) (fun h => ?_)) | (with_reducible refine split_not (fun h => ?_) (fun h => ?_)) | (with_reducible refine split_beqS (fun h => ?_) (fun h => ?_)) | (with_reducible refine split_intro (fun h => ?_) (fun h => ?_)))) <;> conv => whnf)
        exact exit_plain rfl rfl)
  · rw [dec_false hP] at hck
    simp only [Bool.false_eq_true, if_false] at hck
    obtain ⟨p1, p2⟩ := put_err (putE_bad hP (c := c) (index := index)) (by decide)
    rw [p1, p2]
    refine spec_of_body mixed Try.func113 rfl (by kernel_rfl) (by kernel_rfl) ?_; conv => whnf
    ((try ((refine Exists.intro none ?_); (conv => whnf))); first | ((with_reducible refine call_by (hck) ?_); conv => whnf))
    ((first | (with_reducible refine split_dec (fun h => ?_) (fun h => ?_)) | (with_reducible refine split_beq (fun h => ?_) (fun h => ?_)) | (with_reducible refine split_bne (fun h => ?_) (fun h => ?_)) | (with_reducible refine split_not (fun h => ?_) (fun h => ?_)) | (with_reducible refine split_beqS (fun h => ?_) (fun h => ?_)) | (with_reducible refine split_intro (fun h => ?_) (fun h => ?_))) <;> conv => whnf)
    all_goals first
      | (have h0 : 0 < l.length := by simp only [List.length_map] at h; omega
         have hlt1 : l.length - 1 < l.length := by omega
         have ew : IntKind.i64.wrap (((l.map Pd.enc).length : Int) - 1) = ((l.length - 1 : Nat) : Int) := by rw [List.length_map, wrap_id (by omega) (by omega)]; omega
         rw [ew]
         refine ⟨by omega, _, row_at hlt1, ?_⟩
         conv => whnf)
      | skip
    all_goals exact exit_plain rfl rfl
end Go.Proofs

/- Contracts of functions: one more call that waits (the reference's); the wake. -/
namespace Go.Proofs
open Go.Pv
set_option maxRecDepth 100000

abbrev cliF (c : VCall) (x : Pd) : Bool := x.call.client == c.client
theorem keepL_all (f : Pd → Bool) (l : List Pd) : keepL f l l.length = l.filter fun x => !f x := by simp [keepL]

set_option maxHeartbeats 4000000 in
theorem c_rPut (l : List Pd) (hl : l.length ≤ 4294967) (c : VCall) (index : Int) : Ctr Try.prog 114 [.sl 11 (l.map Pd.enc), .ag c.enc, iv index] (putV l c index) (putO l c index) := by
  have hml : l.length ≤ maxLen := smallM (by omega)
  have hck := c_rPends l hml
  have hr := c_rCall c
  by_cases hP : PendsP l
  · rw [dec_true hP] at hck
    refine spec_of_body mixed Try.func114 rfl (by kernel_rfl) (by kernel_rfl) ?_; conv => whnf
    ((try ((refine Exists.intro none ?_); (conv => whnf))); first | ((with_reducible refine call_by (hck) ?_); conv => whnf))
    ((try ((refine Exists.intro none ?_); (conv => whnf))); first | ((with_reducible refine call_by (hr) ?_); conv => whnf))
    ((first | (with_reducible refine split_dec (fun h => ?_) (fun h => ?_)) | (with_reducible refine split_beq (fun h => ?_) (fun h => ?_)) | (with_reducible refine split_bne (fun h => ?_) (fun h => ?_)) | (with_reducible refine split_not (fun h => ?_) (fun h => ?_)) | (with_reducible refine split_beqS (fun h => ?_) (fun h => ?_)) | (with_reducible refine split_intro (fun h => ?_) (fun h => ?_))) <;> conv => whnf)
    · have hc : ¬ callR c = 0 := h
      obtain ⟨p1, p2⟩ := put_err (putE_call hP hc (index := index)) hc
      rw [p1, p2]
      exact exit_plain rfl rfl
    have hc : callR c = 0 := by first | exact h | exact Classical.byContradiction h
    have hpos : 0 ≤ lastX l l.length := by
      by_cases h0 : 0 < l.length
      · rw [lastX_last h0]; have := (hP.each _ (List.getElem_mem (show l.length - 1 < l.length by omega))).1; omega
      · rw [lastX_nil (by omega)]; omega
    ((try ((refine Exists.intro none ?_); (conv => whnf))); first | ((with_reducible refine call_by (c_within19 _ _ _) ?_); conv => whnf))
    ((first | (with_reducible refine split_dec (fun h => ?_) (fun h => ?_)) | (with_reducible refine split_beq (fun h => ?_) (fun h => ?_)) | (with_reducible refine split_bne (fun h => ?_) (fun h => ?_)) | (with_reducible refine split_not (fun h => ?_) (fun h => ?_)) | (with_reducible refine split_beqS (fun h => ?_) (fun h => ?_)) | (with_reducible refine split_intro (fun h => ?_) (fun h => ?_))) <;> conv => whnf)
    · have h := of_decide_eq_false h
      obtain ⟨p1, p2⟩ := put_err (putE_arg hP hc (index := index) (by omega)) (by decide)
      rw [p1, p2]
      exact exit_plain rfl rfl
    have hw := of_decide_eq_true h
    have main : ¬ (index ≤ lastX l l.length ∨ 1099511627776 < index) → True := fun _ => trivial
    clear main
    ((first | (with_reducible refine split_dec (fun h => ?_) (fun h => ?_)) | (with_reducible refine split_beq (fun h => ?_) (fun h => ?_)) | (with_reducible refine split_bne (fun h => ?_) (fun h => ?_)) | (with_reducible refine split_not (fun h => ?_) (fun h => ?_)) | (with_reducible refine split_beqS (fun h => ?_) (fun h => ?_)) | (with_reducible refine split_intro (fun h => ?_) (fun h => ?_))) <;> conv => whnf)
    all_goals first
      | (have h0 : 0 < l.length := by simp only [List.length_map] at h; omega
         have hlt1 : l.length - 1 < l.length := by omega
         have ew : IntKind.i64.wrap (((l.map Pd.enc).length : Int) - 1) = ((l.length - 1 : Nat) : Int) := by rw [List.length_map, wrap_id (by omega) (by omega)]; omega
         rw [ew]
         refine ⟨by omega, _, row_at hlt1, ?_⟩
         conv => whnf
         ((first | (with_reducible refine split_dec (fun h => ?_) (fun h => ?_)) | (with_reducible refine split_beq (fun h => ?_) (fun h => ?_)) | (with_reducible refine split_bne (fun h => ?_) (fun h => ?_)) | (with_reducible refine split_not (fun h => ?_) (fun h => ?_)) | (with_reducible refine split_beqS (fun h => ?_) (fun h => ?_)) | (with_reducible refine split_intro (fun h => ?_) (fun h => ?_))) <;> conv => whnf)
         · have h : index ≤ (l[l.length - 1]'hlt1).index := h
           rw [← lastX_last h0] at h
           obtain ⟨p1, p2⟩ := put_err (putE_arg hP hc (index := index) (.inl h)) (by decide)
           rw [p1, p2]
           exact exit_plain rfl rfl
         have h : ¬ index ≤ (l[l.length - 1]'hlt1).index := h
         rw [← lastX_last h0] at h
         have hi : ¬ (index ≤ lastX l l.length ∨ 1099511627776 < index) := by omega)
      | (have h0 : l.length = 0 := by simp only [List.length_map] at h; omega
         have hi : ¬ (index ≤ lastX l l.length ∨ 1099511627776 < index) := by rw [lastX_nil h0]; omega)
    all_goals (refine tri_nil 9 1000 11 rfl rfl ?_)
    all_goals (conv => whnf)
    all_goals (refine tri_forO mixed (by kernel_rfl) (fun i : Nat => i ≤ l.length) (fun i => [(10, iv i), (9, .ow 1000 0 ((keepL (cliF c) l i).map Pd.enc).length)]) (fun _ => [(4, c.enc)]) (fun i => [(1000, some (false, 11, (keepL (cliF c) l i).map Pd.enc))]) [(1000, 1000)] (fun i => l.length - i) 0 (Nat.zero_le _) ?_ ?_)
    all_goals first
      | (conv => whnf
         (refine And.intro (And.intro (by with_unfolding_all rfl) (by intro q h; cases h)) ?_; refine And.intro ?_ (And.intro ?_ ?_) <;> (conv => whnf) <;> (repeat' (first | exact True.intro | (with_reducible exact rfl) | exact (rfl : List.replicate 0 PV.bad = []) | ((with_reducible refine And.intro ?_ ?_) <;> (first | (with_reducible exact wkV_same _ rfl) | exact wkV_pt rfl rfl | exact wkV_ow rfl rfl rfl | (refine wkV_ow rfl rfl ?_) | (refine wkV_sc (congrArg (Value.int .i64) ?_)) | (refine wkV_sc (congrArg Value.bool ?_)) | exact wkV_ls rfl | ((refine wkV_cl ?_); conv => whnf) | ((refine wkV_tu ?_); conv => whnf) | ((refine wkV_ag ?_); conv => whnf) | (conv => whnf))))))
         all_goals rfl)
      | skip
    all_goals (
      intro i hi'
      conv => whnf
      ((first | (with_reducible refine split_dec (fun h => ?_) (fun h => ?_)) | (with_reducible refine split_beq (fun h => ?_) (fun h => ?_)) | (with_reducible refine split_bne (fun h => ?_) (fun h => ?_)) | (with_reducible refine split_not (fun h => ?_) (fun h => ?_)) | (with_reducible refine split_beqS (fun h => ?_) (fun h => ?_)) | (with_reducible refine split_intro (fun h => ?_) (fun h => ?_))) <;> conv => whnf)
      · simp only [List.length_map] at h
        have hlt : i < l.length := by omega
        have ks := keepL_succ (f := cliF c) hlt
        have kn : ((keepL (cliF c) l i).map Pd.enc).length ≤ 4294967 := by rw [List.length_map]; exact Nat.le_trans (keepL_len _ _ _ (by omega)) (by omega)
        (first | ((with_reducible refine And.intro (by omega) (Exists.intro _ (And.intro (row_at hlt) ?_))); conv => whnf))
        ((first | (with_reducible refine split_dec (fun h => ?_) (fun h => ?_)) | (with_reducible refine split_beq (fun h => ?_) (fun h => ?_)) | (with_reducible refine split_bne (fun h => ?_) (fun h => ?_)) | (with_reducible refine split_not (fun h => ?_) (fun h => ?_)) | (with_reducible refine split_beqS (fun h => ?_) (fun h => ?_)) | (with_reducible refine split_intro (fun h => ?_) (fun h => ?_))) <;> conv => whnf)
        · have ef : cliF c (l[i]'hlt) = false := by simpa [cliF] using h
          rw [ef] at ks
          simp only [Bool.false_eq_true, if_false] at ks
          (first | ((with_reducible refine And.intro (by omega) (Exists.intro _ (And.intro (row_at hlt) ?_))); conv => whnf))
          (refine And.intro rfl ?_; (conv => whnf); refine And.intro (And.intro (And.intro (by kernel_rfl) (And.intro (by simp) (And.intro (small (by simp only [List.length_cons, List.length_nil]; omega) (by kernel_rfl)) (And.intro (smallM (by simp only [List.length_cons, List.length_nil]; omega)) (by intro r hr; rw [List.mem_singleton.1 hr]; rfl))))) (And.intro (by decide) rfl)) ?_; conv => whnf)
          refine ⟨i + 1, [(1000, 944)], ⟨by omega, by omega⟩, ?_⟩
          rw [ks]
          conv => whnf
          (refine And.intro (And.intro (by with_unfolding_all rfl) (by intro q h; cases h)) ?_; refine And.intro ?_ (And.intro ?_ ?_) <;> (conv => whnf) <;> (repeat' (first | exact True.intro | (with_reducible exact rfl) | exact (rfl : List.replicate 0 PV.bad = []) | ((with_reducible refine And.intro ?_ ?_) <;> (first | (with_reducible exact wkV_same _ rfl) | exact wkV_pt rfl rfl | exact wkV_ow rfl rfl rfl | (refine wkV_ow rfl rfl ?_) | (refine wkV_sc (congrArg (Value.int .i64) ?_)) | (refine wkV_sc (congrArg Value.bool ?_)) | exact wkV_ls rfl | ((refine wkV_cl ?_); conv => whnf) | ((refine wkV_tu ?_); conv => whnf) | ((refine wkV_ag ?_); conv => whnf) | (conv => whnf))))))
          all_goals first | exact w1 (by omega) | (refine obj_eq (by kernel_rfl) ?_; exact app1_map rfl _ rfl) | (simp only [List.map_append, List.length_append]; rfl) | rfl
        · have ef : cliF c (l[i]'hlt) = true := by simpa [cliF] using h
          rw [ef] at ks
          simp only [if_true, List.append_nil] at ks
          refine ⟨i + 1, [(1000, 1000)], ⟨by omega, by omega⟩, ?_⟩
          rw [ks]
          conv => whnf
          (refine And.intro (And.intro (by with_unfolding_all rfl) (by intro q h; cases h)) ?_; refine And.intro ?_ (And.intro ?_ ?_) <;> (conv => whnf) <;> (repeat' (first | exact True.intro | (with_reducible exact rfl) | exact (rfl : List.replicate 0 PV.bad = []) | ((with_reducible refine And.intro ?_ ?_) <;> (first | (with_reducible exact wkV_same _ rfl) | exact wkV_pt rfl rfl | exact wkV_ow rfl rfl rfl | (refine wkV_ow rfl rfl ?_) | (refine wkV_sc (congrArg (Value.int .i64) ?_)) | (refine wkV_sc (congrArg Value.bool ?_)) | exact wkV_ls rfl | ((refine wkV_cl ?_); conv => whnf) | ((refine wkV_tu ?_); conv => whnf) | ((refine wkV_ag ?_); conv => whnf) | (conv => whnf))))))
          all_goals first | exact w1 (by omega) | rfl
      · simp only [List.length_map] at h
        have : i = l.length := by omega
        subst this
        have ek : keepL (cliF c) l l.length = keptL l c := keepL_all _ _
        rw [ek]
        ((first | (with_reducible refine split_dec (fun h => ?_) (fun h => ?_)) | (with_reducible refine split_beq (fun h => ?_) (fun h => ?_)) | (with_reducible refine split_bne (fun h => ?_) (fun h => ?_)) | (with_reducible refine split_not (fun h => ?_) (fun h => ?_)) | (with_reducible refine split_beqS (fun h => ?_) (fun h => ?_)) | (with_reducible refine split_intro (fun h => ?_) (fun h => ?_))) <;> conv => whnf)
        · have h4 : 4 ≤ (keptL l c).length := by
            simp only [List.length_map] at h
            omega
          obtain ⟨p1, p2⟩ := put_err (putE_full hP hc hi h4) (by decide)
          rw [p1, p2]
          exact exit_plain rfl rfl
        have h4 : ¬ 4 ≤ (keptL l c).length := by
          simp only [List.length_map] at h
          omega
        obtain ⟨p1, p2⟩ := put_ok (putE_ok hP hc hi h4)
        rw [p1, p2]
        have nb : (List.map Pd.enc (keptL l c)).length ≤ 4294967 := by
          rw [List.length_map]; exact Nat.le_trans (List.length_filter_le _ _) hl
        (refine And.intro rfl ?_; (conv => whnf); refine And.intro (And.intro (And.intro (by kernel_rfl) (And.intro (by simp) (And.intro (small (by simp only [List.length_cons, List.length_nil]; omega) (by kernel_rfl)) (And.intro (smallM (by simp only [List.length_cons, List.length_nil]; omega)) (by intro r hr; rw [List.mem_singleton.1 hr]; rfl))))) (And.intro (by decide) rfl)) ?_; conv => whnf)
        refine exit_own [(0, 1088)] rfl ⟨?_, True.intro⟩ (wkV_tu ⟨wkV_ow rfl rfl ?_, wkV_same _ rfl, rfl⟩)
        · refine obj_eq (by kernel_rfl) ?_
          exact app1_map rfl _ rfl
        · simp only [List.map_append, List.length_append]; rfl)
  · rw [dec_false hP] at hck
    obtain ⟨p1, p2⟩ := put_err (putE_bad hP (c := c) (index := index)) (by decide)
    rw [p1, p2]
    refine spec_of_body mixed Try.func114 rfl (by kernel_rfl) (by kernel_rfl) ?_; conv => whnf
    ((try ((refine Exists.intro none ?_); (conv => whnf))); first | ((with_reducible refine call_by (hck) ?_); conv => whnf))
    exact exit_plain rfl rfl
end Go.Proofs

/- Contracts of functions: the gate's wake. -/
namespace Go.Proofs
open Go.Pv
set_option maxRecDepth 100000

abbrev wC : VCall := ⟨1, 1, ⟨3, ⟨#[97]⟩, vz, vz⟩⟩
theorem checkV_vz : checkV vz = 0 := by
  have := (zeroV_iff vz).1 (by simp [zeroV])
  exact this.2
theorem callR_wC : callR wC = 0 := by
  have hz : zeroV vz = true := by simp [zeroV]
  have hs : (ByteArray.mk #[97]).size = 1 := rfl
  unfold callR
  rw [if_neg (by decide)]
  unfold cmdR
  rw [if_neg (by decide), if_neg (by rw [hs]; decide), if_neg (by rw [hs, checkV_vz, hz]; decide), if_pos (by decide), hz]
  rfl
theorem pendsP_nil : PendsP [] := ⟨by simp, by simp, fun i j hi => absurd hi (by simp), fun i j hi => absurd hi (by simp)⟩
theorem putE_w : putE [] wC 5 = 0 := putE_ok pendsP_nil callR_wC (by rw [lastX_nil rfl]; omega) (by simp [keptL])

theorem c_wakes21 : Ctr Try.prog 107 [] (bv true) [] := by
  have h1 := c_gPut [] (by simp) wC 5
  obtain ⟨p1, p2⟩ := put_ok putE_w
  rw [p1, p2] at h1
  have h2 := c_Take (putL [] wC 5) (by simp [keptL]) 5 ⟨0, 1, wC, cz⟩
  refine spec_of_body mixed Try.func107 rfl (by kernel_rfl) (by kernel_rfl) ?_; conv => whnf
  ((try ((refine Exists.intro none ?_); (conv => whnf))); refine call_deep (h1) (by (repeat' (first | exact subVL_nil | exact subVR_nil | refine subVL_cons ?_ ?_ | refine subVR_cons ?_ ?_ | exact SubV.refl _ | exact subV_nl | (with_reducible exact subV_tk rfl) | refine subV_ag ?_ | refine subV_sl ?_ | refine subV_ep ?_))) ?_; conv => whnf)
  (refine Exists.intro _ (And.intro rfl (And.intro (by intro q hq; first | (cases hq; done) | (simp only [List.mem_cons, List.not_mem_nil, or_false] at hq; rcases hq with rfl | rfl <;> (simp only [List.length_cons, List.length_nil]; omega)) | (simp only [List.mem_cons, List.not_mem_nil, or_false] at hq; subst hq; simp only [List.length_cons, List.length_nil]; omega)) (And.intro (by intro i hi; simp only [List.length_cons, List.length_nil, Nat.lt_one_iff, Nat.zero_add] at hi; subst hi; rfl) ?_))); conv => whnf)
  ((try ((refine Exists.intro none ?_); (conv => whnf))); (first | (with_reducible refine And.intro (Nat.le_of_eq (Nat.zero_add _)) ?_) | (refine And.intro (by simp only [List.length_map, List.length_set, Nat.zero_add]; omega) ?_)); conv => whnf)
  ((try ((refine Exists.intro none ?_); (conv => whnf))); first | (refine call_eq (h2) (by simp only [List.drop_zero, List.take_length]) ?_; conv => whnf))
  (refine Exists.intro _ (And.intro rfl (And.intro (by intro q hq; first | (cases hq; done) | (simp only [List.mem_cons, List.not_mem_nil, or_false] at hq; rcases hq with rfl | rfl <;> (simp only [List.length_cons, List.length_nil]; omega)) | (simp only [List.mem_cons, List.not_mem_nil, or_false] at hq; subst hq; simp only [List.length_cons, List.length_nil]; omega)) (And.intro (by intro i hi; simp only [List.length_cons, List.length_nil, Nat.lt_one_iff, Nat.zero_add] at hi; subst hi; rfl) ?_))); conv => whnf)
  exact exit_plain rfl rfl
end Go.Proofs
