/- Contracts of functions: a witness; a machine. -/
import Derived.Test.YtnphfgphajejaaaC63
set_option linter.unusedSimpArgs false
set_option linter.unusedVariables false
namespace Go.Proofs
open Go.Pv
set_option maxRecDepth 100000

/-- The first that is so; else -1. -/
def firstE {α : Type} (f : α → Bool) (l : List α) : Int := match l.findIdx? f with
  | some i => i
  | none => -1

theorem c_IndexFuncE (l : List Ent) (hm : l.length ≤ maxLen) (g : Nat) (p : List PV) (f : Ent → Bool) (hg : ∀ x, Ctr Try.prog g [.ag (Ent.enc x), .ep p] (bv (f x)) []) : Ctr Try.prog 231 [.sl 16 (l.map Ent.enc), .cl g [.ep p]] (iv (firstE f l)) [] := by
  have hm' : l.length ≤ 9223372036854775807 := Nat.le_trans hm (by decide)
  refine spec_of_body mixed Try.func231 rfl (by kernel_rfl) (by kernel_rfl) ?_; conv => whnf
  refine tri_for0 mixed (by kernel_rfl) (fun i : Nat => i ≤ l.length ∧ ∀ j (hj : j < l.length), j < i → f (l[j]'hj) = false) (fun i => [(8, iv i)]) [] (fun i => l.length - i) 0 ⟨Nat.zero_le _, fun j _ h => absurd h (Nat.not_lt_zero _)⟩ ?_ ?_
  · conv => whnf
    (refine And.intro (And.intro (by with_unfolding_all rfl) (by intro q h; cases h)) ?_; refine And.intro ?_ (And.intro ?_ ?_) <;> (conv => whnf) <;> (repeat' (first | exact True.intro | (with_reducible exact rfl) | exact (rfl : List.replicate 0 PV.bad = []) | ((with_reducible refine And.intro ?_ ?_) <;> (first | (with_reducible exact wkV_same _ rfl) | exact wkV_pt rfl rfl | exact wkV_ow rfl rfl rfl | (refine wkV_ow rfl rfl ?_) | (refine wkV_sc (congrArg (Value.int .i64) ?_)) | (refine wkV_sc (congrArg Value.bool ?_)) | exact wkV_ls rfl | ((refine wkV_cl ?_); conv => whnf) | ((refine wkV_tu ?_); conv => whnf) | ((refine wkV_ag ?_); conv => whnf) | (conv => whnf))))))
    all_goals rfl
  rintro i ⟨hi, hp⟩
  conv => whnf
  ((first | (with_reducible refine split_dec (fun h => ?_) (fun h => ?_)) | (with_reducible refine split_beq (fun h => ?_) (fun h => ?_)) | (with_reducible refine split_bne (fun h => ?_) (fun h => ?_)) | (with_reducible refine split_not (fun h => ?_) (fun h => ?_)) | (with_reducible refine split_beqS (fun h => ?_) (fun h => ?_)) | (with_reducible refine split_intro (fun h => ?_) (fun h => ?_))) <;> conv => whnf)
  · simp only [List.length_map] at h
    have hlt : i < l.length := by omega
    (first | ((with_reducible refine And.intro (by omega) (Exists.intro _ (And.intro (row_at hlt) ?_))); conv => whnf))
    have hc := hg (l[i]'hlt)
    ((try ((refine Exists.intro none ?_); (conv => whnf))); first | ((with_reducible refine call_by (hc) ?_); conv => whnf))
    ((first | (with_reducible refine split_dec (fun h => ?_) (fun h => ?_)) | (with_reducible refine split_beq (fun h => ?_) (fun h => ?_)) | (with_reducible refine split_bne (fun h => ?_) (fun h => ?_)) | (with_reducible refine split_not (fun h => ?_) (fun h => ?_)) | (with_reducible refine split_beqS (fun h => ?_) (fun h => ?_)) | (with_reducible refine split_intro (fun h => ?_) (fun h => ?_))) <;> conv => whnf)
    · refine exit_plain rfl (congrArg (fun n : Int => iv n) ?_)
      have : l.findIdx? f = some i := by
        rw [List.findIdx?_eq_some_iff_getElem]
        exact ⟨hlt, h, fun j hj => by rw [hp j (by omega) hj]; simp⟩
      unfold firstE; rw [this]
    · refine ⟨i + 1, ⟨⟨by omega, ?_⟩, by omega⟩, ?_⟩
      · intro j hj hji
        by_cases e : j = i
        · subst e; exact h
        · exact hp j hj (by omega)
      · conv => whnf
        (refine And.intro (And.intro (by with_unfolding_all rfl) (by intro q h; cases h)) ?_; refine And.intro ?_ (And.intro ?_ ?_) <;> (conv => whnf) <;> (repeat' (first | exact True.intro | (with_reducible exact rfl) | exact (rfl : List.replicate 0 PV.bad = []) | ((with_reducible refine And.intro ?_ ?_) <;> (first | (with_reducible exact wkV_same _ rfl) | exact wkV_pt rfl rfl | exact wkV_ow rfl rfl rfl | (refine wkV_ow rfl rfl ?_) | (refine wkV_sc (congrArg (Value.int .i64) ?_)) | (refine wkV_sc (congrArg Value.bool ?_)) | exact wkV_ls rfl | ((refine wkV_cl ?_); conv => whnf) | ((refine wkV_tu ?_); conv => whnf) | ((refine wkV_ag ?_); conv => whnf) | (conv => whnf))))))
        all_goals first | exact w1 (by omega) | rfl
  · simp only [List.length_map] at h
    have : i = l.length := by omega
    subst this
    refine exit_plain rfl (congrArg (fun n : Int => iv n) ?_)
    have : l.findIdx? f = none := by
      rw [List.findIdx?_eq_none_iff]
      intro x hx
      obtain ⟨j, hj, rfl⟩ := List.getElem_of_mem hx
      exact hp j hj hj
    unfold firstE; rw [this]

theorem firstE_any {α : Type} (f : α → Bool) (l : List α) : (decide (0 ≤ firstE f l)) = l.any f := by
  unfold firstE
  cases h : l.findIdx? f with
  | none =>
    rw [List.findIdx?_eq_none_iff] at h
    rw [List.any_eq_false.2 (by simpa using h)]; rfl
  | some i =>
    rw [List.findIdx?_eq_some_iff_getElem] at h
    obtain ⟨hi, h1, _⟩ := h
    rw [List.any_eq_true.2 ⟨_, List.getElem_mem hi, h1⟩]
    simp


theorem c_ContainsFuncE (l : List Ent) (hm : l.length ≤ maxLen) (g : Nat) (p : List PV) (f : Ent → Bool) (hg : ∀ x, Ctr Try.prog g [.ag (Ent.enc x), .ep p] (bv (f x)) []) : Ctr Try.prog 213 [.sl 16 (l.map Ent.enc), .cl g [.ep p]] (bv (l.any f)) [] := by
  refine spec_of_body mixed Try.func213 rfl (by kernel_rfl) (by kernel_rfl) ?_; conv => whnf
  ((try ((refine Exists.intro none ?_); (conv => whnf))); first | ((with_reducible refine call_by (c_IndexFuncE l hm g p f hg) ?_); conv => whnf))
  exact exit_plain rfl (by rw [← firstE_any])

/-! A machine's values. -/
structure Pr where
  key : ByteArray
  val : VVal
abbrev Pr.enc (x : Pr) : List PV := [sv x.key, iv x.val.kind, .sc (.float .f64 x.val.num), sv x.val.text]
def Pr.ok (x : Pr) : Prop := x.key.size ≤ maxLen ∧ x.val.ok
theorem ty_Pr {ls : List PV} (h : Ty Try.prog 203 ls) : ∃ x : Pr, ls = x.enc ∧ x.ok := by
  obtain ⟨ps, rfl, h0⟩ := ty_struct [9, 66] (by kernel_rfl) (by kernel_rfl) h
  obtain ⟨p0, ps, rfl, h1, h0⟩ := tyParts_cons h0
  obtain ⟨p1, ps, rfl, h2, h0⟩ := tyParts_cons h0
  obtain rfl := tyParts_nil h0
  obtain ⟨x0, rfl, w0⟩ := ty_s h1
  obtain ⟨x1, rfl, w1⟩ := ty_VVal h2
  exact ⟨⟨x0, x1⟩, rfl, w0, w1⟩
structure Ses where
  client : Int
  seq : Int
  code : Int
  val : VVal
abbrev Ses.enc (x : Ses) : List PV := [iv x.client, iv x.seq, iv x.code, iv x.val.kind, .sc (.float .f64 x.val.num), sv x.val.text]
def Ses.ok (x : Ses) : Prop := x.val.ok
theorem ty_en {ls : List PV} (h : Ty Try.prog 49 ls) : ∃ n : Int, ls = [iv n] := by
  obtain ⟨n, e, w⟩ := ty_int (k := .i64) (by kernel_rfl) h
  exact ⟨n, e⟩
theorem ty_Rep {ls : List PV} (h : Ty Try.prog 188 ls) : ∃ (n : Int) (x : VVal), ls = iv n :: x.enc ∧ x.ok := by
  obtain ⟨ps, rfl, h0⟩ := ty_struct [49, 66] (by kernel_rfl) (by kernel_rfl) h
  obtain ⟨p0, ps, rfl, h1, h0⟩ := tyParts_cons h0
  obtain ⟨p1, ps, rfl, h2, h0⟩ := tyParts_cons h0
  obtain rfl := tyParts_nil h0
  obtain ⟨x0, rfl⟩ := ty_en h1
  obtain ⟨x1, rfl, w1⟩ := ty_VVal h2
  exact ⟨x0, x1, rfl, w1⟩
theorem ty_Ses {ls : List PV} (h : Ty Try.prog 190 ls) : ∃ x : Ses, ls = x.enc ∧ x.ok := by
  obtain ⟨ps, rfl, h0⟩ := ty_struct [3, 3, 188] (by kernel_rfl) (by kernel_rfl) h
  obtain ⟨p0, ps, rfl, h1, h0⟩ := tyParts_cons h0
  obtain ⟨p1, ps, rfl, h2, h0⟩ := tyParts_cons h0
  obtain ⟨p2, ps, rfl, h3, h0⟩ := tyParts_cons h0
  obtain rfl := tyParts_nil h0
  obtain ⟨x0, rfl, w0⟩ := ty_i h1
  obtain ⟨x1, rfl, w1⟩ := ty_i h2
  obtain ⟨x2, x3, rfl, w2⟩ := ty_Rep h3
  exact ⟨⟨x0, x1, x2, x3⟩, rfl, w2⟩
structure Mac where
  pairs : List Pr
  sess : List Ses
abbrev Mac.enc (x : Mac) : List PV := [.sl 4 (x.pairs.map Pr.enc), .sl 6 (x.sess.map Ses.enc)]
theorem ty_Mac {ls : List PV} (h : Ty Try.prog 140 ls) : ∃ x : Mac, ls = x.enc := by
  obtain ⟨ps, rfl, h0⟩ := ty_struct [137, 138] (by kernel_rfl) (by kernel_rfl) h
  obtain ⟨p0, ps, rfl, h1, h0⟩ := tyParts_cons h0
  obtain ⟨p1, ps, rfl, h2, h0⟩ := tyParts_cons h0
  obtain rfl := tyParts_nil h0
  obtain ⟨r0, rfl, l0, e0⟩ := ty_slice (e := 203) 4 (by kernel_rfl) (by kernel_rfl) (by decide) h1
  obtain ⟨x0, rfl, f0⟩ := rows_map (f := Pr.enc) (ok := Pr.ok) fun r hr => ty_Pr (e0 r hr)
  obtain ⟨r1, rfl, l1, e1⟩ := ty_slice (e := 190) 6 (by kernel_rfl) (by kernel_rfl) (by decide) h2
  obtain ⟨x1, rfl, f1⟩ := rows_map (f := Ses.enc) (ok := Ses.ok) fun r hr => ty_Ses (e1 r hr)
  exact ⟨⟨x0, x1⟩, rfl⟩
theorem arg_Mac {p : PV} (h : ArgOf Try.prog 140 p) : ∃ x : Mac, p = .ag x.enc := by
  obtain ⟨ls, rfl, h1⟩ := argOf_agg (by kernel_rfl) h
  obtain ⟨x, rfl⟩ := ty_Mac h1
  exact ⟨x, rfl⟩

def heavyPr (x : Pr) : Bool := decide (2000 < (x.key.size : Int)) || decide (2000 < (x.val.text.size : Int))
def heavyPs (l : List Pr) : Bool := decide (200 < (l.length : Int)) || l.any heavyPr
theorem c_HeavyPairs (l : List Pr) : Ctr Try.prog 209 [.sl 4 (l.map Pr.enc)] (bv (heavyPs l)) [] := by
  refine spec_of_body mixed Try.func209 rfl (by kernel_rfl) (by kernel_rfl) ?_; conv => whnf
  ((first | (with_reducible refine split_dec (fun h => ?_) (fun h => ?_)) | (with_reducible refine split_beq (fun h => ?_) (fun h => ?_)) | (with_reducible refine split_bne (fun h => ?_) (fun h => ?_)) | (with_reducible refine split_not (fun h => ?_) (fun h => ?_)) | (with_reducible refine split_beqS (fun h => ?_) (fun h => ?_)) | (with_reducible refine split_intro (fun h => ?_) (fun h => ?_))) <;> conv => whnf)
  · exact exit_plain rfl (by simp at h; simp [heavyPs, h])
  · have hl : l.length ≤ 200 := by simp at h; omega
    refine tri_for0 mixed (by kernel_rfl) (fun i : Nat => i ≤ l.length ∧ ∀ j (hj : j < l.length), j < i → heavyPr (l[j]'hj) = false) (fun i => [(3, iv i)]) [] (fun i => l.length - i) 0 ⟨Nat.zero_le _, fun j _ h => absurd h (Nat.not_lt_zero _)⟩ ?_ ?_
    · conv => whnf
      (refine And.intro (And.intro (by with_unfolding_all rfl) (by intro q h; cases h)) ?_; refine And.intro ?_ (And.intro ?_ ?_) <;> (conv => whnf) <;> (repeat' (first | exact True.intro | (with_reducible exact rfl) | exact (rfl : List.replicate 0 PV.bad = []) | ((with_reducible refine And.intro ?_ ?_) <;> (first | (with_reducible exact wkV_same _ rfl) | exact wkV_pt rfl rfl | exact wkV_ow rfl rfl rfl | (refine wkV_ow rfl rfl ?_) | (refine wkV_sc (congrArg (Value.int .i64) ?_)) | (refine wkV_sc (congrArg Value.bool ?_)) | exact wkV_ls rfl | ((refine wkV_cl ?_); conv => whnf) | ((refine wkV_tu ?_); conv => whnf) | ((refine wkV_ag ?_); conv => whnf) | (conv => whnf))))))
      all_goals rfl
    · rintro i ⟨hi, hp⟩
      conv => whnf
      ((first | (with_reducible refine split_dec (fun h => ?_) (fun h => ?_)) | (with_reducible refine split_beq (fun h => ?_) (fun h => ?_)) | (with_reducible refine split_bne (fun h => ?_) (fun h => ?_)) | (with_reducible refine split_not (fun h => ?_) (fun h => ?_)) | (with_reducible refine split_beqS (fun h => ?_) (fun h => ?_)) | (with_reducible refine split_intro (fun h => ?_) (fun h => ?_))) <;> conv => whnf)
      · have hlt : i < l.length := by simp at h; omega
        clear h
        have stop : heavyPr (l[i]'hlt) = true → heavyPs l = true := fun hh => by
          have := any_at (p := heavyPr) hlt hh
          simp [heavyPs, this]
        (first | ((with_reducible refine And.intro (by omega) (Exists.intro _ (And.intro (row_at hlt) ?_))); conv => whnf))
        ((first | (with_reducible refine split_dec (fun h => ?_) (fun h => ?_)) | (with_reducible refine split_beq (fun h => ?_) (fun h => ?_)) | (with_reducible refine split_bne (fun h => ?_) (fun h => ?_)) | (with_reducible refine split_not (fun h => ?_) (fun h => ?_)) | (with_reducible refine split_beqS (fun h => ?_) (fun h => ?_)) | (with_reducible refine split_intro (fun h => ?_) (fun h => ?_))) <;> conv => whnf)
        · exact exit_plain rfl (by rw [stop (by simp [heavyPr, h])])
        · have h0 := h
          clear h
          (first | ((with_reducible refine And.intro (by omega) (Exists.intro _ (And.intro (row_at hlt) ?_))); conv => whnf))
          ((first | (with_reducible refine split_dec (fun h => ?_) (fun h => ?_)) | (with_reducible refine split_beq (fun h => ?_) (fun h => ?_)) | (with_reducible refine split_bne (fun h => ?_) (fun h => ?_)) | (with_reducible refine split_not (fun h => ?_) (fun h => ?_)) | (with_reducible refine split_beqS (fun h => ?_) (fun h => ?_)) | (with_reducible refine split_intro (fun h => ?_) (fun h => ?_))) <;> conv => whnf)
          · exact exit_plain rfl (by rw [stop (by simp [heavyPr, h])])
          · refine ⟨i + 1, ⟨⟨by omega, ?_⟩, by omega⟩, ?_⟩
            · intro j hj hji
              by_cases e : j = i
              · subst e; simp [heavyPr, h, h0]
              · exact hp j hj (by omega)
            · conv => whnf
              (refine And.intro (And.intro (by with_unfolding_all rfl) (by intro q h; cases h)) ?_; refine And.intro ?_ (And.intro ?_ ?_) <;> (conv => whnf) <;> (repeat' (first | exact True.intro | (with_reducible exact rfl) | exact (rfl : List.replicate 0 PV.bad = []) | ((with_reducible refine And.intro ?_ ?_) <;> (first | (with_reducible exact wkV_same _ rfl) | exact wkV_pt rfl rfl | exact wkV_ow rfl rfl rfl | (refine wkV_ow rfl rfl ?_) | (refine wkV_sc (congrArg (Value.int .i64) ?_)) | (refine wkV_sc (congrArg Value.bool ?_)) | exact wkV_ls rfl | ((refine wkV_cl ?_); conv => whnf) | ((refine wkV_tu ?_); conv => whnf) | ((refine wkV_ag ?_); conv => whnf) | (conv => whnf))))))
              exact w1 (by omega)
      · have : i = l.length := by simp at h; omega
        subst this
        refine exit_plain rfl ?_
        have := any_none (p := heavyPr) fun j hj => hp j hj hj
        simp only [heavyPs, this, Bool.or_false]
        rw [decide_eq_false (by omega)]
def heavySe (x : Ses) : Bool := decide (2000 < (x.val.text.size : Int))
def heavyMac (x : Mac) : Bool := heavyPs x.pairs || (decide (200 < (x.sess.length : Int)) || x.sess.any heavySe)
theorem c_Heavy07 (x : Mac) : Ctr Try.prog 138 [.ag x.enc] (bv (heavyMac x)) [] := by
  refine spec_of_body mixed Try.func138 rfl (by kernel_rfl) (by kernel_rfl) ?_; conv => whnf
  ((try ((refine Exists.intro none ?_); (conv => whnf))); first | ((with_reducible refine call_by (c_HeavyPairs x.pairs) ?_); conv => whnf))
  ((first | (with_reducible refine split_dec (fun h => ?_) (fun h => ?_)) | (with_reducible refine split_beq (fun h => ?_) (fun h => ?_)) | (with_reducible refine split_bne (fun h => ?_) (fun h => ?_)) | (with_reducible refine split_not (fun h => ?_) (fun h => ?_)) | (with_reducible refine split_beqS (fun h => ?_) (fun h => ?_)) | (with_reducible refine split_intro (fun h => ?_) (fun h => ?_))) <;> conv => whnf)
  · exact exit_plain rfl (by simp [heavyMac, h])
  have hp0 : heavyPs x.pairs = false := by simpa using h
  clear h
  ((first | (with_reducible refine split_dec (fun h => ?_) (fun h => ?_)) | (with_reducible refine split_beq (fun h => ?_) (fun h => ?_)) | (with_reducible refine split_bne (fun h => ?_) (fun h => ?_)) | (with_reducible refine split_not (fun h => ?_) (fun h => ?_)) | (with_reducible refine split_beqS (fun h => ?_) (fun h => ?_)) | (with_reducible refine split_intro (fun h => ?_) (fun h => ?_))) <;> conv => whnf)
  · exact exit_plain rfl (by simp at h; simp [heavyMac, h])
  · have hl : x.sess.length ≤ 200 := by simp at h; omega
    refine tri_for0 mixed (by kernel_rfl) (fun i : Nat => i ≤ x.sess.length ∧ ∀ j (hj : j < x.sess.length), j < i → heavySe (x.sess[j]'hj) = false) (fun i => [(3, iv i)]) [] (fun i => x.sess.length - i) 0 ⟨Nat.zero_le _, fun j _ h => absurd h (Nat.not_lt_zero _)⟩ ?_ ?_
    · conv => whnf
      (refine And.intro (And.intro (by with_unfolding_all rfl) (by intro q h; cases h)) ?_; refine And.intro ?_ (And.intro ?_ ?_) <;> (conv => whnf) <;> (repeat' (first | exact True.intro | (with_reducible exact rfl) | exact (rfl : List.replicate 0 PV.bad = []) | ((with_reducible refine And.intro ?_ ?_) <;> (first | (with_reducible exact wkV_same _ rfl) | exact wkV_pt rfl rfl | exact wkV_ow rfl rfl rfl | (refine wkV_ow rfl rfl ?_) | (refine wkV_sc (congrArg (Value.int .i64) ?_)) | (refine wkV_sc (congrArg Value.bool ?_)) | exact wkV_ls rfl | ((refine wkV_cl ?_); conv => whnf) | ((refine wkV_tu ?_); conv => whnf) | ((refine wkV_ag ?_); conv => whnf) | (conv => whnf))))))
      all_goals rfl
    · rintro i ⟨hi, hp⟩
      conv => whnf
      ((first | (with_reducible refine split_dec (fun h => ?_) (fun h => ?_)) | (with_reducible refine split_beq (fun h => ?_) (fun h => ?_)) | (with_reducible refine split_bne (fun h => ?_) (fun h => ?_)) | (with_reducible refine split_not (fun h => ?_) (fun h => ?_)) | (with_reducible refine split_beqS (fun h => ?_) (fun h => ?_)) | (with_reducible refine split_intro (fun h => ?_) (fun h => ?_))) <;> conv => whnf)
      · have hlt : i < x.sess.length := by simp at h; omega
        clear h
        have stop : heavySe (x.sess[i]'hlt) = true → heavyMac x = true := fun hh => by
          have := any_at (p := heavySe) hlt hh
          simp [heavyMac, this]
        (first | ((with_reducible refine And.intro (by omega) (Exists.intro _ (And.intro (row_at hlt) ?_))); conv => whnf))
        ((first | (with_reducible refine split_dec (fun h => ?_) (fun h => ?_)) | (with_reducible refine split_beq (fun h => ?_) (fun h => ?_)) | (with_reducible refine split_bne (fun h => ?_) (fun h => ?_)) | (with_reducible refine split_not (fun h => ?_) (fun h => ?_)) | (with_reducible refine split_beqS (fun h => ?_) (fun h => ?_)) | (with_reducible refine split_intro (fun h => ?_) (fun h => ?_))) <;> conv => whnf)
        · exact exit_plain rfl (by rw [stop (by simp [heavySe, h])])
        · refine ⟨i + 1, ⟨⟨by omega, ?_⟩, by omega⟩, ?_⟩
          · intro j hj hji
            by_cases e : j = i
            · subst e; simp [heavySe, h]
            · exact hp j hj (by omega)
          · conv => whnf
            (refine And.intro (And.intro (by with_unfolding_all rfl) (by intro q h; cases h)) ?_; refine And.intro ?_ (And.intro ?_ ?_) <;> (conv => whnf) <;> (repeat' (first | exact True.intro | (with_reducible exact rfl) | exact (rfl : List.replicate 0 PV.bad = []) | ((with_reducible refine And.intro ?_ ?_) <;> (first | (with_reducible exact wkV_same _ rfl) | exact wkV_pt rfl rfl | exact wkV_ow rfl rfl rfl | (refine wkV_ow rfl rfl ?_) | (refine wkV_sc (congrArg (Value.int .i64) ?_)) | (refine wkV_sc (congrArg Value.bool ?_)) | exact wkV_ls rfl | ((refine wkV_cl ?_); conv => whnf) | ((refine wkV_tu ?_); conv => whnf) | ((refine wkV_ag ?_); conv => whnf) | (conv => whnf))))))
            exact w1 (by omega)
      · have : i = x.sess.length := by simp at h; omega
        subst this
        refine exit_plain rfl ?_
        have := any_none (p := heavySe) fun j hj => hp j hj hj
        simp only [heavyMac, hp0, this, Bool.or_false, Bool.false_or]
        rw [decide_eq_false (by omega)]

/-! A witness. -/
def witX (r : Rft) (x : Ent) : Bool := x.kind == 1 && x.term == r.hard.term
theorem c_Wit1 (r : Rft) (x : Ent) : Ctr Try.prog 214 [.ag x.enc, .ep r.enc] (bv (witX r x)) [] := by
  refine spec_of_body mixed Try.func214 rfl (by kernel_rfl) (by kernel_rfl) ?_; conv => whnf
  repeat' ((first | (with_reducible refine split_dec (fun h => ?_) (fun h => ?_)) | (with_reducible refine split_beq (fun h => ?_) (fun h => ?_)) | (with_reducible refine split_bne (fun h => ?_) (fun h => ?_)) | (with_reducible refine split_not (fun h => ?_) (fun h => ?_)) | (with_reducible refine split_beqS (fun h => ?_) (fun h => ?_)) | (with_reducible refine split_intro (fun h => ?_) (fun h => ?_))) <;> conv => whnf)
  all_goals (refine exit_plain rfl ?_; simp [witX, *])
def witB (r : Rft) (m : Mac) : Bool := decide (r.reads.length = 0) && (decide (m.pairs.length = 0) && decide (m.sess.length = 0)) && !(decide (r.role = 3) && r.hard.log.any (witX r))
theorem c_Witness (r : Rft) (s : r.small) (m : Mac) (hp : m.pairs.length ≤ 4294967) (hq : m.sess.length ≤ 4294967) (hr : r.reads.length ≤ 4294967) : Ctr Try.prog 146 [.ag r.enc, .ag m.enc] (bv (witB r m)) [] := by
  have c1 := c_ContainsFuncE r.hard.log s.len 214 r.enc (witX r) (c_Wit1 r)
  refine spec_of_body mixed Try.func146 rfl (by kernel_rfl) (by kernel_rfl) ?_; conv => whnf
  rw [show IntKind.i64.wrap (IntKind.i64.wrap (((r.reads.map Rd.enc).length : Int) + ((m.pairs.map Pr.enc).length : Int)) + ((m.sess.map Ses.enc).length : Int)) = (r.reads.length : Int) + m.pairs.length + m.sess.length from by
    rw [List.length_map, List.length_map, List.length_map, show IntKind.i64.wrap ((r.reads.length : Int) + m.pairs.length) = (r.reads.length : Int) + m.pairs.length from wrap_id (by omega) (by omega), wrap_id (by omega) (by omega)]]
  ((first | (with_reducible refine split_dec (fun h => ?_) (fun h => ?_)) | (with_reducible refine split_beq (fun h => ?_) (fun h => ?_)) | (with_reducible refine split_bne (fun h => ?_) (fun h => ?_)) | (with_reducible refine split_not (fun h => ?_) (fun h => ?_)) | (with_reducible refine split_beqS (fun h => ?_) (fun h => ?_)) | (with_reducible refine split_intro (fun h => ?_) (fun h => ?_))) <;> conv => whnf)
  · refine exit_plain rfl (congrArg bv ?_)
    by_cases h1 : r.reads.length = 0
    · by_cases h2 : m.pairs.length = 0
      · have h3 : ¬ m.sess.length = 0 := by omega
        simp [witB, h3]
      · simp [witB, h2]
    · simp [witB, h1]
  · have h1 : r.reads.length = 0 := by omega
    have h2 : m.pairs.length = 0 := by omega
    have h3 : m.sess.length = 0 := by omega
    clear h
    ((first | (with_reducible refine split_dec (fun h => ?_) (fun h => ?_)) | (with_reducible refine split_beq (fun h => ?_) (fun h => ?_)) | (with_reducible refine split_bne (fun h => ?_) (fun h => ?_)) | (with_reducible refine split_not (fun h => ?_) (fun h => ?_)) | (with_reducible refine split_beqS (fun h => ?_) (fun h => ?_)) | (with_reducible refine split_intro (fun h => ?_) (fun h => ?_))) <;> conv => whnf)
    · exact exit_plain rfl (congrArg bv (by simp [witB, h1, h2, h3, h]))
    · have h4 : r.role = 3 := by first | exact h | exact Classical.byContradiction h
      ((try ((refine Exists.intro none ?_); (conv => whnf))); first | ((with_reducible refine call_by (c1) ?_); conv => whnf))
      exact exit_plain rfl (congrArg bv (by simp [witB, h1, h2, h3, h4]))
theorem c_rWitness (r : Rft) (s : r.small) (m : Mac) (hp : m.pairs.length ≤ 4294967) (hq : m.sess.length ≤ 4294967) (hr : r.reads.length ≤ 4294967) (hl : r.hard.log.length ≤ 4294967) : Ctr Try.prog 147 [.ag r.enc, .ag m.enc] (bv (witB r m)) [] := by
  refine spec_of_body mixed Try.func147 rfl (by kernel_rfl) (by kernel_rfl) ?_; conv => whnf
  refine tri_for0 mixed (by kernel_rfl) (fun i : Nat => i ≤ r.hard.log.length ∧ (r.role = 3 → ∀ j (hj : j < r.hard.log.length), j < i → witX r (r.hard.log[j]'hj) = false)) (fun i => [(5, iv i)]) [] (fun i => r.hard.log.length - i) 0 ⟨Nat.zero_le _, fun _ j _ h => absurd h (Nat.not_lt_zero _)⟩ ?_ ?_
  · conv => whnf
    (refine And.intro (And.intro (by with_unfolding_all rfl) (by intro q h; cases h)) ?_; refine And.intro ?_ (And.intro ?_ ?_) <;> (conv => whnf) <;> (repeat' (first | exact True.intro | (with_reducible exact rfl) | exact (rfl : List.replicate 0 PV.bad = []) | ((with_reducible refine And.intro ?_ ?_) <;> (first | (with_reducible exact wkV_same _ rfl) | exact wkV_pt rfl rfl | exact wkV_ow rfl rfl rfl | (refine wkV_ow rfl rfl ?_) | (refine wkV_sc (congrArg (Value.int .i64) ?_)) | (refine wkV_sc (congrArg Value.bool ?_)) | exact wkV_ls rfl | ((refine wkV_cl ?_); conv => whnf) | ((refine wkV_tu ?_); conv => whnf) | ((refine wkV_ag ?_); conv => whnf) | (conv => whnf))))))
    all_goals rfl
  rintro i ⟨hi, hp2⟩
  conv => whnf
  ((first | (with_reducible refine split_dec (fun h => ?_) (fun h => ?_)) | (with_reducible refine split_beq (fun h => ?_) (fun h => ?_)) | (with_reducible refine split_bne (fun h => ?_) (fun h => ?_)) | (with_reducible refine split_not (fun h => ?_) (fun h => ?_)) | (with_reducible refine split_beqS (fun h => ?_) (fun h => ?_)) | (with_reducible refine split_intro (fun h => ?_) (fun h => ?_))) <;> conv => whnf)
  · simp only [List.length_map] at h
    have hlt : i < r.hard.log.length := by omega
    clear h
    have go : (r.role = 3 → witX r (r.hard.log[i]'hlt) = false) → (r.role = 3 → ∀ j (hj : j < r.hard.log.length), j < i + 1 → witX r (r.hard.log[j]'hj) = false) := fun hn h3 j hj hji => by
      by_cases e : j = i
      · subst e; exact hn h3
      · exact hp2 h3 j hj (by omega)
    ((first | (with_reducible refine split_dec (fun h => ?_) (fun h => ?_)) | (with_reducible refine split_beq (fun h => ?_) (fun h => ?_)) | (with_reducible refine split_bne (fun h => ?_) (fun h => ?_)) | (with_reducible refine split_not (fun h => ?_) (fun h => ?_)) | (with_reducible refine split_beqS (fun h => ?_) (fun h => ?_)) | (with_reducible refine split_intro (fun h => ?_) (fun h => ?_))) <;> conv => whnf)
    · have h3 := h
      clear h
      (first | ((with_reducible refine And.intro (by omega) (Exists.intro _ (And.intro (row_at hlt) ?_))); conv => whnf))
      ((first | (with_reducible refine split_dec (fun h => ?_) (fun h => ?_)) | (with_reducible refine split_beq (fun h => ?_) (fun h => ?_)) | (with_reducible refine split_bne (fun h => ?_) (fun h => ?_)) | (with_reducible refine split_not (fun h => ?_) (fun h => ?_)) | (with_reducible refine split_beqS (fun h => ?_) (fun h => ?_)) | (with_reducible refine split_intro (fun h => ?_) (fun h => ?_))) <;> conv => whnf)
      · have hk := h
        clear h
        (first | ((with_reducible refine And.intro (by omega) (Exists.intro _ (And.intro (row_at hlt) ?_))); conv => whnf))
        ((first | (with_reducible refine split_dec (fun h => ?_) (fun h => ?_)) | (with_reducible refine split_beq (fun h => ?_) (fun h => ?_)) | (with_reducible refine split_bne (fun h => ?_) (fun h => ?_)) | (with_reducible refine split_not (fun h => ?_) (fun h => ?_)) | (with_reducible refine split_beqS (fun h => ?_) (fun h => ?_)) | (with_reducible refine split_intro (fun h => ?_) (fun h => ?_))) <;> conv => whnf)
        · have hw : witX r (r.hard.log[i]'hlt) = true := by simp [witX, hk, h]
          exact exit_plain rfl (congrArg bv (by have := any_at (p := witX r) hlt hw; simp [witB, h3, this]))
        · refine ⟨i + 1, ⟨⟨by omega, go (fun _ => by simp [witX, hk, h])⟩, by omega⟩, ?_⟩
          conv => whnf
          (refine And.intro (And.intro (by with_unfolding_all rfl) (by intro q h; cases h)) ?_; refine And.intro ?_ (And.intro ?_ ?_) <;> (conv => whnf) <;> (repeat' (first | exact True.intro | (with_reducible exact rfl) | exact (rfl : List.replicate 0 PV.bad = []) | ((with_reducible refine And.intro ?_ ?_) <;> (first | (with_reducible exact wkV_same _ rfl) | exact wkV_pt rfl rfl | exact wkV_ow rfl rfl rfl | (refine wkV_ow rfl rfl ?_) | (refine wkV_sc (congrArg (Value.int .i64) ?_)) | (refine wkV_sc (congrArg Value.bool ?_)) | exact wkV_ls rfl | ((refine wkV_cl ?_); conv => whnf) | ((refine wkV_tu ?_); conv => whnf) | ((refine wkV_ag ?_); conv => whnf) | (conv => whnf))))))
          all_goals first | exact w1 (by omega) | rfl
      · refine ⟨i + 1, ⟨⟨by omega, go (fun _ => by simp [witX, h])⟩, by omega⟩, ?_⟩
        conv => whnf
        (refine And.intro (And.intro (by with_unfolding_all rfl) (by intro q h; cases h)) ?_; refine And.intro ?_ (And.intro ?_ ?_) <;> (conv => whnf) <;> (repeat' (first | exact True.intro | (with_reducible exact rfl) | exact (rfl : List.replicate 0 PV.bad = []) | ((with_reducible refine And.intro ?_ ?_) <;> (first | (with_reducible exact wkV_same _ rfl) | exact wkV_pt rfl rfl | exact wkV_ow rfl rfl rfl | (refine wkV_ow rfl rfl ?_) | (refine wkV_sc (congrArg (Value.int .i64) ?_)) | (refine wkV_sc (congrArg Value.bool ?_)) | exact wkV_ls rfl | ((refine wkV_cl ?_); conv => whnf) | ((refine wkV_tu ?_); conv => whnf) | ((refine wkV_ag ?_); conv => whnf) | (conv => whnf))))))
        all_goals first | exact w1 (by omega) | rfl
    · refine ⟨i + 1, ⟨⟨by omega, go (fun h3 => absurd h3 h)⟩, by omega⟩, ?_⟩
      conv => whnf
      (refine And.intro (And.intro (by with_unfolding_all rfl) (by intro q h; cases h)) ?_; refine And.intro ?_ (And.intro ?_ ?_) <;> (conv => whnf) <;> (repeat' (first | exact True.intro | (with_reducible exact rfl) | exact (rfl : List.replicate 0 PV.bad = []) | ((with_reducible refine And.intro ?_ ?_) <;> (first | (with_reducible exact wkV_same _ rfl) | exact wkV_pt rfl rfl | exact wkV_ow rfl rfl rfl | (refine wkV_ow rfl rfl ?_) | (refine wkV_sc (congrArg (Value.int .i64) ?_)) | (refine wkV_sc (congrArg Value.bool ?_)) | exact wkV_ls rfl | ((refine wkV_cl ?_); conv => whnf) | ((refine wkV_tu ?_); conv => whnf) | ((refine wkV_ag ?_); conv => whnf) | (conv => whnf))))))
      all_goals first | exact w1 (by omega) | rfl
  · simp only [List.length_map] at h
    have ha : (decide (r.role = 3) && r.hard.log.any (witX r)) = false := by
      by_cases h3 : r.role = 3
      · rw [any_none (p := witX r) (fun j hj => hp2 h3 j hj (by omega))]; simp
      · simp [h3]
    have hw : witB r m = (decide (r.reads.length = 0) && (decide (m.pairs.length = 0) && decide (m.sess.length = 0))) := by unfold witB; rw [ha]; simp
    rw [hw]
    clear h
    repeat' ((first | (with_reducible refine split_dec (fun h => ?_) (fun h => ?_)) | (with_reducible refine split_beq (fun h => ?_) (fun h => ?_)) | (with_reducible refine split_bne (fun h => ?_) (fun h => ?_)) | (with_reducible refine split_not (fun h => ?_) (fun h => ?_)) | (with_reducible refine split_beqS (fun h => ?_) (fun h => ?_)) | (with_reducible refine split_intro (fun h => ?_) (fun h => ?_))) <;> conv => whnf)
    all_goals (simp only [List.length_map] at *; refine exit_plain rfl (congrArg bv ?_); simp_all)
    all_goals (
      cases hms : m.sess with
      | nil => rfl
      | cons a t =>
        rw [decide_eq_false (by simp), beq_eq_false_iff_ne]
        show ¬ ((t.length + 1 : Nat) : Int) = 0
        omega)
end Go.Proofs
