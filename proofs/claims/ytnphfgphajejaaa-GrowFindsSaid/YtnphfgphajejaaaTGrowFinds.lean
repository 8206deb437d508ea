import Derived.Test.YtnphfgphajejaaaC60
import Derived.Test.YtnphfgphajejaaaTLogsPuts
set_option linter.unusedSimpArgs false
set_option linter.unusedVariables false
namespace Go.Proofs
open Go.Pv
set_option maxRecDepth 100000

def eqAt (g h : Hrd) (k : Nat) : Bool := match g.log[k]?, h.log[k]? with
  | some a, some b => a.term == b.term
  | _, _ => false
theorem eqAt_some {g h : Hrd} {k : Nat} (h1 : k < g.log.length) (h2 : k < h.log.length) : eqAt g h k = ((g.log[k]'h1).term == (h.log[k]'h2).term) := by
  unfold eqAt
  rw [List.getElem?_eq_getElem h1, List.getElem?_eq_getElem h2]
def topOf (g h : Hrd) : Nat → Nat
  | 0 => 0
  | j + 1 => if eqAt g h j = true then j + 1 else topOf g h j
theorem topOf_le (g h : Hrd) : ∀ n, topOf g h n ≤ n
  | 0 => Nat.le_refl _
  | j + 1 => by
    have := topOf_le g h j
    unfold topOf
    split <;> omega
theorem topOf_ge (g h : Hrd) {j : Nat} (he : eqAt g h j = true) : ∀ n, j < n → j + 1 ≤ topOf g h n
  | 0, hn => absurd hn (Nat.not_lt_zero j)
  | n + 1, hn => by
    unfold topOf
    by_cases e : j = n
    · subst e; rw [if_pos he]; exact Nat.le_refl _
    · have := topOf_ge g h he n (by omega)
      split <;> omega
def mtchB (g h : Hrd) : Bool := (List.range (topOf g h (min g.log.length h.log.length))).all (eqAt g h)
theorem mtchB_t {g h : Hrd} (k : ∀ j, j < topOf g h (min g.log.length h.log.length) → eqAt g h j = true) : mtchB g h = true := by
  unfold mtchB
  rw [List.all_eq_true]
  exact fun j hj => k j (List.mem_range.1 hj)
theorem mtchB_f {g h : Hrd} {j : Nat} (hj : j < topOf g h (min g.log.length h.log.length)) (he : eqAt g h j = false) : mtchB g h = false := by
  cases hm : mtchB g h with
  | false => rfl
  | true =>
    unfold mtchB at hm
    rw [List.all_eq_true] at hm
    rw [hm j (List.mem_range.2 hj)] at he
    cases he
theorem mtchB_spec {g h : Hrd} (hm : mtchB g h = true) : ∀ (j : Nat) (a b : Ent), g.log[j]? = some a → h.log[j]? = some b → a.term = b.term → agr g h (j + 1) := by
  intro j a b ha hb hab k hk
  unfold mtchB at hm
  rw [List.all_eq_true] at hm
  have he : eqAt g h j = true := by unfold eqAt; rw [ha, hb]; simp [hab]
  have l1 := (List.getElem?_eq_some_iff.1 ha).1
  have l2 := (List.getElem?_eq_some_iff.1 hb).1
  have ht := topOf_ge g h he (min g.log.length h.log.length) (by omega)
  have hk2 := hm k (List.mem_range.2 (by omega))
  rw [eqAt_some (by omega) (by omega)] at hk2
  exact ⟨_, _, List.getElem?_eq_getElem (by omega), List.getElem?_eq_getElem (by omega), by simpa using hk2⟩

set_option maxHeartbeats 2000000 in
theorem c_match (g a : Hrd) (hg : g.log.length ≤ 4294967) (hh : a.log.length ≤ 4294967) : Ctr Try.prog 166 [.ag g.enc, .ag a.enc] (bv (mtchB g a)) [] := by
  have wN : ∀ j : Nat, j ≤ 4294967 → IntKind.i64.wrap ((j : Int) + 1 + 1) = ((j + 1 : Nat) : Int) + 1 := fun j hj => by rw [wrap_id (by omega) (by omega)]; omega
  have tt : ∀ j, eqAt g a j = true → (j : Int) + 1 = (topOf g a (j + 1) : Nat) := fun j he => by
    rw [show topOf g a (j + 1) = j + 1 from by unfold topOf; rw [if_pos he]]; omega
  have tf : ∀ j, eqAt g a j = false → (topOf g a j : Int) = (topOf g a (j + 1) : Nat) := fun j he => by
    rw [show topOf g a (j + 1) = topOf g a j from by conv => lhs; unfold topOf; rw [he, if_neg (by decide)]]
  have tl := topOf_le g a (min g.log.length a.log.length)
  have w1j : ∀ j : Nat, j ≤ 4294967 → IntKind.i64.wrap ((j : Int) + 1 - 1) = (j : Int) := fun j hj => by rw [wrap_id (by omega) (by omega)]; omega
  refine spec_of_body mixed Try.func166 rfl (by kernel_rfl) (by kernel_rfl) ?_; conv => whnf
  refine tri_for0 mixed (by kernel_rfl) (fun j : Nat => j ≤ min g.log.length a.log.length) (fun j => [(5, iv (topOf g a j : Nat)), (6, iv ((j : Int) + 1))]) [] (fun j => min g.log.length a.log.length - j) 0 (Nat.zero_le _) ?_ ?_
  · conv => whnf
    (refine And.intro (And.intro (by with_unfolding_all rfl) (by intro q h; cases h)) ?_; refine And.intro ?_ (And.intro ?_ ?_) <;> (conv => whnf) <;> (repeat' (first | exact True.intro | (with_reducible exact rfl) | exact (rfl : List.replicate 0 PV.bad = []) | ((with_reducible refine And.intro ?_ ?_) <;> (first | (with_reducible exact wkV_same _ rfl) | exact wkV_pt rfl rfl | exact wkV_ow rfl rfl rfl | (refine wkV_ow rfl rfl ?_) | (refine wkV_sc (congrArg (Value.int .i64) ?_)) | (refine wkV_sc (congrArg Value.bool ?_)) | exact wkV_ls rfl | ((refine wkV_cl ?_); conv => whnf) | ((refine wkV_tu ?_); conv => whnf) | ((refine wkV_ag ?_); conv => whnf) | (conv => whnf))))))
    all_goals rfl
  intro j hj
  conv => whnf
  by_cases hlt : j < min g.log.length a.log.length
  · have l1 : j < g.log.length := by omega
    have l2 : j < a.log.length := by omega
    ((first | (with_reducible refine split_dec (fun h => ?_) (fun h => ?_)) | (with_reducible refine split_beq (fun h => ?_) (fun h => ?_)) | (with_reducible refine split_bne (fun h => ?_) (fun h => ?_)) | (with_reducible refine split_not (fun h => ?_) (fun h => ?_)) | (with_reducible refine split_beqS (fun h => ?_) (fun h => ?_)) | (with_reducible refine split_intro (fun h => ?_) (fun h => ?_))) <;> conv => whnf)
    · clear h
      ((first | (with_reducible refine split_dec (fun h => ?_) (fun h => ?_)) | (with_reducible refine split_beq (fun h => ?_) (fun h => ?_)) | (with_reducible refine split_bne (fun h => ?_) (fun h => ?_)) | (with_reducible refine split_not (fun h => ?_) (fun h => ?_)) | (with_reducible refine split_beqS (fun h => ?_) (fun h => ?_)) | (with_reducible refine split_intro (fun h => ?_) (fun h => ?_))) <;> conv => whnf)
      · clear h
        rw [w1j j (by omega)]
        (first | ((with_reducible refine And.intro (by omega) (Exists.intro _ (And.intro (row_at l1) ?_))); conv => whnf))
        rw [w1j j (by omega)]
        (first | ((with_reducible refine And.intro (by omega) (Exists.intro _ (And.intro (row_at l2) ?_))); conv => whnf))
        ((first | (with_reducible refine split_dec (fun h => ?_) (fun h => ?_)) | (with_reducible refine split_beq (fun h => ?_) (fun h => ?_)) | (with_reducible refine split_bne (fun h => ?_) (fun h => ?_)) | (with_reducible refine split_not (fun h => ?_) (fun h => ?_)) | (with_reducible refine split_beqS (fun h => ?_) (fun h => ?_)) | (with_reducible refine split_intro (fun h => ?_) (fun h => ?_))) <;> conv => whnf)
        · have et : eqAt g a j = true := by rw [eqAt_some l1 l2]; simpa using h
          refine ⟨j + 1, ⟨by omega, by omega⟩, ?_⟩
          conv => whnf
          (refine And.intro (And.intro (by with_unfolding_all rfl) (by intro q h; cases h)) ?_; refine And.intro ?_ (And.intro ?_ ?_) <;> (conv => whnf) <;> (repeat' (first | exact True.intro | (with_reducible exact rfl) | exact (rfl : List.replicate 0 PV.bad = []) | ((with_reducible refine And.intro ?_ ?_) <;> (first | (with_reducible exact wkV_same _ rfl) | exact wkV_pt rfl rfl | exact wkV_ow rfl rfl rfl | (refine wkV_ow rfl rfl ?_) | (refine wkV_sc (congrArg (Value.int .i64) ?_)) | (refine wkV_sc (congrArg Value.bool ?_)) | exact wkV_ls rfl | ((refine wkV_cl ?_); conv => whnf) | ((refine wkV_tu ?_); conv => whnf) | ((refine wkV_ag ?_); conv => whnf) | (conv => whnf))))))
          all_goals first | exact wN j (by omega) | exact tt j et
        · have ef : eqAt g a j = false := by rw [eqAt_some l1 l2]; simpa using h
          refine ⟨j + 1, ⟨by omega, by omega⟩, ?_⟩
          conv => whnf
          (refine And.intro (And.intro (by with_unfolding_all rfl) (by intro q h; cases h)) ?_; refine And.intro ?_ (And.intro ?_ ?_) <;> (conv => whnf) <;> (repeat' (first | exact True.intro | (with_reducible exact rfl) | exact (rfl : List.replicate 0 PV.bad = []) | ((with_reducible refine And.intro ?_ ?_) <;> (first | (with_reducible exact wkV_same _ rfl) | exact wkV_pt rfl rfl | exact wkV_ow rfl rfl rfl | (refine wkV_ow rfl rfl ?_) | (refine wkV_sc (congrArg (Value.int .i64) ?_)) | (refine wkV_sc (congrArg Value.bool ?_)) | exact wkV_ls rfl | ((refine wkV_cl ?_); conv => whnf) | ((refine wkV_tu ?_); conv => whnf) | ((refine wkV_ag ?_); conv => whnf) | (conv => whnf))))))
          all_goals first | exact wN j (by omega) | exact tf j ef
      · exfalso; simp only [List.length_map] at *; omega
    · exfalso; simp only [List.length_map] at *; omega
  · have ej : j = min g.log.length a.log.length := by omega
    ((first | (with_reducible refine split_dec (fun h => ?_) (fun h => ?_)) | (with_reducible refine split_beq (fun h => ?_) (fun h => ?_)) | (with_reducible refine split_bne (fun h => ?_) (fun h => ?_)) | (with_reducible refine split_not (fun h => ?_) (fun h => ?_)) | (with_reducible refine split_beqS (fun h => ?_) (fun h => ?_)) | (with_reducible refine split_intro (fun h => ?_) (fun h => ?_))) <;> conv => whnf)
    · have hh1 := h
      clear h
      ((first | (with_reducible refine split_dec (fun h => ?_) (fun h => ?_)) | (with_reducible refine split_beq (fun h => ?_) (fun h => ?_)) | (with_reducible refine split_bne (fun h => ?_) (fun h => ?_)) | (with_reducible refine split_not (fun h => ?_) (fun h => ?_)) | (with_reducible refine split_beqS (fun h => ?_) (fun h => ?_)) | (with_reducible refine split_intro (fun h => ?_) (fun h => ?_))) <;> conv => whnf)
      · exfalso; simp only [List.length_map] at *; omega
      · subst ej
        refine tri_for0 mixed (by kernel_rfl) (fun k : Nat => k ≤ topOf g a (min g.log.length a.log.length) ∧ ∀ i, i < k → eqAt g a i = true) (fun k => [(7, iv ((k : Int) + 1))]) [] (fun k => topOf g a (min g.log.length a.log.length) - k) 0 ⟨Nat.zero_le _, fun i hi => absurd hi (Nat.not_lt_zero i)⟩ ?_ ?_
        · conv => whnf
          (refine And.intro (And.intro (by with_unfolding_all rfl) (by intro q h; cases h)) ?_; refine And.intro ?_ (And.intro ?_ ?_) <;> (conv => whnf) <;> (repeat' (first | exact True.intro | (with_reducible exact rfl) | exact (rfl : List.replicate 0 PV.bad = []) | ((with_reducible refine And.intro ?_ ?_) <;> (first | (with_reducible exact wkV_same _ rfl) | exact wkV_pt rfl rfl | exact wkV_ow rfl rfl rfl | (refine wkV_ow rfl rfl ?_) | (refine wkV_sc (congrArg (Value.int .i64) ?_)) | (refine wkV_sc (congrArg Value.bool ?_)) | exact wkV_ls rfl | ((refine wkV_cl ?_); conv => whnf) | ((refine wkV_tu ?_); conv => whnf) | ((refine wkV_ag ?_); conv => whnf) | (conv => whnf))))))
          all_goals rfl
        rintro k ⟨hk, hal⟩
        conv => whnf
        clear h
        ((first | (with_reducible refine split_dec (fun h => ?_) (fun h => ?_)) | (with_reducible refine split_beq (fun h => ?_) (fun h => ?_)) | (with_reducible refine split_bne (fun h => ?_) (fun h => ?_)) | (with_reducible refine split_not (fun h => ?_) (fun h => ?_)) | (with_reducible refine split_beqS (fun h => ?_) (fun h => ?_)) | (with_reducible refine split_intro (fun h => ?_) (fun h => ?_))) <;> conv => whnf)
        · have hkt : k < topOf g a (min g.log.length a.log.length) := by omega
          have l1 : k < g.log.length := by omega
          have l2 : k < a.log.length := by omega
          clear h
          rw [w1j k (by omega)]
          (first | ((with_reducible refine And.intro (by omega) (Exists.intro _ (And.intro (row_at l1) ?_))); conv => whnf))
          rw [w1j k (by omega)]
          (first | ((with_reducible refine And.intro (by omega) (Exists.intro _ (And.intro (row_at l2) ?_))); conv => whnf))
          ((first | (with_reducible refine split_dec (fun h => ?_) (fun h => ?_)) | (with_reducible refine split_beq (fun h => ?_) (fun h => ?_)) | (with_reducible refine split_bne (fun h => ?_) (fun h => ?_)) | (with_reducible refine split_not (fun h => ?_) (fun h => ?_)) | (with_reducible refine split_beqS (fun h => ?_) (fun h => ?_)) | (with_reducible refine split_intro (fun h => ?_) (fun h => ?_))) <;> conv => whnf)
          · have ef : eqAt g a k = false := by rw [eqAt_some l1 l2]; simpa using h
            exact exit_plain rfl (congrArg bv (mtchB_f hkt ef).symm)
          · have et : eqAt g a k = true := by rw [eqAt_some l1 l2]; simpa using h
            refine ⟨k + 1, ⟨⟨by omega, fun i hi => by by_cases e : i = k; (subst e; exact et); exact hal i (by omega)⟩, by omega⟩, ?_⟩
            conv => whnf
            (refine And.intro (And.intro (by with_unfolding_all rfl) (by intro q h; cases h)) ?_; refine And.intro ?_ (And.intro ?_ ?_) <;> (conv => whnf) <;> (repeat' (first | exact True.intro | (with_reducible exact rfl) | exact (rfl : List.replicate 0 PV.bad = []) | ((with_reducible refine And.intro ?_ ?_) <;> (first | (with_reducible exact wkV_same _ rfl) | exact wkV_pt rfl rfl | exact wkV_ow rfl rfl rfl | (refine wkV_ow rfl rfl ?_) | (refine wkV_sc (congrArg (Value.int .i64) ?_)) | (refine wkV_sc (congrArg Value.bool ?_)) | exact wkV_ls rfl | ((refine wkV_cl ?_); conv => whnf) | ((refine wkV_tu ?_); conv => whnf) | ((refine wkV_ag ?_); conv => whnf) | (conv => whnf))))))
            all_goals first | exact wN k (by omega) | rfl
        · exact exit_plain rfl (congrArg bv (mtchB_t (fun i hi => hal i (by omega))).symm)
    · subst ej
      refine tri_for0 mixed (by kernel_rfl) (fun k : Nat => k ≤ topOf g a (min g.log.length a.log.length) ∧ ∀ i, i < k → eqAt g a i = true) (fun k => [(7, iv ((k : Int) + 1))]) [] (fun k => topOf g a (min g.log.length a.log.length) - k) 0 ⟨Nat.zero_le _, fun i hi => absurd hi (Nat.not_lt_zero i)⟩ ?_ ?_
      · conv => whnf
        (refine And.intro (And.intro (by with_unfolding_all rfl) (by intro q h; cases h)) ?_; refine And.intro ?_ (And.intro ?_ ?_) <;> (conv => whnf) <;> (repeat' (first | exact True.intro | (with_reducible exact rfl) | exact (rfl : List.replicate 0 PV.bad = []) | ((with_reducible refine And.intro ?_ ?_) <;> (first | (with_reducible exact wkV_same _ rfl) | exact wkV_pt rfl rfl | exact wkV_ow rfl rfl rfl | (refine wkV_ow rfl rfl ?_) | (refine wkV_sc (congrArg (Value.int .i64) ?_)) | (refine wkV_sc (congrArg Value.bool ?_)) | exact wkV_ls rfl | ((refine wkV_cl ?_); conv => whnf) | ((refine wkV_tu ?_); conv => whnf) | ((refine wkV_ag ?_); conv => whnf) | (conv => whnf))))))
        all_goals rfl
      rintro k ⟨hk, hal⟩
      conv => whnf
      clear h
      ((first | (with_reducible refine split_dec (fun h => ?_) (fun h => ?_)) | (with_reducible refine split_beq (fun h => ?_) (fun h => ?_)) | (with_reducible refine split_bne (fun h => ?_) (fun h => ?_)) | (with_reducible refine split_not (fun h => ?_) (fun h => ?_)) | (with_reducible refine split_beqS (fun h => ?_) (fun h => ?_)) | (with_reducible refine split_intro (fun h => ?_) (fun h => ?_))) <;> conv => whnf)
      · have hkt : k < topOf g a (min g.log.length a.log.length) := by omega
        have l1 : k < g.log.length := by omega
        have l2 : k < a.log.length := by omega
        clear h
        rw [w1j k (by omega)]
        (first | ((with_reducible refine And.intro (by omega) (Exists.intro _ (And.intro (row_at l1) ?_))); conv => whnf))
        rw [w1j k (by omega)]
        (first | ((with_reducible refine And.intro (by omega) (Exists.intro _ (And.intro (row_at l2) ?_))); conv => whnf))
        ((first | (with_reducible refine split_dec (fun h => ?_) (fun h => ?_)) | (with_reducible refine split_beq (fun h => ?_) (fun h => ?_)) | (with_reducible refine split_bne (fun h => ?_) (fun h => ?_)) | (with_reducible refine split_not (fun h => ?_) (fun h => ?_)) | (with_reducible refine split_beqS (fun h => ?_) (fun h => ?_)) | (with_reducible refine split_intro (fun h => ?_) (fun h => ?_))) <;> conv => whnf)
        · have ef : eqAt g a k = false := by rw [eqAt_some l1 l2]; simpa using h
          exact exit_plain rfl (congrArg bv (mtchB_f hkt ef).symm)
        · have et : eqAt g a k = true := by rw [eqAt_some l1 l2]; simpa using h
          refine ⟨k + 1, ⟨⟨by omega, fun i hi => by by_cases e : i = k; (subst e; exact et); exact hal i (by omega)⟩, by omega⟩, ?_⟩
          conv => whnf
          (refine And.intro (And.intro (by with_unfolding_all rfl) (by intro q h; cases h)) ?_; refine And.intro ?_ (And.intro ?_ ?_) <;> (conv => whnf) <;> (repeat' (first | exact True.intro | (with_reducible exact rfl) | exact (rfl : List.replicate 0 PV.bad = []) | ((with_reducible refine And.intro ?_ ?_) <;> (first | (with_reducible exact wkV_same _ rfl) | exact wkV_pt rfl rfl | exact wkV_ow rfl rfl rfl | (refine wkV_ow rfl rfl ?_) | (refine wkV_sc (congrArg (Value.int .i64) ?_)) | (refine wkV_sc (congrArg Value.bool ?_)) | exact wkV_ls rfl | ((refine wkV_cl ?_); conv => whnf) | ((refine wkV_tu ?_); conv => whnf) | ((refine wkV_ag ?_); conv => whnf) | (conv => whnf))))))
          all_goals first | exact wN k (by omega) | rfl
      · exact exit_plain rfl (congrArg bv (mtchB_t (fun i hi => hal i (by omega))).symm)

theorem FInv.done {g h0 : Hrd} {s : Fs} (k : FInv g h0 s) (e : s.mt = g.log.length) : agr g s.h g.log.length := by
  rcases k.ph with ⟨A1, A2, A3, A4⟩ | ⟨B1, B2, B3, B4, B5⟩
  · rw [show g.log.length = 0 by omega]; exact agr_0 g s.h
  · rw [show g.log.length = s.mt.toNat by omega]; exact B5
theorem FInv.bd {g h0 : Hrd} {s : Fs} (k : FInv g h0 s) : 1 ≤ s.next ∧ s.next ≤ g.log.length + 1 ∧ 0 ≤ s.mt ∧ s.mt ≤ g.log.length ∧ (s.i : Int) ≤ 2 * g.log.length + 1 := by
  rcases k.ph with ⟨A1, A2, A3, A4⟩ | ⟨B1, B2, B3, B4, B5⟩ <;> omega

set_option maxHeartbeats 8000000 in
theorem l_GrowFinds (g a : Hrd) (hgI : isI g.base) (hbI : isI a.base) : Ctr Try.prog 37 [.ag g.enc, .ag a.enc] (bv true) [] := by
  refine spec_of_body mixed Try.func37 rfl (by kernel_rfl) (by kernel_rfl) ?_; conv => whnf
  ((first | (with_reducible refine split_dec (fun h => ?_) (fun h => ?_)) | (with_reducible refine split_beq (fun h => ?_) (fun h => ?_)) | (with_reducible refine split_bne (fun h => ?_) (fun h => ?_)) | (with_reducible refine split_not (fun h => ?_) (fun h => ?_)) | (with_reducible refine split_beqS (fun h => ?_) (fun h => ?_)) | (with_reducible refine split_intro (fun h => ?_) (fun h => ?_))) <;> conv => whnf)
  · exact exit_plain rfl rfl
  have hgl : g.log.length ≤ 40 := by simp only [List.length_map] at h; omega
  clear h
  ((first | (with_reducible refine split_dec (fun h => ?_) (fun h => ?_)) | (with_reducible refine split_beq (fun h => ?_) (fun h => ?_)) | (with_reducible refine split_bne (fun h => ?_) (fun h => ?_)) | (with_reducible refine split_not (fun h => ?_) (fun h => ?_)) | (with_reducible refine split_beqS (fun h => ?_) (fun h => ?_)) | (with_reducible refine split_intro (fun h => ?_) (fun h => ?_))) <;> conv => whnf)
  · exact exit_plain rfl rfl
  have hal : a.log.length ≤ 40 := by simp only [List.length_map] at h; omega
  clear h
  ((try ((refine Exists.intro none ?_); (conv => whnf))); first | ((with_reducible refine call_by (c_Heavy09 g) ?_); conv => whnf))
  ((first | (with_reducible refine split_dec (fun h => ?_) (fun h => ?_)) | (with_reducible refine split_beq (fun h => ?_) (fun h => ?_)) | (with_reducible refine split_bne (fun h => ?_) (fun h => ?_)) | (with_reducible refine split_not (fun h => ?_) (fun h => ?_)) | (with_reducible refine split_beqS (fun h => ?_) (fun h => ?_)) | (with_reducible refine split_intro (fun h => ?_) (fun h => ?_))) <;> conv => whnf)
  · exact exit_plain rfl rfl
  obtain ⟨_, hgs⟩ := heavyH_len h
  clear h
  ((try ((refine Exists.intro none ?_); (conv => whnf))); first | ((with_reducible refine call_by (c_Heavy09 a) ?_); conv => whnf))
  ((first | (with_reducible refine split_dec (fun h => ?_) (fun h => ?_)) | (with_reducible refine split_beq (fun h => ?_) (fun h => ?_)) | (with_reducible refine split_bne (fun h => ?_) (fun h => ?_)) | (with_reducible refine split_not (fun h => ?_) (fun h => ?_)) | (with_reducible refine split_beqS (fun h => ?_) (fun h => ?_)) | (with_reducible refine split_intro (fun h => ?_) (fun h => ?_))) <;> conv => whnf)
  · exact exit_plain rfl rfl
  obtain ⟨_, has⟩ := heavyH_len h
  clear h
  ((try ((refine Exists.intro none ?_); (conv => whnf))); first | ((with_reducible refine call_by (c_rHard g (smallM (by omega))) ?_); conv => whnf))
  ((first | (with_reducible refine split_dec (fun h => ?_) (fun h => ?_)) | (with_reducible refine split_beq (fun h => ?_) (fun h => ?_)) | (with_reducible refine split_bne (fun h => ?_) (fun h => ?_)) | (with_reducible refine split_not (fun h => ?_) (fun h => ?_)) | (with_reducible refine split_beqS (fun h => ?_) (fun h => ?_)) | (with_reducible refine split_intro (fun h => ?_) (fun h => ?_))) <;> conv => whnf)
  · exact exit_plain rfl rfl
  have hg := h
  clear h
  ((try ((refine Exists.intro none ?_); (conv => whnf))); first | ((with_reducible refine call_by (c_rHard a (smallM (by omega))) ?_); conv => whnf))
  ((first | (with_reducible refine split_dec (fun h => ?_) (fun h => ?_)) | (with_reducible refine split_beq (fun h => ?_) (fun h => ?_)) | (with_reducible refine split_bne (fun h => ?_) (fun h => ?_)) | (with_reducible refine split_not (fun h => ?_) (fun h => ?_)) | (with_reducible refine split_beqS (fun h => ?_) (fun h => ?_)) | (with_reducible refine split_intro (fun h => ?_) (fun h => ?_))) <;> conv => whnf)
  · exact exit_plain rfl rfl
  have ha := h
  clear h
  ((first | (with_reducible refine split_dec (fun h => ?_) (fun h => ?_)) | (with_reducible refine split_beq (fun h => ?_) (fun h => ?_)) | (with_reducible refine split_bne (fun h => ?_) (fun h => ?_)) | (with_reducible refine split_not (fun h => ?_) (fun h => ?_)) | (with_reducible refine split_beqS (fun h => ?_) (fun h => ?_)) | (with_reducible refine split_intro (fun h => ?_) (fun h => ?_))) <;> conv => whnf)
  · exact exit_plain rfl rfl
  have hgb : g.base = 0 := by first | exact h | exact Classical.byContradiction h
  clear h
  ((first | (with_reducible refine split_dec (fun h => ?_) (fun h => ?_)) | (with_reducible refine split_beq (fun h => ?_) (fun h => ?_)) | (with_reducible refine split_bne (fun h => ?_) (fun h => ?_)) | (with_reducible refine split_not (fun h => ?_) (fun h => ?_)) | (with_reducible refine split_beqS (fun h => ?_) (fun h => ?_)) | (with_reducible refine split_intro (fun h => ?_) (fun h => ?_))) <;> conv => whnf)
  · exact exit_plain rfl rfl
  have hab : a.base = 0 := by first | exact h | exact Classical.byContradiction h
  clear h
  ((first | (with_reducible refine split_dec (fun h => ?_) (fun h => ?_)) | (with_reducible refine split_beq (fun h => ?_) (fun h => ?_)) | (with_reducible refine split_bne (fun h => ?_) (fun h => ?_)) | (with_reducible refine split_not (fun h => ?_) (fun h => ?_)) | (with_reducible refine split_beqS (fun h => ?_) (fun h => ?_)) | (with_reducible refine split_intro (fun h => ?_) (fun h => ?_))) <;> conv => whnf)
  · exact exit_plain rfl rfl
  have hterm : g.term ≤ a.term := by omega
  clear h
  ((try ((refine Exists.intro none ?_); (conv => whnf))); first | ((with_reducible refine call_by (c_match g a (by omega) (by omega)) ?_); conv => whnf))
  ((first | (with_reducible refine split_dec (fun h => ?_) (fun h => ?_)) | (with_reducible refine split_beq (fun h => ?_) (fun h => ?_)) | (with_reducible refine split_bne (fun h => ?_) (fun h => ?_)) | (with_reducible refine split_not (fun h => ?_) (fun h => ?_)) | (with_reducible refine split_beqS (fun h => ?_) (fun h => ?_)) | (with_reducible refine split_intro (fun h => ?_) (fun h => ?_))) <;> conv => whnf)
  · exact exit_plain rfl rfl
  have hm := mtchB_spec h
  clear h
  have hla := hard_last hg (by omega)
  ((try ((refine Exists.intro none ?_); (conv => whnf))); first | ((with_reducible refine call_by (c_rLast g (smallM (by omega))) ?_); conv => whnf))
  rw [show IntKind.i64.wrap (lastI g + 1) = lastI g + 1 from wrap_id (by omega) (by omega)]
  have f0 : FInv g a ⟨a, lastI g + 1, 0, 0⟩ := ⟨ha, hab, hterm, hal, .inl ⟨rfl, rfl, by show 1 ≤ lastI g + 1; omega, by show ((0 : Nat) : Int) + (lastI g + 1) ≤ _; omega⟩⟩
  refine tri_forB mixed (by kernel_rfl) (fun s : Fs => FInv g a s ∧ s.h.snap.length ≤ 32768) (fun s => [(7, iv s.next), (8, iv s.mt), (9, iv (s.i : Nat))]) (fun s => [(2, g.enc), (3, s.h.enc)]) [] (fun s => 100 - s.i) ⟨a, lastI g + 1, 0, 0⟩ ⟨f0, has⟩ ?_ ?_
  · conv => whnf
    (refine And.intro (And.intro (by with_unfolding_all rfl) (by intro q h; cases h)) ?_; refine And.intro ?_ (And.intro ?_ ?_) <;> (conv => whnf) <;> (repeat' (first | exact True.intro | (with_reducible exact rfl) | exact (rfl : List.replicate 0 PV.bad = []) | ((with_reducible refine And.intro ?_ ?_) <;> (first | (with_reducible exact wkV_same _ rfl) | exact wkV_pt rfl rfl | exact wkV_ow rfl rfl rfl | (refine wkV_ow rfl rfl ?_) | (refine wkV_sc (congrArg (Value.int .i64) ?_)) | (refine wkV_sc (congrArg Value.bool ?_)) | exact wkV_ls rfl | ((refine wkV_cl ?_); conv => whnf) | ((refine wkV_tu ?_); conv => whnf) | ((refine wkV_ag ?_); conv => whnf) | (conv => whnf))))))
    all_goals rfl
  rintro s ⟨k, hsn⟩
  have bd := k.bd
  have hsl := k.len
  have hsb := k.base
  conv => whnf
  ((first | (with_reducible refine split_dec (fun h => ?_) (fun h => ?_)) | (with_reducible refine split_beq (fun h => ?_) (fun h => ?_)) | (with_reducible refine split_bne (fun h => ?_) (fun h => ?_)) | (with_reducible refine split_not (fun h => ?_) (fun h => ?_)) | (with_reducible refine split_beqS (fun h => ?_) (fun h => ?_)) | (with_reducible refine split_intro (fun h => ?_) (fun h => ?_))) <;> conv => whnf)
  · have hi100 := h
    clear h
    ((first | (with_reducible refine split_dec (fun h => ?_) (fun h => ?_)) | (with_reducible refine split_beq (fun h => ?_) (fun h => ?_)) | (with_reducible refine split_bne (fun h => ?_) (fun h => ?_)) | (with_reducible refine split_not (fun h => ?_) (fun h => ?_)) | (with_reducible refine split_beqS (fun h => ?_) (fun h => ?_)) | (with_reducible refine split_intro (fun h => ?_) (fun h => ?_))) <;> conv => whnf)
    · obtain ⟨E, k2⟩ := find_step hg hgb hgl hm k (by omega)
      have hgi := grow_i (by omega) E
      have hs2 : (growO s.h 0 (feedM g s.next)).h.snap.length ≤ 32768 := by rw [grow_snap E]; exact hsn
      have k1 := c_FeedA g (by omega) (by omega) hgI s.next (by omega) (by unfold isI; omega) (by omega)
      have kT := c_growV s.h (by omega) (by omega) (by unfold isI; omega) 0 (feedM g s.next) (by show (feedL g s.next).length ≤ _; have := fromL_len g (feedP g s.next + 1) 8; unfold feedL; omega)
      rw [(resG_ok E).2.2] at kT
      have kN := c_gNext s.next s.mt ⟨6, 0, 0, 0, (growO s.h 0 (feedM g s.next)).i, 0, 0, 0, (growO s.h 0 (feedM g s.next)).yes, [], ⟨0, 0, 0, 0⟩, [], []⟩ (by omega) (by omega) (by show _ ≤ (growO s.h 0 (feedM g s.next)).i ∧ (growO s.h 0 (feedM g s.next)).i ≤ _; omega)
      ((try ((refine Exists.intro none ?_); (conv => whnf))); first | ((with_reducible refine call_by (k1) ?_); conv => whnf))
      (refine Exists.intro _ (And.intro rfl (And.intro (by intro q _; simp only [List.length_nil]; omega) (And.intro (by intro i hi; exact absurd hi (Nat.not_lt_zero i)) ?_))); conv => whnf)
      ((try ((refine Exists.intro none ?_); (conv => whnf))); refine call_deep (kT) (by (repeat' (first | exact subVL_nil | exact subVR_nil | refine subVL_cons ?_ ?_ | refine subVR_cons ?_ ?_ | exact SubV.refl _ | exact subV_nl | (with_reducible exact subV_tk rfl) | refine subV_ag ?_ | refine subV_sl ?_ | refine subV_ep ?_))) ?_; conv => whnf)
      (refine Exists.intro _ (And.intro rfl (And.intro (by intro q _; simp only [List.length_nil]; omega) (And.intro (by intro i hi; exact absurd hi (Nat.not_lt_zero i)) ?_))); conv => whnf)
      ((try ((refine Exists.intro none ?_); (conv => whnf))); refine call_deep (kN) (by (repeat' (first | exact subVL_nil | exact subVR_nil | refine subVL_cons ?_ ?_ | refine subVR_cons ?_ ?_ | exact SubV.refl _ | exact subV_nl | (with_reducible exact subV_tk rfl) | refine subV_ag ?_ | refine subV_sl ?_ | refine subV_ep ?_))) ?_; conv => whnf)
      refine ⟨_, ⟨⟨k2, hs2⟩, ?_⟩, ?_⟩
      · show 100 - (s.i + 1) < 100 - s.i
        omega
      conv => whnf
      (refine And.intro (And.intro (by with_unfolding_all rfl) (by intro q h; cases h)) ?_; refine And.intro ?_ (And.intro ?_ ?_) <;> (conv => whnf) <;> (repeat' (first | exact True.intro | (with_reducible exact rfl) | exact (rfl : List.replicate 0 PV.bad = []) | ((with_reducible refine And.intro ?_ ?_) <;> (first | (with_reducible exact wkV_same _ rfl) | exact wkV_pt rfl rfl | exact wkV_ow rfl rfl rfl | (refine wkV_ow rfl rfl ?_) | (refine wkV_sc (congrArg (Value.int .i64) ?_)) | (refine wkV_sc (congrArg Value.bool ?_)) | exact wkV_ls rfl | ((refine wkV_cl ?_); conv => whnf) | ((refine wkV_tu ?_); conv => whnf) | ((refine wkV_ag ?_); conv => whnf) | (conv => whnf))))))
      all_goals first | exact w1 (by omega) | rfl
    · have emt : s.mt = lastI g := by omega
      have kd := k.done (by omega)
      ((first | (with_reducible refine split_dec (fun h => ?_) (fun h => ?_)) | (with_reducible refine split_beq (fun h => ?_) (fun h => ?_)) | (with_reducible refine split_bne (fun h => ?_) (fun h => ?_)) | (with_reducible refine split_not (fun h => ?_) (fun h => ?_)) | (with_reducible refine split_beqS (fun h => ?_) (fun h => ?_)) | (with_reducible refine split_intro (fun h => ?_) (fun h => ?_))) <;> conv => whnf)
      · exact absurd emt (by assumption)
      refine tri_for0 mixed (by kernel_rfl) (fun j : Nat => j ≤ g.log.length) (fun j => [(15, iv ((j : Int) + 1))]) [] (fun j => g.log.length - j) 0 (Nat.zero_le _) ?_ ?_
      · conv => whnf
        (refine And.intro (And.intro (by with_unfolding_all rfl) (by intro q h; cases h)) ?_; refine And.intro ?_ (And.intro ?_ ?_) <;> (conv => whnf) <;> (repeat' (first | exact True.intro | (with_reducible exact rfl) | exact (rfl : List.replicate 0 PV.bad = []) | ((with_reducible refine And.intro ?_ ?_) <;> (first | (with_reducible exact wkV_same _ rfl) | exact wkV_pt rfl rfl | exact wkV_ow rfl rfl rfl | (refine wkV_ow rfl rfl ?_) | (refine wkV_sc (congrArg (Value.int .i64) ?_)) | (refine wkV_sc (congrArg Value.bool ?_)) | exact wkV_ls rfl | ((refine wkV_cl ?_); conv => whnf) | ((refine wkV_tu ?_); conv => whnf) | ((refine wkV_ag ?_); conv => whnf) | (conv => whnf))))))
        all_goals rfl
      intro j hj
      conv => whnf
      ((first | (with_reducible refine split_dec (fun h => ?_) (fun h => ?_)) | (with_reducible refine split_beq (fun h => ?_) (fun h => ?_)) | (with_reducible refine split_bne (fun h => ?_) (fun h => ?_)) | (with_reducible refine split_not (fun h => ?_) (fun h => ?_)) | (with_reducible refine split_beqS (fun h => ?_) (fun h => ?_)) | (with_reducible refine split_intro (fun h => ?_) (fun h => ?_))) <;> conv => whnf)
      · have hlt : j < g.log.length := by omega
        obtain ⟨x, y, x1, y1, xy⟩ := kd j hlt
        have c1 := c_rAt g (smallM (by omega)) (by omega) (by omega) ((j : Int) + 1) (by unfold isI; omega)
        have c2 := c_rAt s.h (smallM (by omega)) (by omega) (by omega) ((j : Int) + 1) (by unfold isI; omega)
        rw [entAt_nat (m := j) (by omega), x1] at c1
        rw [entAt_nat (m := j) (by omega), y1] at c2
        simp only [Option.getD_some, Option.isSome_some] at c1 c2
        ((try ((refine Exists.intro none ?_); (conv => whnf))); first | ((with_reducible refine call_by (c1) ?_); conv => whnf))
        ((try ((refine Exists.intro none ?_); (conv => whnf))); first | ((with_reducible refine call_by (c2) ?_); conv => whnf))
        ((first | (with_reducible refine split_dec (fun h => ?_) (fun h => ?_)) | (with_reducible refine split_beq (fun h => ?_) (fun h => ?_)) | (with_reducible refine split_bne (fun h => ?_) (fun h => ?_)) | (with_reducible refine split_not (fun h => ?_) (fun h => ?_)) | (with_reducible refine split_beqS (fun h => ?_) (fun h => ?_)) | (with_reducible refine split_intro (fun h => ?_) (fun h => ?_))) <;> conv => whnf)
        · exact absurd xy (by assumption)
        refine ⟨j + 1, ⟨by omega, by omega⟩, ?_⟩
        conv => whnf
        (refine And.intro (And.intro (by with_unfolding_all rfl) (by intro q h; cases h)) ?_; refine And.intro ?_ (And.intro ?_ ?_) <;> (conv => whnf) <;> (repeat' (first | exact True.intro | (with_reducible exact rfl) | exact (rfl : List.replicate 0 PV.bad = []) | ((with_reducible refine And.intro ?_ ?_) <;> (first | (with_reducible exact wkV_same _ rfl) | exact wkV_pt rfl rfl | exact wkV_ow rfl rfl rfl | (refine wkV_ow rfl rfl ?_) | (refine wkV_sc (congrArg (Value.int .i64) ?_)) | (refine wkV_sc (congrArg Value.bool ?_)) | exact wkV_ls rfl | ((refine wkV_cl ?_); conv => whnf) | ((refine wkV_tu ?_); conv => whnf) | ((refine wkV_ag ?_); conv => whnf) | (conv => whnf))))))
        all_goals first | rfl | (rw [wrap_id (by omega) (by omega)]; omega)
      · ((try ((refine Exists.intro none ?_); (conv => whnf))); first | ((with_reducible refine call_by (c_wakes16) ?_); conv => whnf))
        exact exit_plain rfl rfl
  · exfalso; omega

theorem told_GrowFinds (qs : List PV) (h : ArgsOf Try.prog [32, 32] qs) : Ctr Try.prog 37 qs (bv true) [] := by
  obtain ⟨p1, qs, rfl, h1, h⟩ := argsOf_cons h
  obtain ⟨p2, qs, rfl, h2, h⟩ := argsOf_cons h
  obtain rfl := argsOf_nil h
  obtain ⟨g, rfl, hg⟩ := arg_Hrd h1
  obtain ⟨a, rfl, ha⟩ := arg_Hrd h2
  exact l_GrowFinds g a hg.2.2.1 ha.2.2.1
end Go.Proofs
