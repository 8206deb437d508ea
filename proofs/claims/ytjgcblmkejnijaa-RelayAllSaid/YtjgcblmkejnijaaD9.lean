/- Contracts of functions: a region's places, its proxy. -/
import Derived.Test.YtjgcblmkejnijaaD8
set_option linter.unusedSimpArgs false
set_option linter.unusedVariables false
namespace Go.Proofs
open Go.Pv
set_option maxRecDepth 100000

/-- The first that is so; else -1. -/
def firstP {α : Type} (f : α → Bool) (l : List α) : Int := match l.findIdx? f with
  | some i => i
  | none => -1

theorem c_IndexFuncP (l : List Pl) (hm : l.length ≤ maxLen) (g : Nat) (p : List PV) (f : Pl → Bool) (hg : ∀ x, Ctr Try.prog g [.ag (Pl.enc x), .ep p] (bv (f x)) []) : Ctr Try.prog 133 [.sl 4 (l.map Pl.enc), .cl g [.ep p]] (iv (firstP f l)) [] := by
  have hm' : l.length ≤ 9223372036854775807 := Nat.le_trans hm (by decide)
  refine spec_of_body mixed Try.func133 rfl (by kernel_rfl) (by kernel_rfl) ?_; conv => whnf
  refine tri_for0 mixed (by kernel_rfl) (fun i : Nat => i ≤ l.length ∧ ∀ j (hj : j < l.length), j < i → f (l[j]'hj) = false) (fun i => [(8, iv i)]) [] (fun i => l.length - i) 0 ⟨Nat.zero_le _, fun j _ h => absurd h (Nat.not_lt_zero _)⟩ ?_ ?_
  · conv => whnf
    (refine And.intro (And.intro (by with_unfolding_all rfl) (by intro q h; cases h)) ?_; refine And.intro ?_ (And.intro ?_ ?_) <;> (conv => whnf) <;> (repeat' (first | exact True.intro | (with_reducible exact rfl) | exact (rfl : List.replicate 0 PV.bad = []) | ((with_reducible refine And.intro ?_ ?_) <;> (first | (with_reducible exact wkV_same _ rfl) | exact wkV_pt rfl rfl | exact wkV_ow rfl rfl rfl | (refine wkV_ow rfl rfl ?_) | (refine wkV_sc (congrArg (Value.int .i64) ?_)) | (refine wkV_sc (congrArg Value.bool ?_)) | exact wkV_ls rfl | ((refine wkV_cl ?_); conv => whnf) | ((refine wkV_tu ?_); conv => whnf) | ((refine wkV_ag ?_); conv => whnf) | (conv => whnf))))))
    all_goals rfl
  rintro i ⟨hi, hp⟩
  conv => whnf
  ((first | (with_reducible refine split_dec (fun h => ?_) (fun h => ?_)) | (with_reducible refine split_beq (fun h => ?_) (fun h => ?_)) | (with_reducible refine split_bne (fun h => ?_) (fun h => ?_)) | (with_reducible refine split_not (fun h => ?_) (fun h => ?_)) | (with_reducible refine split_beqS (fun h => ?_) (fun h => ?_)) | (with_reducible refine split_intro (fun h => ?_) (fun h => ?_))) <;> conv => whnf)
  · simp only [List.length_map] at h
    have hlt : i < l.length := by omega
    (first | ((with_reducible refine And.intro (by omega) (Exists.intro _ (And.intro (row_at hlt) ?_))); conv => whnf))
    have hc := hg (l[i]'hlt)
    ((try ((refine Exists.intro none ?_); (conv => whnf))); first | ((with_reducible refine call_by (hc) ?_); conv => whnf))
    ((first | (with_reducible refine split_dec (fun h => ?_) (fun h => ?_)) | (with_reducible refine split_beq (fun h => ?_) (fun h => ?_)) | (with_reducible refine split_bne (fun h => ?_) (fun h => ?_)) | (with_reducible refine split_not (fun h => ?_) (fun h => ?_)) | (with_reducible refine split_beqS (fun h => ?_) (fun h => ?_)) | (with_reducible refine split_intro (fun h => ?_) (fun h => ?_))) <;> conv => whnf)
    · refine exit_plain rfl (congrArg (fun n : Int => iv n) ?_)
      have : l.findIdx? f = some i := by
        rw [List.findIdx?_eq_some_iff_getElem]
        exact ⟨hlt, h, fun j hj => by rw [hp j (by omega) hj]; simp⟩
      unfold firstP; rw [this]
    · refine ⟨i + 1, ⟨⟨by omega, ?_⟩, by omega⟩, ?_⟩
      · intro j hj hji
        by_cases e : j = i
        · subst e; exact h
        · exact hp j hj (by omega)
      · conv => whnf
        (refine And.intro (And.intro (by with_unfolding_all rfl) (by intro q h; cases h)) ?_; refine And.intro ?_ (And.intro ?_ ?_) <;> (conv => whnf) <;> (repeat' (first | exact True.intro | (with_reducible exact rfl) | exact (rfl : List.replicate 0 PV.bad = []) | ((with_reducible refine And.intro ?_ ?_) <;> (first | (with_reducible exact wkV_same _ rfl) | exact wkV_pt rfl rfl | exact wkV_ow rfl rfl rfl | (refine wkV_ow rfl rfl ?_) | (refine wkV_sc (congrArg (Value.int .i64) ?_)) | (refine wkV_sc (congrArg Value.bool ?_)) | exact wkV_ls rfl | ((refine wkV_cl ?_); conv => whnf) | ((refine wkV_tu ?_); conv => whnf) | ((refine wkV_ag ?_); conv => whnf) | (conv => whnf))))))
        all_goals first | exact w1 (by omega) | rfl
  · simp only [List.length_map] at h
    have : i = l.length := by omega
    subst this
    refine exit_plain rfl (congrArg (fun n : Int => iv n) ?_)
    have : l.findIdx? f = none := by
      rw [List.findIdx?_eq_none_iff]
      intro x hx
      obtain ⟨j, hj, rfl⟩ := List.getElem_of_mem hx
      exact hp j hj hj
    unfold firstP; rw [this]

theorem firstP_any {α : Type} (f : α → Bool) (l : List α) : (decide (0 ≤ firstP f l)) = l.any f := by
  unfold firstP
  cases h : l.findIdx? f with
  | none =>
    rw [List.findIdx?_eq_none_iff] at h
    rw [List.any_eq_false.2 (by simpa using h)]; rfl
  | some i =>
    rw [List.findIdx?_eq_some_iff_getElem] at h
    obtain ⟨hi, h1, _⟩ := h
    rw [List.any_eq_true.2 ⟨_, List.getElem_mem hi, h1⟩]
    simp

def keepP (f : Pl → Bool) (l : List Pl) (j : Nat) : List Pl := (l.take j).filter fun x => !f x
theorem keepP_len (f : Pl → Bool) (l : List Pl) (j : Nat) (h : j ≤ l.length) : (keepP f l j).length ≤ j := by
  unfold keepP
  exact Nat.le_trans (List.length_filter_le _ _) (by simp; omega)
theorem keepP_succ {f : Pl → Bool} {l : List Pl} {j : Nat} (h : j < l.length) : keepP f l (j + 1) = keepP f l j ++ if f (l[j]'h) then [] else [l[j]'h] := by
  unfold keepP
  rw [List.take_succ_eq_append_getElem h, List.filter_append]
  congr 1
  cases hr : f (l[j]'h) <;> simp [hr]
theorem keepP_id {f : Pl → Bool} {l : List Pl} {j : Nat} (hj : j ≤ l.length) (h : ∀ k (hk : k < l.length), k < j → f (l[k]'hk) = false) : keepP f l j = l.take j := by
  unfold keepP
  rw [List.filter_eq_self]
  intro x hx
  obtain ⟨k, hk, rfl⟩ := List.getElem_of_mem hx
  simp only [List.length_take] at hk
  rw [List.getElem_take, h k (by omega) (by omega)]; rfl

theorem set_midP {K mid D : List Pl} {x : Pl} (y : Pl) (ys : List Pl) (e : mid ++ [x] = y :: ys) : (K ++ mid ++ x :: D).set K.length x = (K ++ [x]) ++ ys ++ D := by
  have h1 : K ++ mid ++ x :: D = K ++ (y :: ys ++ D) := by rw [← e]; simp
  rw [h1, List.set_append_right _ _ (Nat.le_refl _), Nat.sub_self]
  simp
theorem at_midP {K mid D : List Pl} {x : Pl} (y : Pl) (ys : List Pl) (e : mid ++ [x] = y :: ys) : (K ++ mid ++ x :: D)[K.length]? = some y := by
  have h1 : K ++ mid ++ x :: D = K ++ (y :: ys ++ D) := by rw [← e]; simp
  rw [h1, List.getElem?_append_right (Nat.le_refl _), Nat.sub_self]; simp

set_option maxHeartbeats 2000000 in
theorem c_DeleteFuncP (l : List Pl) (hl : l.length ≤ 4294967) (g : Nat) (rg : Int) (f : Pl → Bool) (hg : ∀ x, Ctr Try.prog g [.ag (Pl.enc x), .ep [iv rg]] (bv (f x)) []) :
    CtrE Try.prog 102 [.ow 1000000 0 (l.map Pl.enc).length, .cl g [.pt 1000000 0]] [(1000000, [iv rg])] [(1000000, some (false, 4, l.map Pl.enc))]
      (.ow 1000000 0 ((l.filter fun x => !f x).map Pl.enc).length) [(1000000, [iv rg])] [(1000000, some (false, 4, (l.filter fun x => !f x).map Pl.enc ++ List.replicate (l.length - (l.filter fun x => !f x).length) (List.replicate 4 .bad)))] := by
  have hkl : keepP f l l.length = l.filter fun x => !f x := by simp [keepP]
  have hml : l.length ≤ maxLen := smallM (by omega)
  refine spec_of_bodyE mixed Try.func102 rfl (by kernel_rfl) (by kernel_rfl) ?_; conv => whnf
  ((try ((refine Exists.intro none ?_); (conv => whnf))); (first | (with_reducible refine And.intro (Nat.le_of_eq (Nat.zero_add _)) ?_) | (refine And.intro (by simp only [List.length_map, List.length_set, Nat.zero_add]; omega) ?_)); conv => whnf)
  ((try ((refine Exists.intro none ?_); (conv => whnf))); first | (refine call_eq (c_IndexFuncP l hml g [iv rg] f hg) (by simp only [List.drop_zero, List.take_length]) ?_; conv => whnf))
  unfold firstP
  cases hf : l.findIdx? f with
  | none =>
    simp only
    conv => whnf
    rw [List.findIdx?_eq_none_iff] at hf
    have e : (l.filter fun x => !f x) = l := List.filter_eq_self.2 fun x hx => by rw [hf x hx]; rfl
    rw [e]
    (refine ExitE.mk ⟨[(1000000, 1000000)], [], ?_⟩; (conv => whnf); (refine And.intro (And.intro (by with_unfolding_all rfl) (by intro q h; cases h)) ?_; refine And.intro ?_ (And.intro ?_ ?_) <;> (conv => whnf) <;> (repeat' (first | exact True.intro | (with_reducible exact rfl) | exact (rfl : List.replicate 0 PV.bad = []) | ((with_reducible refine And.intro ?_ ?_) <;> (first | (with_reducible exact wkV_same _ rfl) | exact wkV_pt rfl rfl | exact wkV_ow rfl rfl rfl | (refine wkV_ow rfl rfl ?_) | (refine wkV_sc (congrArg (Value.int .i64) ?_)) | (refine wkV_sc (congrArg Value.bool ?_)) | exact wkV_ls rfl | ((refine wkV_cl ?_); conv => whnf) | ((refine wkV_tu ?_); conv => whnf) | ((refine wkV_ag ?_); conv => whnf) | (conv => whnf)))))))
    all_goals first | rfl | simp
  | some i =>
    simp only
    rw [List.findIdx?_eq_some_iff_getElem] at hf
    obtain ⟨hi, hfi, hlow⟩ := hf
    have hne : ¬ ((i : Nat) : Int) = -1 := by omega
    ((first | (first | (with_reducible refine split_dt (by assumption) ?_) | (with_reducible refine split_df (by assumption) ?_) | (with_reducible refine split_et (by assumption) ?_) | (with_reducible refine split_ef (by assumption) ?_) | (with_reducible refine split_bt (by assumption) ?_) | (with_reducible refine split_bf (by assumption) ?_) | (with_reducible refine split_nt (by assumption) ?_) | (with_reducible refine split_nf (by assumption) ?_) | (with_reducible refine split_t (by assumption) ?_) | (with_reducible refine split_f (by assumption) ?_)) | (first | (with_reducible refine split_dec (fun h => ?_) (fun h => ?_)) | (with_reducible refine split_beq (fun h => ?_) (fun h => ?_)) | (with_reducible refine split_bne (fun h => ?_) (fun h => ?_)) | (with_reducible refine split_not (fun h => ?_) (fun h => ?_)) | (with_reducible refine split_beqS (fun h => ?_) (fun h => ?_)) | (with_reducible refine split_intro (fun h => ?_) (fun h => ?_)))) <;> conv => whnf)
    have low : ∀ k (hk : k < l.length), k < i → f (l[k]'hk) = false := fun k hk hki => by have := hlow k hki; simpa using this
    have k0 : keepP f l (i + 1) = l.take i := by rw [keepP_succ hi, hfi, keepP_id (by omega) low]; simp
    refine tri_forO mixed (by kernel_rfl) (fun b : Nat × List Pl => b.1 ≤ l.length ∧ (keepP f l b.1).length + b.2.length = b.1) (fun b => [(6, iv b.1), (5, iv (keepP f l b.1).length)]) (fun _ => [(1000000, [iv rg])]) (fun b => [(1000000, some (false, 4, (keepP f l b.1 ++ b.2 ++ l.drop b.1).map Pl.enc))]) [(1000000, 1000000)] (fun b => l.length - b.1) (i + 1, [l[i]'hi]) ⟨by simp only; omega, by simp only [k0]; simp; omega⟩ ?_ ?_
    · conv => whnf
      (refine And.intro (And.intro (by with_unfolding_all rfl) (by intro q h; cases h)) ?_; refine And.intro ?_ (And.intro ?_ ?_) <;> (conv => whnf) <;> (repeat' (first | exact True.intro | (with_reducible exact rfl) | exact (rfl : List.replicate 0 PV.bad = []) | ((with_reducible refine And.intro ?_ ?_) <;> (first | (with_reducible exact wkV_same _ rfl) | exact wkV_pt rfl rfl | exact wkV_ow rfl rfl rfl | (refine wkV_ow rfl rfl ?_) | (refine wkV_sc (congrArg (Value.int .i64) ?_)) | (refine wkV_sc (congrArg Value.bool ?_)) | exact wkV_ls rfl | ((refine wkV_cl ?_); conv => whnf) | ((refine wkV_tu ?_); conv => whnf) | ((refine wkV_ag ?_); conv => whnf) | (conv => whnf))))))
      all_goals first | rfl | exact w1 (by omega) | skip
      · refine obj_eq rfl ?_
        simp only [k0]
        rw [List.append_assoc, List.singleton_append, ← List.drop_eq_getElem_cons hi, List.take_append_drop]
      · simp only [k0]; simp; omega
    rintro ⟨j, mid⟩ ⟨hj, hK⟩
    simp only at hj hK
    conv => whnf
    ((first | (with_reducible refine split_dec (fun h => ?_) (fun h => ?_)) | (with_reducible refine split_beq (fun h => ?_) (fun h => ?_)) | (with_reducible refine split_bne (fun h => ?_) (fun h => ?_)) | (with_reducible refine split_not (fun h => ?_) (fun h => ?_)) | (with_reducible refine split_beqS (fun h => ?_) (fun h => ?_)) | (with_reducible refine split_intro (fun h => ?_) (fun h => ?_))) <;> conv => whnf)
    · simp only [List.length_map] at h
      have hlt : j < l.length := by omega
      have ed : l.drop j = l[j]'hlt :: l.drop (j + 1) := List.drop_eq_getElem_cons hlt
      have ks := keepP_succ (f := f) hlt
      have hrow : ((keepP f l j ++ mid ++ l.drop j).map Pl.enc)[0 + ((j : Nat) : Int).toNat]? = some (l[j]'hlt).enc := by
        rw [Nat.zero_add, Int.toNat_natCast, List.getElem?_map, List.getElem?_append_right (by simp; omega), ed]
        rw [show j - (keepP f l j ++ mid).length = 0 by simp; omega]; rfl
      refine ⟨by simp only [List.length_map]; omega, ?_⟩
      conv => whnf
      refine ⟨_, hrow, ?_⟩
      conv => whnf
      have hc := hg (l[j]'hlt)
      ((try ((refine Exists.intro none ?_); (conv => whnf))); first | ((with_reducible refine call_by (hc) ?_); conv => whnf))
      ((first | (with_reducible refine split_dec (fun h => ?_) (fun h => ?_)) | (with_reducible refine split_beq (fun h => ?_) (fun h => ?_)) | (with_reducible refine split_bne (fun h => ?_) (fun h => ?_)) | (with_reducible refine split_not (fun h => ?_) (fun h => ?_)) | (with_reducible refine split_beqS (fun h => ?_) (fun h => ?_)) | (with_reducible refine split_intro (fun h => ?_) (fun h => ?_))) <;> conv => whnf)
      · rw [h] at ks
        simp only [Bool.false_eq_true, if_false] at ks
        obtain ⟨y, ys, ey⟩ : ∃ y ys, mid ++ [l[j]'hlt] = y :: ys := by
          cases mid with
          | nil => exact ⟨_, _, rfl⟩
          | cons y m => exact ⟨y, m ++ [l[j]'hlt], rfl⟩
        have hys : ys.length = mid.length := by have := congrArg List.length ey; simp at this; omega
        have hrow2 : ((keepP f l j ++ mid ++ l.drop j).map Pl.enc)[0 + (((keepP f l j).length : Nat) : Int).toNat]? = some y.enc := by
          rw [Nat.zero_add, Int.toNat_natCast, List.getElem?_map, ed, at_midP y ys ey]; rfl
        refine ⟨by simp only [List.length_map]; omega, ?_⟩
        conv => whnf
        refine ⟨_, hrow2, ?_⟩
        conv => whnf
        refine ⟨(j + 1, ys), [(1000000, 1000000)], ⟨⟨by simp only; omega, by simp only [ks]; simp; omega⟩, by simp only; omega⟩, ?_⟩
        rw [ks]
        conv => whnf
        (refine And.intro (And.intro (by with_unfolding_all rfl) (by intro q h; cases h)) ?_; refine And.intro ?_ (And.intro ?_ ?_) <;> (conv => whnf) <;> (repeat' (first | exact True.intro | (with_reducible exact rfl) | exact (rfl : List.replicate 0 PV.bad = []) | ((with_reducible refine And.intro ?_ ?_) <;> (first | (with_reducible exact wkV_same _ rfl) | exact wkV_pt rfl rfl | exact wkV_ow rfl rfl rfl | (refine wkV_ow rfl rfl ?_) | (refine wkV_sc (congrArg (Value.int .i64) ?_)) | (refine wkV_sc (congrArg Value.bool ?_)) | exact wkV_ls rfl | ((refine wkV_cl ?_); conv => whnf) | ((refine wkV_tu ?_); conv => whnf) | ((refine wkV_ag ?_); conv => whnf) | (conv => whnf))))))
        all_goals first | rfl | exact w1 (by omega) | skip
        · refine obj_eq rfl ?_
          rw [Nat.zero_add, Int.toNat_natCast, ed, ← set_midP y ys ey, List.map_set]
        · rw [w1 (by simp only; omega)]; simp
      · rw [h] at ks
        simp only [if_true, List.append_nil] at ks
        refine ⟨(j + 1, mid ++ [l[j]'hlt]), [(1000000, 1000000)], ⟨⟨by simp only; omega, by simp only [ks]; simp; omega⟩, by simp only; omega⟩, ?_⟩
        rw [ks]
        conv => whnf
        (refine And.intro (And.intro (by with_unfolding_all rfl) (by intro q h; cases h)) ?_; refine And.intro ?_ (And.intro ?_ ?_) <;> (conv => whnf) <;> (repeat' (first | exact True.intro | (with_reducible exact rfl) | exact (rfl : List.replicate 0 PV.bad = []) | ((with_reducible refine And.intro ?_ ?_) <;> (first | (with_reducible exact wkV_same _ rfl) | exact wkV_pt rfl rfl | exact wkV_ow rfl rfl rfl | (refine wkV_ow rfl rfl ?_) | (refine wkV_sc (congrArg (Value.int .i64) ?_)) | (refine wkV_sc (congrArg Value.bool ?_)) | exact wkV_ls rfl | ((refine wkV_cl ?_); conv => whnf) | ((refine wkV_tu ?_); conv => whnf) | ((refine wkV_ag ?_); conv => whnf) | (conv => whnf))))))
        all_goals first | rfl | exact w1 (by omega) | skip
        · refine obj_eq rfl ?_
          rw [ed]; simp
    · simp only [List.length_map] at h
      have : j = l.length := by omega
      subst this
      dsimp only
      rw [List.drop_length, List.append_nil, hkl]
      rw [hkl] at hK
      generalize hKl : (l.filter fun x => !f x) = K at *
      refine ⟨?_, ?_⟩
      · simp only [List.length_map]; omega
      conv => whnf
      refine ⟨⟨by kernel_rfl, ?_⟩, ?_⟩
      · simp only [Int.toNat_natCast, List.length_map, List.length_append]; omega
      conv => whnf
      refine ⟨?_, ?_⟩
      · simp only [List.length_map]; omega
      conv => whnf
      (refine ExitE.mk ⟨[(1000000, 1000000)], [], ?_⟩; (conv => whnf); (refine And.intro (And.intro (by with_unfolding_all rfl) (by intro q h; cases h)) ?_; refine And.intro ?_ (And.intro ?_ ?_) <;> (conv => whnf) <;> (repeat' (first | exact True.intro | (with_reducible exact rfl) | exact (rfl : List.replicate 0 PV.bad = []) | ((with_reducible refine And.intro ?_ ?_) <;> (first | (with_reducible exact wkV_same _ rfl) | exact wkV_pt rfl rfl | exact wkV_ow rfl rfl rfl | (refine wkV_ow rfl rfl ?_) | (refine wkV_sc (congrArg (Value.int .i64) ?_)) | (refine wkV_sc (congrArg Value.bool ?_)) | exact wkV_ls rfl | ((refine wkV_cl ?_); conv => whnf) | ((refine wkV_tu ?_); conv => whnf) | ((refine wkV_ag ?_); conv => whnf) | (conv => whnf)))))))
      all_goals first | rfl | skip
      · refine obj_eq rfl ?_
        simp only [Int.toNat_natCast, List.length_map, Nat.zero_add]
        rw [List.drop_eq_nil_of_le (by simp only [List.length_map, List.length_append]; omega), List.append_nil, List.map_append, List.take_append_of_le_length (by simp), List.take_of_length_le (by simp)]
      · simp
theorem c_within1 (rg : Int) (x : Pl) : Ctr Try.prog 103 [.ag x.enc, .ep [iv rg]] (bv (x.region != rg)) [] := by
  refine spec_of_body mixed Try.func103 rfl (by kernel_rfl) (by kernel_rfl) ?_; conv => whnf
  exact exit_plain rfl rfl
def regL (l : List Pl) (rg : Int) : List Pl := l.filter fun x => !(x.region != rg)
theorem c_withinE (l : List Pl) (hl : l.length ≤ 4294967) (h : plsB l = false) (rg : Int) : Ctr Try.prog 67 [.sl 4 (l.map Pl.enc), iv rg] (.tu [.nl, iv 1]) [] := by
  have k := c_PCheck l hl
  rw [h, if_neg (by decide)] at k
  refine spec_of_body mixed Try.func67 rfl (by kernel_rfl) (by kernel_rfl) ?_; conv => whnf
  ((try ((refine Exists.intro none ?_); (conv => whnf))); first | ((with_reducible refine call_by (k) ?_); conv => whnf))
  exact exit_plain rfl rfl
theorem c_withinN (l : List Pl) (hl : l.length ≤ 4294967) (h : plsB l = true) (rg : Int) (hr : ¬ (0 ≤ rg ∧ rg < 3)) : Ctr Try.prog 67 [.sl 4 (l.map Pl.enc), iv rg] (.tu [.nl, iv 1]) [] := by
  have k := c_PCheck l hl
  rw [if_pos h] at k
  have kr := c_region rg
  rw [decide_eq_false hr] at kr
  refine spec_of_body mixed Try.func67 rfl (by kernel_rfl) (by kernel_rfl) ?_; conv => whnf
  ((try ((refine Exists.intro none ?_); (conv => whnf))); first | ((with_reducible refine call_by (k) ?_); conv => whnf))
  ((try ((refine Exists.intro none ?_); (conv => whnf))); first | ((with_reducible refine call_by (kr) ?_); conv => whnf))
  exact exit_plain rfl rfl
theorem c_within14 (l : List Pl) (hl : l.length ≤ 4294967) (h : plsB l = true) (rg : Int) (hr : 0 ≤ rg ∧ rg < 3) : Ctr Try.prog 67 [.sl 4 (l.map Pl.enc), iv rg] (.tu [.sl 4 ((regL l rg).map Pl.enc), iv 0]) [] := by
  have k := c_PCheck l hl
  rw [if_pos h] at k
  have kr := c_region rg
  rw [decide_eq_true hr] at kr
  have kd := c_DeleteFuncP l hl 103 rg (fun x => x.region != rg) (c_within1 rg)
  refine spec_of_body mixed Try.func67 rfl (by kernel_rfl) (by kernel_rfl) ?_; conv => whnf
  ((try ((refine Exists.intro none ?_); (conv => whnf))); first | ((with_reducible refine call_by (k) ?_); conv => whnf))
  ((try ((refine Exists.intro none ?_); (conv => whnf))); first | ((with_reducible refine call_by (kr) ?_); conv => whnf))
  ((try ((refine Exists.intro none ?_); (conv => whnf))); first | ((with_reducible refine call_by (c_ClonePls l (by omega)) ?_); conv => whnf))
  (refine Exists.intro _ (And.intro rfl (And.intro (by intro q hq; first | (cases hq; done) | (simp only [List.mem_cons, List.not_mem_nil, or_false] at hq; rcases hq with rfl | rfl <;> (simp only [List.length_cons, List.length_nil]; omega)) | (simp only [List.mem_cons, List.not_mem_nil, or_false] at hq; subst hq; simp only [List.length_cons, List.length_nil]; omega)) (And.intro (by intro i hi; simp only [List.length_cons, List.length_nil, Nat.lt_one_iff, Nat.zero_add] at hi; subst hi; rfl) ?_))); conv => whnf)
  ((refine Exists.intro (some ([(1000000, 3)], [(1000000, 288)], [])) ?_); (conv => whnf); first | ((with_reducible refine callE_by (kd) ?_); conv => whnf))
  have hle : (l.filter fun x => !(x.region != rg)).length ≤ l.length := List.length_filter_le _ _
  refine exit_fz2 [(288, false, 4, (regL l rg).map Pl.enc ++ List.replicate (l.length - (regL l rg).length) (List.replicate 4 .bad))] (fun q hq => by rw [List.mem_singleton.1 hq]; rfl) (wkV_tu ⟨?_, wkV_same _ rfl, rfl⟩)
  simp only [WkV]
  refine .inr (.inr ⟨288, 0, _, false, _, rfl, List.Mem.head _, ?_, ?_⟩)
  · show 0 + ((regL l rg).map Pl.enc).length ≤ _
    rw [List.length_append]; omega
  · show (regL l rg).map Pl.enc = List.take ((regL l rg).map Pl.enc).length (List.drop 0 _)
    rw [List.drop_zero, List.take_left]
theorem regL_sub {l : List Pl} {rg : Int} {s : Int} : chkP s l = true → ∀ s', (∀ i, tb s' i = true → tb s i = true) → chkP s' (regL l rg) = true := by
  induction l generalizing s with
  | nil => intro _ s' _; rfl
  | cons q l ih =>
    intro h s' hs
    rw [chkP] at h
    by_cases hq : PlIn q
    · rw [if_pos hq] at h
      by_cases ht : tb s q.node.toNat = true
      · rw [if_pos ht] at h; cases h
      · rw [if_neg ht] at h
        unfold regL
        rw [List.filter_cons]
        split
        · rw [chkP, if_pos hq, if_neg (fun hh => ht (hs _ hh))]
          refine ih h _ (fun i hi => ?_)
          rw [tb_or] at hi ⊢
          simp only [Bool.or_eq_true] at hi ⊢
          rcases hi with hi | hi
          · exact .inl (hs i hi)
          · exact .inr hi
        · refine ih h s' (fun i hi => ?_)
          rw [tb_or, hs i hi]; rfl
    · rw [if_neg hq] at h; cases h
theorem regL_ok {l : List Pl} (h : plsB l = true) (rg : Int) : plsB (regL l rg) = true := regL_sub h 0 (fun _ h => h)
theorem c_Proxy (l : List Pl) (hl : l.length ≤ 4294967) (h : plsB l = true) (rg : Int) (hr : 0 ≤ rg ∧ rg < 3) (bits : Int) : Ctr Try.prog 26 [.sl 4 (l.map Pl.enc), iv rg, iv bits] (.tu [iv (bestP (regL l rg) bits), iv 0]) [] := by
  have k := c_within14 l hl h rg hr
  have hle : (regL l rg).length ≤ l.length := List.length_filter_le _ _
  refine spec_of_body mixed Try.func26 rfl (by kernel_rfl) (by kernel_rfl) ?_; conv => whnf
  ((try ((refine Exists.intro none ?_); (conv => whnf))); first | ((with_reducible refine call_by (k) ?_); conv => whnf))
  (refine Exists.intro _ (And.intro rfl (And.intro (by intro q _; simp only [List.length_nil]; omega) (And.intro (by intro i hi; exact absurd hi (Nat.not_lt_zero i)) ?_))); conv => whnf)
  ((try ((refine Exists.intro none ?_); (conv => whnf))); first | ((with_reducible refine call_by (c_Best (regL l rg) (by omega) (regL_ok h rg) bits) ?_); conv => whnf))
  exact exit_plain rfl rfl
theorem c_ProxyN (l : List Pl) (hl : l.length ≤ 4294967) (h : plsB l = true) (rg : Int) (hr : ¬ (0 ≤ rg ∧ rg < 3)) (bits : Int) : Ctr Try.prog 26 [.sl 4 (l.map Pl.enc), iv rg, iv bits] (.tu [iv 0, iv 1]) [] := by
  refine spec_of_body mixed Try.func26 rfl (by kernel_rfl) (by kernel_rfl) ?_; conv => whnf
  ((try ((refine Exists.intro none ?_); (conv => whnf))); first | ((with_reducible refine call_by (c_withinN l hl h rg hr) ?_); conv => whnf))
  exact exit_plain rfl rfl
end Go.Proofs
