/- PlaceBest (printed by genE2.py). -/
import Derived.Test.YtjgcblmkejnijaaE1
set_option linter.unusedSimpArgs false
set_option linter.unusedVariables false
namespace Go.Proofs
open Go.Pv
set_option maxRecDepth 100000

set_option maxHeartbeats 8000000 in
theorem l_PlaceBest (l : List Pl) (bits rg : Int) : Ctr Try.prog 6 [.sl 4 (l.map Pl.enc), iv bits, iv rg] (bv true) [] := by
  refine spec_of_body mixed Try.func6 rfl (by kernel_rfl) (by kernel_rfl) ?_; conv => whnf
  ((first | (with_reducible refine split_dec (fun h => ?_) (fun h => ?_)) | (with_reducible refine split_beq (fun h => ?_) (fun h => ?_)) | (with_reducible refine split_bne (fun h => ?_) (fun h => ?_)) | (with_reducible refine split_not (fun h => ?_) (fun h => ?_)) | (with_reducible refine split_beqS (fun h => ?_) (fun h => ?_)) | (with_reducible refine split_intro (fun h => ?_) (fun h => ?_))) <;> conv => whnf)
  · exact exit_plain rfl rfl
  have hl : l.length ≤ 100 := by simp only [List.length_map] at h; omega
  clear h
  have hl2 : l.length ≤ 4294967 := by omega
  have kc := c_PCheck l hl2
  cases hok : plsB l with
  | false =>
    rw [hok, if_neg (by decide)] at kc
    ((try ((refine Exists.intro none ?_); (conv => whnf))); first | ((with_reducible refine call_by (kc) ?_); conv => whnf))
    exact exit_plain rfl rfl
  | true =>
  rw [if_pos hok] at kc
  have hin := chkP_in l 0 hok
  have kb := c_Best l hl2 hok bits
  ((try ((refine Exists.intro none ?_); (conv => whnf))); first | ((with_reducible refine call_by (kc) ?_); conv => whnf))
  refine tri_for0 mixed (by kernel_rfl) (fun k : Nat => k ≤ 2) (fun k => [(7, iv k)]) [] (fun k => 2 - k) 0 (Nat.zero_le _) ?_ ?_
  · conv => whnf
    (refine And.intro (And.intro (by with_unfolding_all rfl) (by intro q h; cases h)) ?_; refine And.intro ?_ (And.intro ?_ ?_) <;> (conv => whnf) <;> (repeat' (first | exact True.intro | (with_reducible exact rfl) | exact (rfl : List.replicate 0 PV.bad = []) | ((with_reducible refine And.intro ?_ ?_) <;> (first | (with_reducible exact wkV_same _ rfl) | exact wkV_pt rfl rfl | exact wkV_ow rfl rfl rfl | (refine wkV_ow rfl rfl ?_) | (refine wkV_sc (congrArg (Value.int .i64) ?_)) | (refine wkV_sc (congrArg Value.bool ?_)) | exact wkV_ls rfl | ((refine wkV_cl ?_); conv => whnf) | ((refine wkV_tu ?_); conv => whnf) | ((refine wkV_ag ?_); conv => whnf) | (conv => whnf))))))
    all_goals rfl
  intro k hk
  obtain rfl | rfl | rfl : k = 0 ∨ k = 1 ∨ k = 2 := by omega
  · conv => whnf
    ((try ((refine Exists.intro none ?_); (conv => whnf))); first | ((with_reducible refine call_by (kb) ?_); conv => whnf))
    generalize hat : bestP l bits = at1
    ((try ((refine Exists.intro none ?_); (conv => whnf))); first | ((with_reducible refine call_by (c_Inf1) ?_); conv => whnf))
    refine tri_for0 mixed (by kernel_rfl) (fun b : Nat × Nat × Nat => Least l (fun x : Pl => tb bits x.node.toNat) b.1 b.2.1 b.2.2) (fun b => [(10, iv b.2.1), (11, .sc (.float .f64 b.2.2)), (12, iv b.1)]) [] (fun b => l.length - b.1) (0, 0, infW) (least_0 l (fun x : Pl => tb bits x.node.toNat)) ?_ ?_
    · conv => whnf
      (refine And.intro (And.intro (by with_unfolding_all rfl) (by intro q h; cases h)) ?_; refine And.intro ?_ (And.intro ?_ ?_) <;> (conv => whnf) <;> (repeat' (first | exact True.intro | (with_reducible exact rfl) | exact (rfl : List.replicate 0 PV.bad = []) | ((with_reducible refine And.intro ?_ ?_) <;> (first | (with_reducible exact wkV_same _ rfl) | exact wkV_pt rfl rfl | exact wkV_ow rfl rfl rfl | (refine wkV_ow rfl rfl ?_) | (refine wkV_sc (congrArg (Value.int .i64) ?_)) | (refine wkV_sc (congrArg Value.bool ?_)) | exact wkV_ls rfl | ((refine wkV_cl ?_); conv => whnf) | ((refine wkV_tu ?_); conv => whnf) | ((refine wkV_ag ?_); conv => whnf) | (conv => whnf))))))
      all_goals rfl
    rintro ⟨i, n, b⟩ hL
    simp only at hL
    conv => whnf
    ((first | (with_reducible refine split_dec (fun h => ?_) (fun h => ?_)) | (with_reducible refine split_beq (fun h => ?_) (fun h => ?_)) | (with_reducible refine split_bne (fun h => ?_) (fun h => ?_)) | (with_reducible refine split_not (fun h => ?_) (fun h => ?_)) | (with_reducible refine split_beqS (fun h => ?_) (fun h => ?_)) | (with_reducible refine split_intro (fun h => ?_) (fun h => ?_))) <;> conv => whnf)
    · have hlt : i < l.length := by simp only [List.length_map] at h; omega
      clear h
      have hno : (fun x : Pl => tb bits x.node.toNat) (l[i]'hlt) = false → Least l (fun x : Pl => tb bits x.node.toNat) (i + 1) n b := fun hf => least_no hL hlt hf
      have hyes : (fun x : Pl => tb bits x.node.toNat) (l[i]'hlt) = true → Least l (fun x : Pl => tb bits x.node.toNat) (i + 1) (n + 1) (fminW (compare (fv b) (fv (scoreW (l[i]'hlt)))) b (scoreW (l[i]'hlt))) := fun hf => least_yes hL hlt hf
      have hni := hL.nle
      have hw2 : IntKind.i64.wrap ((n : Int) + 1) = ((n + 1 : Nat) : Int) := w1 (by omega)
      have hw1 : IntKind.i64.wrap ((i : Int) + 1) = ((i + 1 : Nat) : Int) := w1 (by omega)
      obtain ⟨⟨p1, p2⟩, _⟩ := hin _ (List.getElem_mem hlt)
      obtain ⟨w, hw⟩ : ∃ w : Nat, (l[i]'hlt).node = w := ⟨(l[i]'hlt).node.toNat, by omega⟩
      have htw : (l[i]'hlt).node.toNat = w := by omega
      have hb : iand .i64 (ishr .i64 bits (w : Int)) 1 = nb (tb bits w) := bit_shr bits w (by omega)
      (first | ((with_reducible refine And.intro (by omega) (Exists.intro _ (And.intro (row_at hlt) ?_))); conv => whnf))
      rw [hw, wrapu_id (by omega) (by omega)]
      ((with_reducible refine And.intro (And.intro (by first | decide | omega) (by first | decide | omega)) ?_); conv => whnf)
      rw [hb]
      cases ht : tb bits w with
      | false =>
        have hL2 := hno (by simp [htw, ht])
        conv => whnf
        refine ⟨(i + 1, n, b), ⟨hL2, by show l.length - (i + 1) < l.length - i; omega⟩, ?_⟩
        conv => whnf
        (refine And.intro (And.intro (by with_unfolding_all rfl) (by intro q h; cases h)) ?_; refine And.intro ?_ (And.intro ?_ ?_) <;> (conv => whnf) <;> (repeat' (first | exact True.intro | (with_reducible exact rfl) | exact (rfl : List.replicate 0 PV.bad = []) | ((with_reducible refine And.intro ?_ ?_) <;> (first | (with_reducible exact wkV_same _ rfl) | exact wkV_pt rfl rfl | exact wkV_ow rfl rfl rfl | (refine wkV_ow rfl rfl ?_) | (refine wkV_sc (congrArg (Value.int .i64) ?_)) | (refine wkV_sc (congrArg Value.bool ?_)) | exact wkV_ls rfl | ((refine wkV_cl ?_); conv => whnf) | ((refine wkV_tu ?_); conv => whnf) | ((refine wkV_ag ?_); conv => whnf) | (conv => whnf))))))
        all_goals first | exact hw1 | exact hw2 | rfl | trace_state
      | true =>
        conv => whnf
        have hL2 := hyes (by simp [htw, ht])
        (first | ((with_reducible refine And.intro (by omega) (Exists.intro _ (And.intro (row_at hlt) ?_))); conv => whnf))
        ((try ((refine Exists.intro none ?_); (conv => whnf))); first | ((with_reducible refine call_by (c_Score (l[i]'hlt)) ?_); conv => whnf))
        rw [ord_def hL.num (scoreW_num (l[i]'hlt))]
        conv => whnf
        refine ⟨(i + 1, n + 1, _), ⟨hL2, by show l.length - (i + 1) < l.length - i; omega⟩, ?_⟩
        conv => whnf
        (refine And.intro (And.intro (by with_unfolding_all rfl) (by intro q h; cases h)) ?_; refine And.intro ?_ (And.intro ?_ ?_) <;> (conv => whnf) <;> (repeat' (first | exact True.intro | (with_reducible exact rfl) | exact (rfl : List.replicate 0 PV.bad = []) | ((with_reducible refine And.intro ?_ ?_) <;> (first | (with_reducible exact wkV_same _ rfl) | exact wkV_pt rfl rfl | exact wkV_ow rfl rfl rfl | (refine wkV_ow rfl rfl ?_) | (refine wkV_sc (congrArg (Value.int .i64) ?_)) | (refine wkV_sc (congrArg Value.bool ?_)) | exact wkV_ls rfl | ((refine wkV_cl ?_); conv => whnf) | ((refine wkV_tu ?_); conv => whnf) | ((refine wkV_ag ?_); conv => whnf) | (conv => whnf))))))
        all_goals first | exact hw1 | exact hw2 | rfl | trace_state
    have ei : i = l.length := by have := hL.le; simp only [List.length_map] at h; omega
    clear h
    subst ei
    obtain ⟨f1, f2⟩ := least_best (m := l) (bits := bits) hL (fun x => by simp)
    rw [hat] at f1 f2
    ((first | (with_reducible refine split_dec (fun h => ?_) (fun h => ?_)) | (with_reducible refine split_beq (fun h => ?_) (fun h => ?_)) | (with_reducible refine split_bne (fun h => ?_) (fun h => ?_)) | (with_reducible refine split_not (fun h => ?_) (fun h => ?_)) | (with_reducible refine split_beqS (fun h => ?_) (fun h => ?_)) | (with_reducible refine split_intro (fun h => ?_) (fun h => ?_))) <;> conv => whnf)
    · have hn0 : n = 0 := by
        have h' : ((n : Nat) : Int) = 0 := h
        omega
      rw [f1 hn0]
      conv => whnf
      refine ⟨1, ⟨by decide, by decide⟩, ?_⟩
      conv => whnf
      (refine And.intro (And.intro (by with_unfolding_all rfl) (by intro q h; cases h)) ?_; refine And.intro ?_ (And.intro ?_ ?_) <;> (conv => whnf) <;> (repeat' (first | exact True.intro | (with_reducible exact rfl) | exact (rfl : List.replicate 0 PV.bad = []) | ((with_reducible refine And.intro ?_ ?_) <;> (first | (with_reducible exact wkV_same _ rfl) | exact wkV_pt rfl rfl | exact wkV_ow rfl rfl rfl | (refine wkV_ow rfl rfl ?_) | (refine wkV_sc (congrArg (Value.int .i64) ?_)) | (refine wkV_sc (congrArg Value.bool ?_)) | exact wkV_ls rfl | ((refine wkV_cl ?_); conv => whnf) | ((refine wkV_tu ?_); conv => whnf) | ((refine wkV_ag ?_); conv => whnf) | (conv => whnf))))))
      all_goals first | rfl | trace_state
    · have hn0 : 0 < n := by
        have h' : ¬ ((n : Nat) : Int) = 0 := h
        omega
      obtain ⟨q, hq, hqf, hqb, hqn, hqs⟩ := f2 hn0
      subst hqn
      have hnum := hL.num
      refine tri_for0 mixed (by kernel_rfl) (fun c : Nat × Bool => c.1 ≤ l.length ∧ ∀ j (hj : j < l.length), j < c.1 → (l[j]'hj) = q → c.2 = true) (fun c => [(13, bv c.2), (14, iv c.1)]) [] (fun c => l.length - c.1) (0, false) ⟨Nat.zero_le _, fun j _ h => absurd h (Nat.not_lt_zero _)⟩ ?_ ?_
      · conv => whnf
        (refine And.intro (And.intro (by with_unfolding_all rfl) (by intro q h; cases h)) ?_; refine And.intro ?_ (And.intro ?_ ?_) <;> (conv => whnf) <;> (repeat' (first | exact True.intro | (with_reducible exact rfl) | exact (rfl : List.replicate 0 PV.bad = []) | ((with_reducible refine And.intro ?_ ?_) <;> (first | (with_reducible exact wkV_same _ rfl) | exact wkV_pt rfl rfl | exact wkV_ow rfl rfl rfl | (refine wkV_ow rfl rfl ?_) | (refine wkV_sc (congrArg (Value.int .i64) ?_)) | (refine wkV_sc (congrArg Value.bool ?_)) | exact wkV_ls rfl | ((refine wkV_cl ?_); conv => whnf) | ((refine wkV_tu ?_); conv => whnf) | ((refine wkV_ag ?_); conv => whnf) | (conv => whnf))))))
        all_goals rfl
      rintro ⟨i, fd⟩ ⟨hi, hfd⟩
      simp only at hi hfd
      conv => whnf
      ((first | (with_reducible refine split_dec (fun h => ?_) (fun h => ?_)) | (with_reducible refine split_beq (fun h => ?_) (fun h => ?_)) | (with_reducible refine split_bne (fun h => ?_) (fun h => ?_)) | (with_reducible refine split_not (fun h => ?_) (fun h => ?_)) | (with_reducible refine split_beqS (fun h => ?_) (fun h => ?_)) | (with_reducible refine split_intro (fun h => ?_) (fun h => ?_))) <;> conv => whnf)
      · have hlt : i < l.length := by simp only [List.length_map] at h; omega
        clear h
        have hw1 : IntKind.i64.wrap ((i : Int) + 1) = ((i + 1 : Nat) : Int) := w1 (by omega)
        have no : fd = false → (l[i]'hlt) ≠ q → ∀ j (hj : j < l.length), j < i + 1 → (l[j]'hj) = q → false = true := fun e1 e2 j hj hji e3 => by
          by_cases ej : j = i
          · subst ej; exact absurd e3 e2
          · have := hfd j hj (by omega) e3
            rw [e1] at this; exact this
        have fin : ∀ fd2 : Bool, (∀ j (hj : j < l.length), j < i + 1 → (l[j]'hj) = q → fd2 = true) → i + 1 ≤ l.length ∧ ∀ j (hj : j < l.length), j < i + 1 → (l[j]'hj) = q → fd2 = true := fun fd2 h => ⟨hlt, h⟩
        cases fd with
        | true =>
          conv => whnf
          refine ⟨(i + 1, true), ⟨fin true (fun _ _ _ _ => rfl), by show l.length - (i + 1) < l.length - i; omega⟩, ?_⟩
          conv => whnf
          (refine And.intro (And.intro (by with_unfolding_all rfl) (by intro q h; cases h)) ?_; refine And.intro ?_ (And.intro ?_ ?_) <;> (conv => whnf) <;> (repeat' (first | exact True.intro | (with_reducible exact rfl) | exact (rfl : List.replicate 0 PV.bad = []) | ((with_reducible refine And.intro ?_ ?_) <;> (first | (with_reducible exact wkV_same _ rfl) | exact wkV_pt rfl rfl | exact wkV_ow rfl rfl rfl | (refine wkV_ow rfl rfl ?_) | (refine wkV_sc (congrArg (Value.int .i64) ?_)) | (refine wkV_sc (congrArg Value.bool ?_)) | exact wkV_ls rfl | ((refine wkV_cl ?_); conv => whnf) | ((refine wkV_tu ?_); conv => whnf) | ((refine wkV_ag ?_); conv => whnf) | (conv => whnf))))))
          all_goals first | exact hw1 | rfl | trace_state
        | false =>
          conv => whnf
          (first | ((with_reducible refine And.intro (by omega) (Exists.intro _ (And.intro (row_at hlt) ?_))); conv => whnf))
          ((first | (with_reducible refine split_dec (fun h => ?_) (fun h => ?_)) | (with_reducible refine split_beq (fun h => ?_) (fun h => ?_)) | (with_reducible refine split_bne (fun h => ?_) (fun h => ?_)) | (with_reducible refine split_not (fun h => ?_) (fun h => ?_)) | (with_reducible refine split_beqS (fun h => ?_) (fun h => ?_)) | (with_reducible refine split_intro (fun h => ?_) (fun h => ?_))) <;> conv => whnf)
          · have hn1 := h
            (first | ((with_reducible refine And.intro (by omega) (Exists.intro _ (And.intro (row_at hlt) ?_))); conv => whnf))
            ((try ((refine Exists.intro none ?_); (conv => whnf))); first | ((with_reducible refine call_by (c_Score (l[i]'hlt)) ?_); conv => whnf))
            have o2 := ord_eq (scoreW_num (l[i]'hlt)) hnum
            rw [o2]
            ((first | (with_reducible refine split_dec (fun h => ?_) (fun h => ?_)) | (with_reducible refine split_beq (fun h => ?_) (fun h => ?_)) | (with_reducible refine split_bne (fun h => ?_) (fun h => ?_)) | (with_reducible refine split_not (fun h => ?_) (fun h => ?_)) | (with_reducible refine split_beqS (fun h => ?_) (fun h => ?_)) | (with_reducible refine split_intro (fun h => ?_) (fun h => ?_))) <;> conv => whnf)
            · refine ⟨(i + 1, true), ⟨fin true (fun _ _ _ _ => rfl), by show l.length - (i + 1) < l.length - i; omega⟩, ?_⟩
              conv => whnf
              (refine And.intro (And.intro (by with_unfolding_all rfl) (by intro q h; cases h)) ?_; refine And.intro ?_ (And.intro ?_ ?_) <;> (conv => whnf) <;> (repeat' (first | exact True.intro | (with_reducible exact rfl) | exact (rfl : List.replicate 0 PV.bad = []) | ((with_reducible refine And.intro ?_ ?_) <;> (first | (with_reducible exact wkV_same _ rfl) | exact wkV_pt rfl rfl | exact wkV_ow rfl rfl rfl | (refine wkV_ow rfl rfl ?_) | (refine wkV_sc (congrArg (Value.int .i64) ?_)) | (refine wkV_sc (congrArg Value.bool ?_)) | exact wkV_ls rfl | ((refine wkV_cl ?_); conv => whnf) | ((refine wkV_tu ?_); conv => whnf) | ((refine wkV_ag ?_); conv => whnf) | (conv => whnf))))))
              all_goals first | exact hw1 | rfl | trace_state
            · have hne : (l[i]'hlt) ≠ q := fun e => h (by rw [e]; exact hqs)
              refine ⟨(i + 1, false), ⟨fin false (no rfl hne), by show l.length - (i + 1) < l.length - i; omega⟩, ?_⟩
              conv => whnf
              (refine And.intro (And.intro (by with_unfolding_all rfl) (by intro q h; cases h)) ?_; refine And.intro ?_ (And.intro ?_ ?_) <;> (conv => whnf) <;> (repeat' (first | exact True.intro | (with_reducible exact rfl) | exact (rfl : List.replicate 0 PV.bad = []) | ((with_reducible refine And.intro ?_ ?_) <;> (first | (with_reducible exact wkV_same _ rfl) | exact wkV_pt rfl rfl | exact wkV_ow rfl rfl rfl | (refine wkV_ow rfl rfl ?_) | (refine wkV_sc (congrArg (Value.int .i64) ?_)) | (refine wkV_sc (congrArg Value.bool ?_)) | exact wkV_ls rfl | ((refine wkV_cl ?_); conv => whnf) | ((refine wkV_tu ?_); conv => whnf) | ((refine wkV_ag ?_); conv => whnf) | (conv => whnf))))))
              all_goals first | exact hw1 | rfl | trace_state
          · have hne : (l[i]'hlt) ≠ q := fun e => h (by rw [e])
            refine ⟨(i + 1, false), ⟨fin false (no rfl hne), by show l.length - (i + 1) < l.length - i; omega⟩, ?_⟩
            conv => whnf
            (refine And.intro (And.intro (by with_unfolding_all rfl) (by intro q h; cases h)) ?_; refine And.intro ?_ (And.intro ?_ ?_) <;> (conv => whnf) <;> (repeat' (first | exact True.intro | (with_reducible exact rfl) | exact (rfl : List.replicate 0 PV.bad = []) | ((with_reducible refine And.intro ?_ ?_) <;> (first | (with_reducible exact wkV_same _ rfl) | exact wkV_pt rfl rfl | exact wkV_ow rfl rfl rfl | (refine wkV_ow rfl rfl ?_) | (refine wkV_sc (congrArg (Value.int .i64) ?_)) | (refine wkV_sc (congrArg Value.bool ?_)) | exact wkV_ls rfl | ((refine wkV_cl ?_); conv => whnf) | ((refine wkV_tu ?_); conv => whnf) | ((refine wkV_ag ?_); conv => whnf) | (conv => whnf))))))
            all_goals first | exact hw1 | rfl | trace_state
      · have ei : i = l.length := by simp only [List.length_map] at h; omega
        subst ei
        obtain ⟨j, hj, ej⟩ := List.getElem_of_mem hq
        have hfd1 : fd = true := hfd j hj hj ej
        subst hfd1
        obtain ⟨⟨p1, p2⟩, _⟩ := hin q hq
        obtain ⟨w, hw⟩ : ∃ w : Nat, q.node = w := ⟨q.node.toNat, by omega⟩
        have hb : iand .i64 (ishr .i64 bits (w : Int)) 1 = nb (tb bits w) := bit_shr bits w (by omega)
        conv => whnf
        rw [hw, wrapu_id (by omega) (by omega)]
        ((with_reducible refine And.intro (And.intro (by first | decide | omega) (by first | decide | omega)) ?_); conv => whnf)
        rw [hb, show tb bits w = true by rw [← hqb, show q.node.toNat = w by omega]]
        conv => whnf
        refine ⟨1, ⟨by decide, by decide⟩, ?_⟩
        conv => whnf
        (refine And.intro (And.intro (by with_unfolding_all rfl) (by intro q h; cases h)) ?_; refine And.intro ?_ (And.intro ?_ ?_) <;> (conv => whnf) <;> (repeat' (first | exact True.intro | (with_reducible exact rfl) | exact (rfl : List.replicate 0 PV.bad = []) | ((with_reducible refine And.intro ?_ ?_) <;> (first | (with_reducible exact wkV_same _ rfl) | exact wkV_pt rfl rfl | exact wkV_ow rfl rfl rfl | (refine wkV_ow rfl rfl ?_) | (refine wkV_sc (congrArg (Value.int .i64) ?_)) | (refine wkV_sc (congrArg Value.bool ?_)) | exact wkV_ls rfl | ((refine wkV_cl ?_); conv => whnf) | ((refine wkV_tu ?_); conv => whnf) | ((refine wkV_ag ?_); conv => whnf) | (conv => whnf))))))
        all_goals first | rfl | trace_state
  · conv => whnf
    ((try ((refine Exists.intro none ?_); (conv => whnf))); first | ((with_reducible refine call_by (kb) ?_); conv => whnf))
    by_cases hr : 0 ≤ rg ∧ rg < 3
    · have kp := c_Proxy l hl2 hok rg hr bits
      ((try ((refine Exists.intro none ?_); (conv => whnf))); first | ((with_reducible refine call_by (kp) ?_); conv => whnf))
      generalize hat : bestP (regL l rg) bits = at1
      ((try ((refine Exists.intro none ?_); (conv => whnf))); first | ((with_reducible refine call_by (c_Inf1) ?_); conv => whnf))
      refine tri_for0 mixed (by kernel_rfl) (fun b : Nat × Nat × Nat => Least l (fun x : Pl => tb bits x.node.toNat && decide (x.region = rg)) b.1 b.2.1 b.2.2) (fun b => [(10, iv b.2.1), (11, .sc (.float .f64 b.2.2)), (12, iv b.1)]) [] (fun b => l.length - b.1) (0, 0, infW) (least_0 l (fun x : Pl => tb bits x.node.toNat && decide (x.region = rg))) ?_ ?_
      · conv => whnf
        (refine And.intro (And.intro (by with_unfolding_all rfl) (by intro q h; cases h)) ?_; refine And.intro ?_ (And.intro ?_ ?_) <;> (conv => whnf) <;> (repeat' (first | exact True.intro | (with_reducible exact rfl) | exact (rfl : List.replicate 0 PV.bad = []) | ((with_reducible refine And.intro ?_ ?_) <;> (first | (with_reducible exact wkV_same _ rfl) | exact wkV_pt rfl rfl | exact wkV_ow rfl rfl rfl | (refine wkV_ow rfl rfl ?_) | (refine wkV_sc (congrArg (Value.int .i64) ?_)) | (refine wkV_sc (congrArg Value.bool ?_)) | exact wkV_ls rfl | ((refine wkV_cl ?_); conv => whnf) | ((refine wkV_tu ?_); conv => whnf) | ((refine wkV_ag ?_); conv => whnf) | (conv => whnf))))))
        all_goals rfl
      rintro ⟨i, n, b⟩ hL
      simp only at hL
      conv => whnf
      ((first | (with_reducible refine split_dec (fun h => ?_) (fun h => ?_)) | (with_reducible refine split_beq (fun h => ?_) (fun h => ?_)) | (with_reducible refine split_bne (fun h => ?_) (fun h => ?_)) | (with_reducible refine split_not (fun h => ?_) (fun h => ?_)) | (with_reducible refine split_beqS (fun h => ?_) (fun h => ?_)) | (with_reducible refine split_intro (fun h => ?_) (fun h => ?_))) <;> conv => whnf)
      · have hlt : i < l.length := by simp only [List.length_map] at h; omega
        clear h
        have hno : (fun x : Pl => tb bits x.node.toNat && decide (x.region = rg)) (l[i]'hlt) = false → Least l (fun x : Pl => tb bits x.node.toNat && decide (x.region = rg)) (i + 1) n b := fun hf => least_no hL hlt hf
        have hyes : (fun x : Pl => tb bits x.node.toNat && decide (x.region = rg)) (l[i]'hlt) = true → Least l (fun x : Pl => tb bits x.node.toNat && decide (x.region = rg)) (i + 1) (n + 1) (fminW (compare (fv b) (fv (scoreW (l[i]'hlt)))) b (scoreW (l[i]'hlt))) := fun hf => least_yes hL hlt hf
        have hni := hL.nle
        have hw2 : IntKind.i64.wrap ((n : Int) + 1) = ((n + 1 : Nat) : Int) := w1 (by omega)
        have hw1 : IntKind.i64.wrap ((i : Int) + 1) = ((i + 1 : Nat) : Int) := w1 (by omega)
        obtain ⟨⟨p1, p2⟩, _⟩ := hin _ (List.getElem_mem hlt)
        obtain ⟨w, hw⟩ : ∃ w : Nat, (l[i]'hlt).node = w := ⟨(l[i]'hlt).node.toNat, by omega⟩
        have htw : (l[i]'hlt).node.toNat = w := by omega
        have hb : iand .i64 (ishr .i64 bits (w : Int)) 1 = nb (tb bits w) := bit_shr bits w (by omega)
        (first | ((with_reducible refine And.intro (by omega) (Exists.intro _ (And.intro (row_at hlt) ?_))); conv => whnf))
        rw [hw, wrapu_id (by omega) (by omega)]
        ((with_reducible refine And.intro (And.intro (by first | decide | omega) (by first | decide | omega)) ?_); conv => whnf)
        rw [hb]
        cases ht : tb bits w with
        | false =>
          have hL2 := hno (by simp [htw, ht])
          conv => whnf
          refine ⟨(i + 1, n, b), ⟨hL2, by show l.length - (i + 1) < l.length - i; omega⟩, ?_⟩
          conv => whnf
          (refine And.intro (And.intro (by with_unfolding_all rfl) (by intro q h; cases h)) ?_; refine And.intro ?_ (And.intro ?_ ?_) <;> (conv => whnf) <;> (repeat' (first | exact True.intro | (with_reducible exact rfl) | exact (rfl : List.replicate 0 PV.bad = []) | ((with_reducible refine And.intro ?_ ?_) <;> (first | (with_reducible exact wkV_same _ rfl) | exact wkV_pt rfl rfl | exact wkV_ow rfl rfl rfl | (refine wkV_ow rfl rfl ?_) | (refine wkV_sc (congrArg (Value.int .i64) ?_)) | (refine wkV_sc (congrArg Value.bool ?_)) | exact wkV_ls rfl | ((refine wkV_cl ?_); conv => whnf) | ((refine wkV_tu ?_); conv => whnf) | ((refine wkV_ag ?_); conv => whnf) | (conv => whnf))))))
          all_goals first | exact hw1 | exact hw2 | rfl | trace_state
        | true =>
          conv => whnf
          (first | ((with_reducible refine And.intro (by omega) (Exists.intro _ (And.intro (row_at hlt) ?_))); conv => whnf))
          ((first | (with_reducible refine split_dec (fun h => ?_) (fun h => ?_)) | (with_reducible refine split_beq (fun h => ?_) (fun h => ?_)) | (with_reducible refine split_bne (fun h => ?_) (fun h => ?_)) | (with_reducible refine split_not (fun h => ?_) (fun h => ?_)) | (with_reducible refine split_beqS (fun h => ?_) (fun h => ?_)) | (with_reducible refine split_intro (fun h => ?_) (fun h => ?_))) <;> conv => whnf)
          rotate_left
          · have hL2 := hno (by simp [htw, ht, h])
            refine ⟨(i + 1, n, b), ⟨hL2, by show l.length - (i + 1) < l.length - i; omega⟩, ?_⟩
            conv => whnf
            (refine And.intro (And.intro (by with_unfolding_all rfl) (by intro q h; cases h)) ?_; refine And.intro ?_ (And.intro ?_ ?_) <;> (conv => whnf) <;> (repeat' (first | exact True.intro | (with_reducible exact rfl) | exact (rfl : List.replicate 0 PV.bad = []) | ((with_reducible refine And.intro ?_ ?_) <;> (first | (with_reducible exact wkV_same _ rfl) | exact wkV_pt rfl rfl | exact wkV_ow rfl rfl rfl | (refine wkV_ow rfl rfl ?_) | (refine wkV_sc (congrArg (Value.int .i64) ?_)) | (refine wkV_sc (congrArg Value.bool ?_)) | exact wkV_ls rfl | ((refine wkV_cl ?_); conv => whnf) | ((refine wkV_tu ?_); conv => whnf) | ((refine wkV_ag ?_); conv => whnf) | (conv => whnf))))))
            all_goals first | exact hw1 | exact hw2 | rfl | trace_state
          have hL2 := hyes (by simp [htw, ht, h])
          (first | ((with_reducible refine And.intro (by omega) (Exists.intro _ (And.intro (row_at hlt) ?_))); conv => whnf))
          ((try ((refine Exists.intro none ?_); (conv => whnf))); first | ((with_reducible refine call_by (c_Score (l[i]'hlt)) ?_); conv => whnf))
          rw [ord_def hL.num (scoreW_num (l[i]'hlt))]
          conv => whnf
          refine ⟨(i + 1, n + 1, _), ⟨hL2, by show l.length - (i + 1) < l.length - i; omega⟩, ?_⟩
          conv => whnf
          (refine And.intro (And.intro (by with_unfolding_all rfl) (by intro q h; cases h)) ?_; refine And.intro ?_ (And.intro ?_ ?_) <;> (conv => whnf) <;> (repeat' (first | exact True.intro | (with_reducible exact rfl) | exact (rfl : List.replicate 0 PV.bad = []) | ((with_reducible refine And.intro ?_ ?_) <;> (first | (with_reducible exact wkV_same _ rfl) | exact wkV_pt rfl rfl | exact wkV_ow rfl rfl rfl | (refine wkV_ow rfl rfl ?_) | (refine wkV_sc (congrArg (Value.int .i64) ?_)) | (refine wkV_sc (congrArg Value.bool ?_)) | exact wkV_ls rfl | ((refine wkV_cl ?_); conv => whnf) | ((refine wkV_tu ?_); conv => whnf) | ((refine wkV_ag ?_); conv => whnf) | (conv => whnf))))))
          all_goals first | exact hw1 | exact hw2 | rfl | trace_state
      have ei : i = l.length := by have := hL.le; simp only [List.length_map] at h; omega
      clear h
      subst ei
      obtain ⟨f1, f2⟩ := least_best (m := (regL l rg)) (bits := bits) hL (fun x => by rw [regL_mem, Bool.and_eq_true, decide_eq_true_eq]; exact ⟨fun h => ⟨h.1.1, h.2, h.1.2⟩, fun h => ⟨⟨h.1, h.2.2⟩, h.2.1⟩⟩)
      rw [hat] at f1 f2
      ((first | (with_reducible refine split_dec (fun h => ?_) (fun h => ?_)) | (with_reducible refine split_beq (fun h => ?_) (fun h => ?_)) | (with_reducible refine split_bne (fun h => ?_) (fun h => ?_)) | (with_reducible refine split_not (fun h => ?_) (fun h => ?_)) | (with_reducible refine split_beqS (fun h => ?_) (fun h => ?_)) | (with_reducible refine split_intro (fun h => ?_) (fun h => ?_))) <;> conv => whnf)
      · have hn0 : n = 0 := by
          have h' : ((n : Nat) : Int) = 0 := h
          omega
        rw [f1 hn0]
        conv => whnf
        refine ⟨2, ⟨by decide, by decide⟩, ?_⟩
        conv => whnf
        (refine And.intro (And.intro (by with_unfolding_all rfl) (by intro q h; cases h)) ?_; refine And.intro ?_ (And.intro ?_ ?_) <;> (conv => whnf) <;> (repeat' (first | exact True.intro | (with_reducible exact rfl) | exact (rfl : List.replicate 0 PV.bad = []) | ((with_reducible refine And.intro ?_ ?_) <;> (first | (with_reducible exact wkV_same _ rfl) | exact wkV_pt rfl rfl | exact wkV_ow rfl rfl rfl | (refine wkV_ow rfl rfl ?_) | (refine wkV_sc (congrArg (Value.int .i64) ?_)) | (refine wkV_sc (congrArg Value.bool ?_)) | exact wkV_ls rfl | ((refine wkV_cl ?_); conv => whnf) | ((refine wkV_tu ?_); conv => whnf) | ((refine wkV_ag ?_); conv => whnf) | (conv => whnf))))))
        all_goals first | rfl | trace_state
      · have hn0 : 0 < n := by
          have h' : ¬ ((n : Nat) : Int) = 0 := h
          omega
        obtain ⟨q, hq, hqf, hqb, hqn, hqs⟩ := f2 hn0
        subst hqn
        have hnum := hL.num
        refine tri_for0 mixed (by kernel_rfl) (fun c : Nat × Bool => c.1 ≤ l.length ∧ ∀ j (hj : j < l.length), j < c.1 → (l[j]'hj) = q → c.2 = true) (fun c => [(13, bv c.2), (14, iv c.1)]) [] (fun c => l.length - c.1) (0, false) ⟨Nat.zero_le _, fun j _ h => absurd h (Nat.not_lt_zero _)⟩ ?_ ?_
        · conv => whnf
          (refine And.intro (And.intro (by with_unfolding_all rfl) (by intro q h; cases h)) ?_; refine And.intro ?_ (And.intro ?_ ?_) <;> (conv => whnf) <;> (repeat' (first | exact True.intro | (with_reducible exact rfl) | exact (rfl : List.replicate 0 PV.bad = []) | ((with_reducible refine And.intro ?_ ?_) <;> (first | (with_reducible exact wkV_same _ rfl) | exact wkV_pt rfl rfl | exact wkV_ow rfl rfl rfl | (refine wkV_ow rfl rfl ?_) | (refine wkV_sc (congrArg (Value.int .i64) ?_)) | (refine wkV_sc (congrArg Value.bool ?_)) | exact wkV_ls rfl | ((refine wkV_cl ?_); conv => whnf) | ((refine wkV_tu ?_); conv => whnf) | ((refine wkV_ag ?_); conv => whnf) | (conv => whnf))))))
          all_goals rfl
        rintro ⟨i, fd⟩ ⟨hi, hfd⟩
        simp only at hi hfd
        conv => whnf
        ((first | (with_reducible refine split_dec (fun h => ?_) (fun h => ?_)) | (with_reducible refine split_beq (fun h => ?_) (fun h => ?_)) | (with_reducible refine split_bne (fun h => ?_) (fun h => ?_)) | (with_reducible refine split_not (fun h => ?_) (fun h => ?_)) | (with_reducible refine split_beqS (fun h => ?_) (fun h => ?_)) | (with_reducible refine split_intro (fun h => ?_) (fun h => ?_))) <;> conv => whnf)
        · have hlt : i < l.length := by simp only [List.length_map] at h; omega
          clear h
          have hw1 : IntKind.i64.wrap ((i : Int) + 1) = ((i + 1 : Nat) : Int) := w1 (by omega)
          have no : fd = false → (l[i]'hlt) ≠ q → ∀ j (hj : j < l.length), j < i + 1 → (l[j]'hj) = q → false = true := fun e1 e2 j hj hji e3 => by
            by_cases ej : j = i
            · subst ej; exact absurd e3 e2
            · have := hfd j hj (by omega) e3
              rw [e1] at this; exact this
          have fin : ∀ fd2 : Bool, (∀ j (hj : j < l.length), j < i + 1 → (l[j]'hj) = q → fd2 = true) → i + 1 ≤ l.length ∧ ∀ j (hj : j < l.length), j < i + 1 → (l[j]'hj) = q → fd2 = true := fun fd2 h => ⟨hlt, h⟩
          cases fd with
          | true =>
            conv => whnf
            refine ⟨(i + 1, true), ⟨fin true (fun _ _ _ _ => rfl), by show l.length - (i + 1) < l.length - i; omega⟩, ?_⟩
            conv => whnf
            (refine And.intro (And.intro (by with_unfolding_all rfl) (by intro q h; cases h)) ?_; refine And.intro ?_ (And.intro ?_ ?_) <;> (conv => whnf) <;> (repeat' (first | exact True.intro | (with_reducible exact rfl) | exact (rfl : List.replicate 0 PV.bad = []) | ((with_reducible refine And.intro ?_ ?_) <;> (first | (with_reducible exact wkV_same _ rfl) | exact wkV_pt rfl rfl | exact wkV_ow rfl rfl rfl | (refine wkV_ow rfl rfl ?_) | (refine wkV_sc (congrArg (Value.int .i64) ?_)) | (refine wkV_sc (congrArg Value.bool ?_)) | exact wkV_ls rfl | ((refine wkV_cl ?_); conv => whnf) | ((refine wkV_tu ?_); conv => whnf) | ((refine wkV_ag ?_); conv => whnf) | (conv => whnf))))))
            all_goals first | exact hw1 | rfl | trace_state
          | false =>
            conv => whnf
            (first | ((with_reducible refine And.intro (by omega) (Exists.intro _ (And.intro (row_at hlt) ?_))); conv => whnf))
            ((first | (with_reducible refine split_dec (fun h => ?_) (fun h => ?_)) | (with_reducible refine split_beq (fun h => ?_) (fun h => ?_)) | (with_reducible refine split_bne (fun h => ?_) (fun h => ?_)) | (with_reducible refine split_not (fun h => ?_) (fun h => ?_)) | (with_reducible refine split_beqS (fun h => ?_) (fun h => ?_)) | (with_reducible refine split_intro (fun h => ?_) (fun h => ?_))) <;> conv => whnf)
            · have hn1 := h
              (first | ((with_reducible refine And.intro (by omega) (Exists.intro _ (And.intro (row_at hlt) ?_))); conv => whnf))
              ((try ((refine Exists.intro none ?_); (conv => whnf))); first | ((with_reducible refine call_by (c_Score (l[i]'hlt)) ?_); conv => whnf))
              have o2 := ord_eq (scoreW_num (l[i]'hlt)) hnum
              rw [o2]
              ((first | (with_reducible refine split_dec (fun h => ?_) (fun h => ?_)) | (with_reducible refine split_beq (fun h => ?_) (fun h => ?_)) | (with_reducible refine split_bne (fun h => ?_) (fun h => ?_)) | (with_reducible refine split_not (fun h => ?_) (fun h => ?_)) | (with_reducible refine split_beqS (fun h => ?_) (fun h => ?_)) | (with_reducible refine split_intro (fun h => ?_) (fun h => ?_))) <;> conv => whnf)
              · (first | ((with_reducible refine And.intro (by omega) (Exists.intro _ (And.intro (row_at hlt) ?_))); conv => whnf))
                have hd : ∀ j (hj : j < l.length), j < i + 1 → (l[j]'hj) = q → decide ((l[i]'hlt).region = rg) = true := fun j hj hji e3 => by
                  by_cases ej : j = i
                  · subst ej
                    rw [e3]
                    simp only [Bool.and_eq_true] at hqf
                    exact hqf.2
                  · have := hfd j hj (by omega) e3
                    cases this
                refine ⟨(i + 1, decide ((l[i]'hlt).region = rg)), ⟨fin _ hd, by show l.length - (i + 1) < l.length - i; omega⟩, ?_⟩
                conv => whnf
                (refine And.intro (And.intro (by with_unfolding_all rfl) (by intro q h; cases h)) ?_; refine And.intro ?_ (And.intro ?_ ?_) <;> (conv => whnf) <;> (repeat' (first | exact True.intro | (with_reducible exact rfl) | exact (rfl : List.replicate 0 PV.bad = []) | ((with_reducible refine And.intro ?_ ?_) <;> (first | (with_reducible exact wkV_same _ rfl) | exact wkV_pt rfl rfl | exact wkV_ow rfl rfl rfl | (refine wkV_ow rfl rfl ?_) | (refine wkV_sc (congrArg (Value.int .i64) ?_)) | (refine wkV_sc (congrArg Value.bool ?_)) | exact wkV_ls rfl | ((refine wkV_cl ?_); conv => whnf) | ((refine wkV_tu ?_); conv => whnf) | ((refine wkV_ag ?_); conv => whnf) | (conv => whnf))))))
                all_goals first | exact hw1 | rfl | trace_state
              · have hne : (l[i]'hlt) ≠ q := fun e => h (by rw [e]; exact hqs)
                refine ⟨(i + 1, false), ⟨fin false (no rfl hne), by show l.length - (i + 1) < l.length - i; omega⟩, ?_⟩
                conv => whnf
                (refine And.intro (And.intro (by with_unfolding_all rfl) (by intro q h; cases h)) ?_; refine And.intro ?_ (And.intro ?_ ?_) <;> (conv => whnf) <;> (repeat' (first | exact True.intro | (with_reducible exact rfl) | exact (rfl : List.replicate 0 PV.bad = []) | ((with_reducible refine And.intro ?_ ?_) <;> (first | (with_reducible exact wkV_same _ rfl) | exact wkV_pt rfl rfl | exact wkV_ow rfl rfl rfl | (refine wkV_ow rfl rfl ?_) | (refine wkV_sc (congrArg (Value.int .i64) ?_)) | (refine wkV_sc (congrArg Value.bool ?_)) | exact wkV_ls rfl | ((refine wkV_cl ?_); conv => whnf) | ((refine wkV_tu ?_); conv => whnf) | ((refine wkV_ag ?_); conv => whnf) | (conv => whnf))))))
                all_goals first | exact hw1 | rfl | trace_state
            · have hne : (l[i]'hlt) ≠ q := fun e => h (by rw [e])
              refine ⟨(i + 1, false), ⟨fin false (no rfl hne), by show l.length - (i + 1) < l.length - i; omega⟩, ?_⟩
              conv => whnf
              (refine And.intro (And.intro (by with_unfolding_all rfl) (by intro q h; cases h)) ?_; refine And.intro ?_ (And.intro ?_ ?_) <;> (conv => whnf) <;> (repeat' (first | exact True.intro | (with_reducible exact rfl) | exact (rfl : List.replicate 0 PV.bad = []) | ((with_reducible refine And.intro ?_ ?_) <;> (first | (with_reducible exact wkV_same _ rfl) | exact wkV_pt rfl rfl | exact wkV_ow rfl rfl rfl | (refine wkV_ow rfl rfl ?_) | (refine wkV_sc (congrArg (Value.int .i64) ?_)) | (refine wkV_sc (congrArg Value.bool ?_)) | exact wkV_ls rfl | ((refine wkV_cl ?_); conv => whnf) | ((refine wkV_tu ?_); conv => whnf) | ((refine wkV_ag ?_); conv => whnf) | (conv => whnf))))))
              all_goals first | exact hw1 | rfl | trace_state
        · have ei : i = l.length := by simp only [List.length_map] at h; omega
          subst ei
          obtain ⟨j, hj, ej⟩ := List.getElem_of_mem hq
          have hfd1 : fd = true := hfd j hj hj ej
          subst hfd1
          obtain ⟨⟨p1, p2⟩, _⟩ := hin q hq
          obtain ⟨w, hw⟩ : ∃ w : Nat, q.node = w := ⟨q.node.toNat, by omega⟩
          have hb : iand .i64 (ishr .i64 bits (w : Int)) 1 = nb (tb bits w) := bit_shr bits w (by omega)
          conv => whnf
          rw [hw, wrapu_id (by omega) (by omega)]
          ((with_reducible refine And.intro (And.intro (by first | decide | omega) (by first | decide | omega)) ?_); conv => whnf)
          rw [hb, show tb bits w = true by rw [← hqb, show q.node.toNat = w by omega]]
          conv => whnf
          refine ⟨2, ⟨by decide, by decide⟩, ?_⟩
          conv => whnf
          (refine And.intro (And.intro (by with_unfolding_all rfl) (by intro q h; cases h)) ?_; refine And.intro ?_ (And.intro ?_ ?_) <;> (conv => whnf) <;> (repeat' (first | exact True.intro | (with_reducible exact rfl) | exact (rfl : List.replicate 0 PV.bad = []) | ((with_reducible refine And.intro ?_ ?_) <;> (first | (with_reducible exact wkV_same _ rfl) | exact wkV_pt rfl rfl | exact wkV_ow rfl rfl rfl | (refine wkV_ow rfl rfl ?_) | (refine wkV_sc (congrArg (Value.int .i64) ?_)) | (refine wkV_sc (congrArg Value.bool ?_)) | exact wkV_ls rfl | ((refine wkV_cl ?_); conv => whnf) | ((refine wkV_tu ?_); conv => whnf) | ((refine wkV_ag ?_); conv => whnf) | (conv => whnf))))))
          all_goals first | rfl | trace_state
    · have kp := c_ProxyN l hl2 hok rg hr bits
      ((try ((refine Exists.intro none ?_); (conv => whnf))); first | ((with_reducible refine call_by (kp) ?_); conv => whnf))
      by_cases h0 : rg < 0
      · refine split_dt h0 ?_
        conv => whnf
        ((try ((refine Exists.intro none ?_); (conv => whnf))); first | ((with_reducible refine call_by (c_wakes14) ?_); conv => whnf))
        exact exit_plain rfl rfl
      · refine split_df h0 ?_
        conv => whnf
        refine split_dt (show (3 : Int) ≤ rg by omega) ?_
        conv => whnf
        ((try ((refine Exists.intro none ?_); (conv => whnf))); first | ((with_reducible refine call_by (c_wakes14) ?_); conv => whnf))
        exact exit_plain rfl rfl
  · conv => whnf
    ((try ((refine Exists.intro none ?_); (conv => whnf))); first | ((with_reducible refine call_by (c_wakes14) ?_); conv => whnf))
    exact exit_plain rfl rfl
theorem told_PlaceBest (qs : List PV) (h : ArgsOf Try.prog [22, 3, 3] qs) : Ctr Try.prog 6 qs (bv true) [] := by
  obtain ⟨p1, qs, rfl, h1, h⟩ := argsOf_cons h
  obtain ⟨p2, qs, rfl, h2, h⟩ := argsOf_cons h
  obtain ⟨p3, qs, rfl, h3, h⟩ := argsOf_cons h
  obtain rfl := argsOf_nil h
  obtain ⟨l, rfl, _⟩ := arg_Pls h1
  obtain ⟨bits, rfl, _⟩ := arg_i h2
  obtain ⟨rg, rfl, _⟩ := arg_i h3
  exact l_PlaceBest l bits rg
end Go.Proofs
