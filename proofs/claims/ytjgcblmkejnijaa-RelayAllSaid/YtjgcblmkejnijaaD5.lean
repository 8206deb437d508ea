/- Contracts of functions: whether places are right; their order. -/
import Derived.Test.YtjgcblmkejnijaaD4
import Derived.Test.YtjgcblmkejnijaaC1
set_option linter.unusedSimpArgs false
set_option linter.unusedVariables false
namespace Go.Proofs
open Go.Pv
set_option maxRecDepth 100000

def PlIn (p : Pl) : Prop := (0 ≤ p.node ∧ p.node < 7) ∧ (0 ≤ p.region ∧ p.region < 3)
instance (p : Pl) : Decidable (PlIn p) := by unfold PlIn; infer_instance
noncomputable def chkP : Int → List Pl → Bool
  | _, [] => true
  | s, p :: l => if PlIn p then (if tb s p.node.toNat = true then false else chkP (bor s (shl 1 p.node)) l) else false
noncomputable def plsB (l : List Pl) : Bool := chkP 0 l
theorem chkP_at (s : Int) {l : List Pl} {k : Nat} (h : k < l.length) : chkP s (l.drop k) = if PlIn (l[k]'h) then (if tb s (l[k]'h).node.toNat = true then false else chkP (bor s (shl 1 (l[k]'h).node)) (l.drop (k + 1))) else false := by
  rw [List.drop_eq_getElem_cons h, chkP]
theorem c_region (r : Int) : Ctr Try.prog 54 [iv r] (bv (decide (0 ≤ r ∧ r < 3))) [] := by
  refine spec_of_body mixed Try.func54 rfl (by kernel_rfl) (by kernel_rfl) ?_; conv => whnf
  ((first | (with_reducible refine split_dec (fun h => ?_) (fun h => ?_)) | (with_reducible refine split_beq (fun h => ?_) (fun h => ?_)) | (with_reducible refine split_bne (fun h => ?_) (fun h => ?_)) | (with_reducible refine split_not (fun h => ?_) (fun h => ?_)) | (with_reducible refine split_beqS (fun h => ?_) (fun h => ?_)) | (with_reducible refine split_intro (fun h => ?_) (fun h => ?_))) <;> conv => whnf)
  · exact exit_plain rfl (by simp [h])
  · exact exit_plain rfl (by simp [h])
set_option maxHeartbeats 1000000 in
theorem c_PCheck (l : List Pl) (hl : l.length ≤ 4294967) : Ctr Try.prog 18 [.sl 4 (l.map Pl.enc)] (iv (if plsB l = true then 0 else 1)) [] := by
  refine spec_of_body mixed Try.func18 rfl (by kernel_rfl) (by kernel_rfl) ?_; conv => whnf
  refine tri_for0 mixed (by kernel_rfl) (fun b : Nat × Int => b.1 ≤ l.length ∧ plsB l = chkP b.2 (l.drop b.1)) (fun b => [(3, iv b.2), (8, iv (b.1 : Nat))]) [] (fun b => l.length - b.1) (0, 0) ⟨Nat.zero_le _, rfl⟩ ?_ ?_
  · conv => whnf
    (refine And.intro (And.intro (by with_unfolding_all rfl) (by intro q h; cases h)) ?_; refine And.intro ?_ (And.intro ?_ ?_) <;> (conv => whnf) <;> (repeat' (first | exact True.intro | (with_reducible exact rfl) | exact (rfl : List.replicate 0 PV.bad = []) | ((with_reducible refine And.intro ?_ ?_) <;> (first | (with_reducible exact wkV_same _ rfl) | exact wkV_pt rfl rfl | exact wkV_ow rfl rfl rfl | (refine wkV_ow rfl rfl ?_) | (refine wkV_sc (congrArg (Value.int .i64) ?_)) | (refine wkV_sc (congrArg Value.bool ?_)) | exact wkV_ls rfl | ((refine wkV_cl ?_); conv => whnf) | ((refine wkV_tu ?_); conv => whnf) | ((refine wkV_ag ?_); conv => whnf) | (conv => whnf))))))
    all_goals rfl
  rintro ⟨k, s⟩ ⟨hk, hinv⟩
  simp only at hk hinv
  conv => whnf
  ((first | (with_reducible refine split_dec (fun h => ?_) (fun h => ?_)) | (with_reducible refine split_beq (fun h => ?_) (fun h => ?_)) | (with_reducible refine split_bne (fun h => ?_) (fun h => ?_)) | (with_reducible refine split_not (fun h => ?_) (fun h => ?_)) | (with_reducible refine split_beqS (fun h => ?_) (fun h => ?_)) | (with_reducible refine split_intro (fun h => ?_) (fun h => ?_))) <;> conv => whnf)
  · have hlt : k < l.length := by simp only [List.length_map] at h; omega
    clear h
    have hat := chkP_at s hlt
    have no : ¬ PlIn (l[k]'hlt) → plsB l = false := fun hn => by rw [hinv, hat, if_neg hn]
    (first | ((with_reducible refine And.intro (by omega) (Exists.intro _ (And.intro (row_at hlt) ?_))); conv => whnf))
    generalize l[k]'hlt = p at *
    have kr := c_region p.region
    have bad : plsB l = false → ∀ c : CSt, ExitOk c (iv 1) (iv (if plsB l = true then 0 else 1)) [] := fun e c => exit_plain rfl (by rw [e]; rfl)
    ((first | (with_reducible refine split_dec (fun h => ?_) (fun h => ?_)) | (with_reducible refine split_beq (fun h => ?_) (fun h => ?_)) | (with_reducible refine split_bne (fun h => ?_) (fun h => ?_)) | (with_reducible refine split_not (fun h => ?_) (fun h => ?_)) | (with_reducible refine split_beqS (fun h => ?_) (fun h => ?_)) | (with_reducible refine split_intro (fun h => ?_) (fun h => ?_))) <;> conv => whnf)
    · exact bad (no (by unfold PlIn; omega)) _
    have h1 := h
    clear h
    ((first | (with_reducible refine split_dec (fun h => ?_) (fun h => ?_)) | (with_reducible refine split_beq (fun h => ?_) (fun h => ?_)) | (with_reducible refine split_bne (fun h => ?_) (fun h => ?_)) | (with_reducible refine split_not (fun h => ?_) (fun h => ?_)) | (with_reducible refine split_beqS (fun h => ?_) (fun h => ?_)) | (with_reducible refine split_intro (fun h => ?_) (fun h => ?_))) <;> conv => whnf)
    · exact bad (no (by unfold PlIn; omega)) _
    have h2 := h
    clear h
    by_cases hr : 0 ≤ p.region ∧ p.region < 3
    · rw [decide_eq_true hr] at kr
      have hin : PlIn p := ⟨⟨by omega, by omega⟩, hr⟩
      rw [if_pos hin] at hat
      obtain ⟨n, hn⟩ : ∃ n : Nat, p.node = n := ⟨p.node.toNat, by omega⟩
      have hn7 : n < 7 := by omega
      have htn : p.node.toNat = n := by omega
      rw [htn, hn] at hat
      have hb : iand .i64 (ishr .i64 (k, s).2 (n : Int)) 1 = nb (tb s n) := bit_shr s n (by omega)
      ((try ((refine Exists.intro none ?_); (conv => whnf))); first | ((with_reducible refine call_by (kr) ?_); conv => whnf))
      rw [hn]
      ((with_reducible refine And.intro (And.intro (by first | decide | omega) (by first | decide | omega)) ?_); conv => whnf)
      rw [hb]
      cases ht : tb s n with
      | true =>
        rw [ht] at hat
        simp only [if_true] at hat
        conv => whnf
        exact bad (by rw [hinv, hat]) _
      | false =>
        rw [ht] at hat
        simp only [Bool.false_eq_true, if_false] at hat
        conv => whnf
        ((with_reducible refine And.intro (And.intro (by first | decide | omega) (by first | decide | omega)) ?_); conv => whnf)
        refine ⟨(k + 1, bor s (shl 1 (n : Int))), ⟨⟨by show k + 1 ≤ _; omega, hinv.trans hat⟩, by show l.length - (k + 1) < l.length - k; omega⟩, ?_⟩
        conv => whnf
        (refine And.intro (And.intro (by with_unfolding_all rfl) (by intro q h; cases h)) ?_; refine And.intro ?_ (And.intro ?_ ?_) <;> (conv => whnf) <;> (repeat' (first | exact True.intro | (with_reducible exact rfl) | exact (rfl : List.replicate 0 PV.bad = []) | ((with_reducible refine And.intro ?_ ?_) <;> (first | (with_reducible exact wkV_same _ rfl) | exact wkV_pt rfl rfl | exact wkV_ow rfl rfl rfl | (refine wkV_ow rfl rfl ?_) | (refine wkV_sc (congrArg (Value.int .i64) ?_)) | (refine wkV_sc (congrArg Value.bool ?_)) | exact wkV_ls rfl | ((refine wkV_cl ?_); conv => whnf) | ((refine wkV_tu ?_); conv => whnf) | ((refine wkV_ag ?_); conv => whnf) | (conv => whnf))))))
        all_goals first | exact w1 (by omega) | rfl | trace_state
    · rw [decide_eq_false hr] at kr
      ((try ((refine Exists.intro none ?_); (conv => whnf))); first | ((with_reducible refine call_by (kr) ?_); conv => whnf))
      exact bad (no (fun hh => hr hh.2)) _
  · have : plsB l = true := by rw [hinv, List.drop_eq_nil_of_le (by simp only [List.length_map] at h; omega)]; rfl
    exact exit_plain rfl (by rw [this]; rfl)
end Go.Proofs
