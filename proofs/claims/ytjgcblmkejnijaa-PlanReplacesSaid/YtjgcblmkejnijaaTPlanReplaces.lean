/- PlanReplaces: a full voter that is silent is replaced by the best spare, in three steps. -/
import Derived.Test.YtjgcblmkejnijaaF7
set_option linter.unusedSimpArgs false
set_option linter.unusedVariables false
namespace Go.Proofs
open Go.Pv
set_option maxRecDepth 100000

theorem l_PlanReplaces (f : Int) (p : List Pl) (spare gone : Int) : Ctr Try.prog 15 [iv f, .sl 4 (p.map Pl.enc), iv spare, iv gone] (bv true) [] := by
  by_cases h60 : 60 < p.length
  · refine spec_of_body mixed Try.func15 rfl (by kernel_rfl) (by kernel_rfl) ?_; conv => whnf
    ((first | (with_reducible refine split_dec (fun h => ?_) (fun h => ?_)) | (with_reducible refine split_beq (fun h => ?_) (fun h => ?_)) | (with_reducible refine split_bne (fun h => ?_) (fun h => ?_)) | (with_reducible refine split_not (fun h => ?_) (fun h => ?_)) | (with_reducible refine split_beqS (fun h => ?_) (fun h => ?_)) | (with_reducible refine split_intro (fun h => ?_) (fun h => ?_))) <;> conv => whnf)
    · exact exit_plain rfl rfl
    · exfalso; simp only [List.length_map] at h; omega
  have kp := c_rPlaces p (by omega)
  cases hp : plsB p with
  | false =>
    rw [hp] at kp
    refine spec_of_body mixed Try.func15 rfl (by kernel_rfl) (by kernel_rfl) ?_; conv => whnf
    ((first | (with_reducible refine split_dec (fun h => ?_) (fun h => ?_)) | (with_reducible refine split_beq (fun h => ?_) (fun h => ?_)) | (with_reducible refine split_bne (fun h => ?_) (fun h => ?_)) | (with_reducible refine split_not (fun h => ?_) (fun h => ?_)) | (with_reducible refine split_beqS (fun h => ?_) (fun h => ?_)) | (with_reducible refine split_intro (fun h => ?_) (fun h => ?_))) <;> conv => whnf)
    · exact exit_plain rfl rfl
    clear h
    ((try ((refine Exists.intro none ?_); (conv => whnf))); first | ((with_reducible refine call_by (kp) ?_); conv => whnf))
    exact exit_plain rfl rfl
  | true =>
  rw [hp] at kp
  have hF : Bits7 (band f 127) := bits7_and' ⟨by decide, by decide⟩
  have kcnt := c_rCount (band f 127)
  have kb := c_rBest p (by omega) hp (bandn (band spare 127) (band f 127))
  have hsp : ∀ n : Nat, tb (bandn (band spare 127) (band f 127)) n = true → n < 7 ∧ tb (band f 127) n = false := fun n h => by
    rw [tb_andn', tb_and, tb_127] at h
    revert h
    cases tb (band f 127) n <;> simp
  unfold bandn band at kb hsp
  unfold band at kcnt hF
  generalize hsq : iandn .i64 (iand .i64 spare 127) (iand .i64 f 127) = sp at *
  generalize hFq : iand .i64 f 127 = F at *
  have hn7 := count_le F
  obtain ⟨k, hk, hk7⟩ : ∃ a : Nat, IntKind.i64.wrap ((IntKind.u64.wrap gone).tmod 7) = (a : Int) ∧ a < 7 := by
    have h0 : 0 ≤ IntKind.u64.wrap gone := u64_nonneg _
    generalize IntKind.u64.wrap gone = u at *
    have h1 := Int.emod_nonneg u (show (7 : Int) ≠ 0 by decide)
    have h2 := Int.emod_lt_of_pos u (show (0 : Int) < 7 by decide)
    rw [Int.tmod_eq_emod_of_nonneg h0, wrap_id (by omega) (by omega)]
    exact ⟨(u % 7).toNat, by omega, by omega⟩
  have khas := c_Has F k
  rw [hasB_nat _ _ (by omega)] at khas
  by_cases hgo : 2 ≤ count F ∧ tb F k = true ∧ 0 ≤ bestP p sp
  · obtain ⟨g1, g2, g3⟩ := hgo
    obtain ⟨b, hbq⟩ : ∃ b : Nat, bestP p sp = b := ⟨(bestP p sp).toNat, by omega⟩
    obtain ⟨hb7, hbF⟩ := hsp b (best_bit hp hbq)
    rw [g2] at khas
    rw [hbq] at kb
    have sk : ishl .i64 1 (IntKind.u64.wrap (k : Int)) = rB k := shl_u hk7
    have sb : ishl .i64 1 (IntKind.u64.wrap (b : Int)) = rB b := shl_u hb7
    have cf0 := rep_c0 hF hb7 hk7 hbF g2
    have cf1 := rep_c1 hF hb7 hk7 hbF g2
    have cf2 := rep_c2 hF hb7 hk7 hbF g2
    have cf3 := rep_c3 hF hb7 hk7 hbF g2
    have k1 := c_pNext ⟨F, 0, 0, 0⟩ ((confB_iff _).2 cf0) (count F) 0 p (by omega) hp sp 0 (rB k) 0 (by omega)
    rw [rep_1 hF hb7 hk7 hbF g2 hp hsp hbq] at k1
    have k2 := c_pNext ⟨F, 0, rB b, 0⟩ ((confB_iff _).2 cf1) (count F) 0 p (by omega) hp sp 0 (rB k) 0 (by omega)
    rw [rep_2 hF hb7 hk7 hbF g2] at k2
    have k3 := c_pNext ⟨F, 0, rB b, 0⟩ ((confB_iff _).2 cf1) (count F) 0 p (by omega) hp sp 0 (rB k) (rB b) (by omega)
    rw [rep_3 hF hb7 hk7 hbF g2] at k3
    have k4 := c_pNext ⟨bor F (rB b), 0, 0, 0⟩ ((confB_iff _).2 cf2) (count F) 0 p (by omega) hp sp 0 (rB k) 127 (by omega)
    rw [rep_4 hF hb7 hk7 hbF g2] at k4
    have k5 := c_pNext ⟨bandn (bor F (rB b)) (rB k), 0, 0, 0⟩ ((confB_iff _).2 cf3) (count F) 0 p (by omega) hp sp 0 (rB k) 127 (by omega)
    rw [rep_5 hF hb7 hk7 hbF g2] at k5
    have kd := c_Done ⟨bandn (bor F (rB b)) (rB k), 0, 0, 0⟩ (count F) 0 (rB k)
    rw [rep_done hF hb7 hk7 hbF g2] at kd
    generalize hB : rB b = B at *
    generalize hK : rB k = K at *
    unfold bandn bor at k4 k5 kd
    unfold bor at k3
    refine spec_of_body mixed Try.func15 rfl (by kernel_rfl) (by kernel_rfl) ?_; conv => whnf
    ((first | (with_reducible refine split_dec (fun h => ?_) (fun h => ?_)) | (with_reducible refine split_beq (fun h => ?_) (fun h => ?_)) | (with_reducible refine split_bne (fun h => ?_) (fun h => ?_)) | (with_reducible refine split_not (fun h => ?_) (fun h => ?_)) | (with_reducible refine split_beqS (fun h => ?_) (fun h => ?_)) | (with_reducible refine split_intro (fun h => ?_) (fun h => ?_))) <;> conv => whnf)
    · exfalso; simp only [List.length_map] at h; omega
    clear h
    ((try ((refine Exists.intro none ?_); (conv => whnf))); first | ((with_reducible refine call_by (kp) ?_); conv => whnf))
    rw [hFq]
    ((try ((refine Exists.intro none ?_); (conv => whnf))); first | ((with_reducible refine call_by (kcnt) ?_); conv => whnf))
    ((with_reducible refine And.intro (And.intro (by first | decide | omega) (by first | decide | omega)) ?_); conv => whnf)
    rw [hk]
    rw [hsq]
    ((try ((refine Exists.intro none ?_); (conv => whnf))); first | ((with_reducible refine call_by (kb) ?_); conv => whnf))
    ((first | (with_reducible refine split_dec (fun h => ?_) (fun h => ?_)) | (with_reducible refine split_beq (fun h => ?_) (fun h => ?_)) | (with_reducible refine split_bne (fun h => ?_) (fun h => ?_)) | (with_reducible refine split_not (fun h => ?_) (fun h => ?_)) | (with_reducible refine split_beqS (fun h => ?_) (fun h => ?_)) | (with_reducible refine split_intro (fun h => ?_) (fun h => ?_))) <;> conv => whnf)
    · exfalso; omega
    clear h
    ((try ((refine Exists.intro none ?_); (conv => whnf))); first | ((with_reducible refine call_by (khas) ?_); conv => whnf))
    refine ⟨⟨by decide, u64_nonneg _⟩, ?_⟩
    conv => whnf
    rw [sk]
    ((try ((refine Exists.intro none ?_); (conv => whnf))); first | ((with_reducible refine call_by (k1) ?_); conv => whnf))
    refine ⟨⟨by decide, u64_nonneg _⟩, ?_⟩
    conv => whnf
    rw [sb]
    ((first | (with_reducible refine split_dec (fun h => ?_) (fun h => ?_)) | (with_reducible refine split_beq (fun h => ?_) (fun h => ?_)) | (with_reducible refine split_bne (fun h => ?_) (fun h => ?_)) | (with_reducible refine split_not (fun h => ?_) (fun h => ?_)) | (with_reducible refine split_beqS (fun h => ?_) (fun h => ?_)) | (with_reducible refine split_intro (fun h => ?_) (fun h => ?_))) <;> conv => whnf)
    · exact absurd rfl h
    clear h
    ((first | (with_reducible refine split_dec (fun h => ?_) (fun h => ?_)) | (with_reducible refine split_beq (fun h => ?_) (fun h => ?_)) | (with_reducible refine split_bne (fun h => ?_) (fun h => ?_)) | (with_reducible refine split_not (fun h => ?_) (fun h => ?_)) | (with_reducible refine split_beqS (fun h => ?_) (fun h => ?_)) | (with_reducible refine split_intro (fun h => ?_) (fun h => ?_))) <;> conv => whnf)
    · exact absurd rfl h
    clear h
    ((try ((refine Exists.intro none ?_); (conv => whnf))); first | ((with_reducible refine call_by (k2) ?_); conv => whnf))
    refine ⟨⟨by decide, u64_nonneg _⟩, ?_⟩
    conv => whnf
    rw [sb]
    ((try ((refine Exists.intro none ?_); (conv => whnf))); first | ((with_reducible refine call_by (k3) ?_); conv => whnf))
    refine ⟨⟨by decide, u64_nonneg _⟩, ?_⟩
    conv => whnf
    rw [sb]
    ((first | (with_reducible refine split_dec (fun h => ?_) (fun h => ?_)) | (with_reducible refine split_beq (fun h => ?_) (fun h => ?_)) | (with_reducible refine split_bne (fun h => ?_) (fun h => ?_)) | (with_reducible refine split_not (fun h => ?_) (fun h => ?_)) | (with_reducible refine split_beqS (fun h => ?_) (fun h => ?_)) | (with_reducible refine split_intro (fun h => ?_) (fun h => ?_))) <;> conv => whnf)
    · exact absurd rfl h
    clear h
    ((try ((refine Exists.intro none ?_); (conv => whnf))); first | ((with_reducible refine call_by (k4) ?_); conv => whnf))
    refine ⟨⟨by decide, u64_nonneg _⟩, ?_⟩
    conv => whnf
    rw [sb]
    ((first | (with_reducible refine split_dec (fun h => ?_) (fun h => ?_)) | (with_reducible refine split_beq (fun h => ?_) (fun h => ?_)) | (with_reducible refine split_bne (fun h => ?_) (fun h => ?_)) | (with_reducible refine split_not (fun h => ?_) (fun h => ?_)) | (with_reducible refine split_beqS (fun h => ?_) (fun h => ?_)) | (with_reducible refine split_intro (fun h => ?_) (fun h => ?_))) <;> conv => whnf)
    · exact absurd rfl h
    clear h
    ((try ((refine Exists.intro none ?_); (conv => whnf))); first | ((with_reducible refine call_by (k5) ?_); conv => whnf))
    ((try ((refine Exists.intro none ?_); (conv => whnf))); first | ((with_reducible refine call_by (kd) ?_); conv => whnf))
    ((try ((refine Exists.intro none ?_); (conv => whnf))); first | ((with_reducible refine call_by (c_wakes20) ?_); conv => whnf))
    exact exit_plain rfl rfl
  · refine spec_of_body mixed Try.func15 rfl (by kernel_rfl) (by kernel_rfl) ?_; conv => whnf
    ((first | (with_reducible refine split_dec (fun h => ?_) (fun h => ?_)) | (with_reducible refine split_beq (fun h => ?_) (fun h => ?_)) | (with_reducible refine split_bne (fun h => ?_) (fun h => ?_)) | (with_reducible refine split_not (fun h => ?_) (fun h => ?_)) | (with_reducible refine split_beqS (fun h => ?_) (fun h => ?_)) | (with_reducible refine split_intro (fun h => ?_) (fun h => ?_))) <;> conv => whnf)
    · exfalso; simp only [List.length_map] at h; omega
    clear h
    ((try ((refine Exists.intro none ?_); (conv => whnf))); first | ((with_reducible refine call_by (kp) ?_); conv => whnf))
    rw [hFq]
    ((try ((refine Exists.intro none ?_); (conv => whnf))); first | ((with_reducible refine call_by (kcnt) ?_); conv => whnf))
    ((with_reducible refine And.intro (And.intro (by first | decide | omega) (by first | decide | omega)) ?_); conv => whnf)
    rw [hk]
    rw [hsq]
    ((try ((refine Exists.intro none ?_); (conv => whnf))); first | ((with_reducible refine call_by (kb) ?_); conv => whnf))
    ((first | (with_reducible refine split_dec (fun h => ?_) (fun h => ?_)) | (with_reducible refine split_beq (fun h => ?_) (fun h => ?_)) | (with_reducible refine split_bne (fun h => ?_) (fun h => ?_)) | (with_reducible refine split_not (fun h => ?_) (fun h => ?_)) | (with_reducible refine split_beqS (fun h => ?_) (fun h => ?_)) | (with_reducible refine split_intro (fun h => ?_) (fun h => ?_))) <;> conv => whnf)
    · ((try ((refine Exists.intro none ?_); (conv => whnf))); first | ((with_reducible refine call_by (c_wakes20) ?_); conv => whnf))
      exact exit_plain rfl rfl
    have h1 := h
    clear h
    cases ht : tb F k with
    | false =>
      rw [ht] at khas
      ((try ((refine Exists.intro none ?_); (conv => whnf))); first | ((with_reducible refine call_by (khas) ?_); conv => whnf))
      ((try ((refine Exists.intro none ?_); (conv => whnf))); first | ((with_reducible refine call_by (c_wakes20) ?_); conv => whnf))
      exact exit_plain rfl rfl
    | true =>
      rw [ht] at khas
      ((try ((refine Exists.intro none ?_); (conv => whnf))); first | ((with_reducible refine call_by (khas) ?_); conv => whnf))
      ((first | (with_reducible refine split_dec (fun h => ?_) (fun h => ?_)) | (with_reducible refine split_beq (fun h => ?_) (fun h => ?_)) | (with_reducible refine split_bne (fun h => ?_) (fun h => ?_)) | (with_reducible refine split_not (fun h => ?_) (fun h => ?_)) | (with_reducible refine split_beqS (fun h => ?_) (fun h => ?_)) | (with_reducible refine split_intro (fun h => ?_) (fun h => ?_))) <;> conv => whnf)
      · ((try ((refine Exists.intro none ?_); (conv => whnf))); first | ((with_reducible refine call_by (c_wakes20) ?_); conv => whnf))
        exact exit_plain rfl rfl
      · exact absurd ⟨by omega, ht, by omega⟩ hgo
theorem told_PlanReplaces (qs : List PV) (h : ArgsOf Try.prog [3, 22, 3, 3] qs) : Ctr Try.prog 15 qs (bv true) [] := by
  obtain ⟨p1, qs, rfl, h1, h⟩ := argsOf_cons h
  obtain ⟨p2, qs, rfl, h2, h⟩ := argsOf_cons h
  obtain ⟨p3, qs, rfl, h3, h⟩ := argsOf_cons h
  obtain ⟨p4, qs, rfl, h4, h⟩ := argsOf_cons h
  obtain rfl := argsOf_nil h
  obtain ⟨f, rfl, _⟩ := arg_i h1
  obtain ⟨p, rfl, _⟩ := arg_Pls h2
  obtain ⟨spare, rfl, _⟩ := arg_i h3
  obtain ⟨gone, rfl, _⟩ := arg_i h4
  exact l_PlanReplaces f p spare gone
end Go.Proofs
