/- Contracts of functions: the relays' wake. -/
import Derived.Test.YtjgcblmkejnijaaE7
set_option linter.unusedSimpArgs false
set_option linter.unusedVariables false
namespace Go.Proofs
open Go.Pv
set_option maxRecDepth 100000

abbrev w19m (to : Int) : Mg := ⟨3, 0, to, 0, 0, 0, 0, 0, false, [], ⟨0, 0, 0, 0⟩, [], []⟩
abbrev w19l : List Mg := [w19m 1, w19m 2, w19m 3]
abbrev w19p : List Pl := [⟨2, 1, 4617315517961601024, 0⟩, ⟨3, 1, 0, 0⟩]
theorem w19_ok : plsB w19p = true := by
  have s2 : ∀ j, tb (shl 1 2) j = decide (2 = j) := fun j => tb_shl 2 j (by decide)
  have s3 : ∀ j, tb (shl 1 3) j = decide (3 = j) := fun j => tb_shl 3 j (by decide)
  simp [plsB, chkP, PlIn, tb_or, tb_zero, s2, s3]
theorem w19_m (to : Int) : Ctr Try.prog 73 [.ag (w19m to).enc] (.ag (w19m to).enc) [] :=
  c_twin1 _ ⟨by show 0 * 152 ≤ _; decide, by show 0 ≤ _; decide, by show 0 * 176 ≤ _; decide⟩ (fun r hr => by cases hr)
theorem w19_g : grp w19p 0 w19l 1 = [w19m 2, w19m 3] := by kernel_rfl
theorem w19_g0 : grp w19p 0 w19l 0 = [w19m 1] := by kernel_rfl
theorem w19_home : regP w19p 0 = 0 := by decide
theorem w19_reg : regL w19p 1 = w19p := by kernel_rfl
theorem w19_bits (i : Nat) : tb (iand .i64 (bitsG [w19m 2, w19m 3]) 127) i = (decide (2 = i) || decide (3 = i)) := by
  have e : bitsG [w19m 2, w19m 3] = bor (bor 0 (shl 1 2)) (shl 1 3) := rfl
  have s2 : ∀ j, tb (shl 1 2) j = decide (2 = j) := fun j => tb_shl 2 j (by decide)
  have s3 : ∀ j, tb (shl 1 3) j = decide (3 = j) := fun j => tb_shl 3 j (by decide)
  rw [e, show iand .i64 (bor (bor 0 (shl 1 2)) (shl 1 3)) 127 = band (bor (bor 0 (shl 1 2)) (shl 1 3)) 127 from rfl, tb_and, tb_or, tb_or, tb_zero, s2, s3, tb_127]
  by_cases h2 : 2 = i
  · subst h2; decide
  · by_cases h3 : 3 = i
    · subst h3; decide
    · simp [h2, h3]
theorem w19_px : pxR w19p 0 127 w19l 1 = 3 := by
  unfold pxR
  rw [w19_g, w19_home, if_pos (by decide), if_pos (by decide), if_pos (by decide)]
  have hq : bestP (regL w19p 1) (iand .i64 (bitsG [w19m 2, w19m 3]) 127) = (⟨3, 1, 0, 0⟩ : Pl).node := by
    refine best_is ⟨by rw [w19_reg]; decide, by rw [w19_bits]; decide, ?_⟩ (fun a ha b hb => chkP_uniq _ 0 (regL_ok w19_ok 1) a ha b hb)
    intro y hy _
    rw [w19_reg] at hy
    have k1 : cmpP (⟨2, 1, 4617315517961601024, 0⟩ : Pl) ⟨3, 1, 0, 0⟩ = 1 := by kernel_rfl
    have k2 : cmpP (⟨3, 1, 0, 0⟩ : Pl) ⟨3, 1, 0, 0⟩ = 0 := by kernel_rfl
    intro hk
    have hc := cmpP_lt.2 hk
    rcases List.mem_cons.1 hy with rfl | hy
    · omega
    · rcases List.mem_cons.1 hy with rfl | hy
      · omega
      · cases hy
  exact hq
theorem w19_px0 : pxR w19p 0 127 w19l 0 = -1 := by
  unfold pxR
  rw [w19_home, if_neg (by decide)]
theorem w19_r1 : rgM w19p 0 (regP w19p 0) (w19m 1) = 0 := by decide
theorem w19_r2 : rgM w19p 0 (regP w19p 0) (w19m 2) = 1 := by decide
theorem w19_r3 : rgM w19p 0 (regP w19p 0) (w19m 3) = 1 := by decide
theorem w19_out : outR w19p 0 127 w19l 3 = [(w19m 1).enc, relV 0 3 [(w19m 2).enc, (w19m 3).enc]] := by
  have e0 := outR_succ (p := w19p) (frm := 0) (up := 127) (l := w19l) (i := 0) (by decide)
  have e1 := outR_succ (p := w19p) (frm := 0) (up := 127) (l := w19l) (i := 1) (by decide)
  have e2 := outR_succ (p := w19p) (frm := 0) (up := 127) (l := w19l) (i := 2) (by decide)
  have m1 : emitR w19p 0 127 w19l 0 (w19m 1) = [(w19m 1).enc] := by
    unfold emitR; rw [w19_r1, w19_px0, if_pos (by decide)]
  have m2 : emitR w19p 0 127 w19l 1 (w19m 2) = [relV 0 3 [(w19m 2).enc, (w19m 3).enc]] := by
    have hs : sentR w19p 0 127 w19l 1 1 = false := by unfold sentR; rw [w19_px]; decide
    unfold emitR; rw [w19_r2, w19_px, hs, w19_g, if_neg (by decide), if_neg (by decide)]; rfl
  have m3 : emitR w19p 0 127 w19l 2 (w19m 3) = [] := by
    have hs : sentR w19p 0 127 w19l 1 2 = true := by unfold sentR; rw [w19_px]; decide
    unfold emitR; rw [w19_r3, w19_px, hs, if_neg (by decide), if_pos rfl]
  rw [e2, e1, e0, show (w19l[0]'(by decide)) = w19m 1 from rfl, show (w19l[1]'(by decide)) = w19m 2 from rfl, show (w19l[2]'(by decide)) = w19m 3 from rfl, m1, m2, m3]
  rfl
theorem c_wakes19 : Ctr Try.prog 32 [] (bv true) [] := by
  have k := c_Bundle w19l (by decide) (fun m hm => by
    rcases List.mem_cons.1 hm with rfl | hm
    · exact w19_m 1
    · rcases List.mem_cons.1 hm with rfl | hm
      · exact w19_m 2
      · rcases List.mem_cons.1 hm with rfl | hm
        · exact w19_m 3
        · cases hm) w19p (by decide) w19_ok 0 127 (by decide)
  rw [show w19l.length = 3 from rfl, w19_out] at k
  refine spec_of_body mixed Try.func32 rfl (by kernel_rfl) (by kernel_rfl) ?_; conv => whnf
  ((try ((refine Exists.intro none ?_); (conv => whnf))); refine call_deep (k) (by (repeat' (first | exact subVL_nil | exact subVR_nil | refine subVL_cons ?_ ?_ | refine subVR_cons ?_ ?_ | exact SubV.refl _ | exact subV_nl | (with_reducible exact subV_tk rfl) | refine subV_ag ?_ | refine subV_sl ?_ | refine subV_ep ?_))) ?_; conv => whnf)
  (refine Exists.intro _ (And.intro rfl (And.intro (by intro q _; simp only [List.length_nil]; omega) (And.intro (by intro i hi; exact absurd hi (Nat.not_lt_zero i)) ?_))); conv => whnf)
  ((with_reducible refine And.intro (by with_unfolding_all decide) ?_); refine Exists.intro _ (And.intro (by with_unfolding_all rfl) ?_); conv => whnf)
  ((with_reducible refine And.intro (by with_unfolding_all decide) ?_); refine Exists.intro _ (And.intro (by with_unfolding_all rfl) ?_); conv => whnf)
  ((with_reducible refine And.intro (by with_unfolding_all decide) ?_); refine Exists.intro _ (And.intro (by with_unfolding_all rfl) ?_); conv => whnf)
  exact exit_plain rfl rfl
end Go.Proofs
