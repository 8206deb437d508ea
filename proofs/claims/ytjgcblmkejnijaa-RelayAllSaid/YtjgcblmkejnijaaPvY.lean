/-
  Loops in which the call's own slices become values. Generic over the program.
-/
import Derived.Test.YtjgcblmkejnijaaPvN
set_option linter.unusedSimpArgs false
set_option linter.unusedVariables false
namespace Go.Pv

/-- A loop that changes boxes and slices; what is written no more may become a value at each round's end ('fz'). -/
theorem tri_forF {P : Program} (hm : P.follows .mixedOrders = true) {body : Code} {Q : Exit → CSt → Prop} {tm : List PV} {bx : List (Nat × List PV)} {ob : List (Nat × Option (Bool × Nat × List (List PV)))} (hok : codeOk body = true) {β : Type} (I : β → Prop) (V : β → List (Nat × PV)) (W : β → List (Nat × List PV)) (O : β → List (Nat × Option (Bool × Nat × List (List PV)))) (rn0 : List (Nat × Nat)) (fz0 : List (Nat × Bool × Nat × List (List PV))) (μ : β → Nat) (b0 : β) (h0 : I b0)
    (hw : headK body tm (V b0) fun tm' => wkK rn0 fz0 ⟨tm, bx, ob⟩ tm' (W b0) (O b0))
    (round : ∀ b, I b → headK body tm (V b) fun tm' => pwp P body ⟨tm', W b, O b⟩ (loopQ Q fun c' => ∃ b' rn fz, (I b' ∧ μ b' < μ b) ∧ headK body tm (V b') fun tm' => wkK rn fz c' tm' (W b') (O b'))) : Tri P (.loop body) Q ⟨tm, bx, ob⟩ := by
  refine tri_loopN hm hok I (fun b => ⟨headT body tm (V b), W b, O b⟩) μ b0 h0 ?_ (fun b c' => ∃ b' rn fz, (I b' ∧ μ b' < μ b) ∧ headK body tm (V b') fun tm' => wkK rn fz c' tm' (W b') (O b')) ?_ ?_
  · rw [headK_eq] at hw
    exact wkK_sound hw
  · rintro b c' ⟨b', rn, fz, ⟨h1, h2⟩, h3⟩
    rw [headK_eq] at h3
    exact ⟨b', h1, h2, wkK_sound h3⟩
  · intro b hb
    have h := round b hb
    rw [headK_eq] at h
    exact h
end Go.Pv
