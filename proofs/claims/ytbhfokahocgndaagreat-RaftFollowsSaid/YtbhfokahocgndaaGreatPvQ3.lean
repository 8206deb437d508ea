/-
  Code that is cut where its ways meet: a piece at a time. Generic over the program.
-/
import Derived.Test.YtbhfokahocgndaaGreatPvN
set_option linter.unusedSimpArgs false
set_option linter.unusedVariables false
namespace Go.Pv

theorem spec_of_tri {P : Program} (hm : P.follows .mixedOrders = true) {f : Nat} {fn : Func} {code : Code} {args : List PV} {r : PV} {os : List (Nat × List (List PV))} (hf : P.funcs[f]? = some fn) (hb : fn.body = some code) (hname : (fn.name == "runtime.NumGoroutine") = false) (hok : codeOk code = true)
    (h : Tri P code (exitQ P fn.results.toList r os) ⟨args ++ List.replicate (fn.ntmps - args.length) .bad, [], []⟩) : Ctr P f args r os := by
  refine ⟨?_⟩
  intro w st vs hst hvs
  left
  refine ⟨by simp [callFunc, hf, hb]; simpa using hname, ?_⟩
  refine calls_of_wp hf hb ?_
  have hlen := hvs.length
  have hrel : Rel w (fun _ => False) (Base.of st) (closedM st) (CSt.st ⟨args ++ List.replicate (fn.ntmps - args.length) .bad, [], []⟩) { tmps := vs.toArray ++ Array.replicate (fn.ntmps - vs.toArray.size) undef, defers := [] } w := by
    refine ⟨{ os := rfl, tape := rfl, out := rfl, size := Nat.le_refl _, kept := fun _ _ _ => rfl, stlt := hst, stok := fun b hb => .inl hb, box := ?_, boxKey := ?_, obj := ?_, objKey := ?_, boxNe := ?_, objNe := ?_, boxObj := ?_, pinB := ?_, pinO := ?_ }, rfl, ?_, ?_⟩
    · intro k ls hk; cases hk
    · intro k b hk; cases hk
    · intro k a b c hk; cases hk
    · intro k L hk; cases hk
    · intro k k' b hk; cases hk
    · intro k k' o o' L L' hk; cases hk
    · intro k k' b o L hk; cases hk
    · intro k b hk; cases hk
    · intro k b hk; cases hk
    · simp [CSt.st, hlen]
    · intro t
      simp only [CSt.st]
      rw [List.getD_eq_getElem?_getD, Array.getD_eq_getD_getElem?, List.getElem?_append, Array.getElem?_append]
      by_cases ht : t < args.length
      · rw [if_pos ht, if_pos (by simp; omega)]
        obtain ⟨c, hc, hv⟩ := hvs.get t (p := args[t]) (by simp [ht])
        simp [ht, hc]
        exact hv
      · rw [if_neg ht]
        rw [List.getElem?_replicate]
        split <;> simp [RV]
  refine wp_mono (h.run w (fun _ => False) (Base.of st) (closedM st) _ w hrel) ?_
  rintro e a' w' ⟨c', M', hr', hq⟩
  cases e with
  | ret =>
    obtain ⟨v, h1, M'', h2, h3⟩ := exit_sound (fn := fn) hr' hq
    exact ⟨hr'.dfr, v, h1, v, M'', rfl, h2, h3⟩
  | normal =>
    obtain ⟨v, h1, M'', h2, h3⟩ := exit_sound (fn := fn) hr' hq
    exact ⟨hr'.dfr, v, h1, v, M'', rfl, h2, h3⟩
  | exit i => exact hq.elim
  | goto i => exact hq.elim
  | panic ch => exact hq.elim
  | outgrown => exact hq.elim

theorem spec_of_triE {P : Program} (hm : P.follows .mixedOrders = true) {f : Nat} {fn : Func} {code : Code} {args : List PV} {r : PV} {bx bx' : List (Nat × List PV)} {ob ob' : List (Nat × Option (Bool × Nat × List (List PV)))} (hf : P.funcs[f]? = some fn) (hb : fn.body = some code) (hname : (fn.name == "runtime.NumGoroutine") = false) (hok : codeOk code = true)
    (h : Tri P code (exitEQ P fn.results.toList r bx' ob') ⟨args ++ List.replicate (fn.ntmps - args.length) .bad, bx, ob⟩) : CtrE P f args bx ob r bx' ob' := by
  refine ⟨?_⟩
  intro w X M vs h0 hvs
  left
  refine ⟨by simp [callFunc, hf, hb]; simpa using hname, ?_⟩
  refine calls_of_wp hf hb ?_
  have hlen := hvs.length
  have hrel : Rel w X (baseOf M) M (CSt.st ⟨args ++ List.replicate (fn.ntmps - args.length) .bad, bx, ob⟩) { tmps := vs.toArray ++ Array.replicate (fn.ntmps - vs.toArray.size) undef, defers := [] } w := by
    refine ⟨h0, rfl, ?_, ?_⟩
    · simp [CSt.st, hlen]
    · intro t
      simp only [CSt.st]
      rw [List.getD_eq_getElem?_getD, Array.getD_eq_getD_getElem?, List.getElem?_append, Array.getElem?_append]
      by_cases ht : t < args.length
      · rw [if_pos ht, if_pos (by simp; omega)]
        obtain ⟨c, hc, hv⟩ := hvs.get t (p := args[t]) (by simp [ht])
        simp [ht, hc]
        exact hv
      · rw [if_neg ht]
        rw [List.getElem?_replicate]
        split <;> simp [RV]
  refine wp_mono (h.run w X (baseOf M) M _ w hrel) ?_
  rintro e a' w' ⟨c', M', hr', hq⟩
  cases e with
  | ret =>
    obtain ⟨v, h1, M'', h2, h3⟩ := exit_soundE (fn := fn) hr' hq
    exact ⟨hr'.dfr, v, h1, v, M'', rfl, h2, h3⟩
  | normal =>
    obtain ⟨v, h1, M'', h2, h3⟩ := exit_soundE (fn := fn) hr' hq
    exact ⟨hr'.dfr, v, h1, v, M'', rfl, h2, h3⟩
  | exit i => exact hq.elim
  | goto i => exact hq.elim
  | panic ch => exact hq.elim
  | outgrown => exact hq.elim

/-- A piece; what is behind it is left. -/
theorem tri_seq {P : Program} (hm : P.follows .mixedOrders = true) {x y : Code} {Q : Exit → CSt → Prop} {c : CSt} (hok : codeOk x = true)
    (h : pwp P x c fun e c' => match e with | .normal => Tri P y Q c' | e => Q e c') : Tri P (.seq x y) Q c := by
  refine ⟨?_⟩
  intro w0 X S0 M a w hr
  refine wp_seq (wp_mono ((pwp_sound hm x c _ hok h).run w0 X S0 M a w hr) ?_)
  rintro e a' w' ⟨c', M', hr', hq⟩
  cases e with
  | normal => exact Tri.run hq w0 X S0 M' a' w' hr'
  | exit i => exact ⟨c', M', hr', hq⟩
  | goto i => exact ⟨c', M', hr', hq⟩
  | ret => exact ⟨c', M', hr', hq⟩
  | panic ch => exact ⟨c', M', hr', hq⟩
  | outgrown => exact ⟨c', M', hr', hq⟩

theorem Tri.wk' {P : Program} {code : Code} {Q : Exit → CSt → Prop} {c c' : CSt} (hw : Wk c c') (h : Tri P code Q c') : Tri P code Q c := by
  refine ⟨?_⟩
  intro w0 X S0 M a w hr
  obtain ⟨M', hr'⟩ := hw w0 X S0 M a w hr
  exact h.run w0 X S0 M' a w hr'

/-- Where a piece ends, all ways meet: in a member of the family. -/
theorem tri_cut {P : Program} (hm : P.follows .mixedOrders = true) {x y : Code} {Q : Exit → CSt → Prop} {tm : List PV} {bx : List (Nat × List PV)} {ob : List (Nat × Option (Bool × Nat × List (List PV)))} (hok : codeOk x = true) {β : Type} (I : β → Prop) (V : β → List (Nat × PV)) (W : β → List (Nat × List PV)) (O : β → List (Nat × Option (Bool × Nat × List (List PV))))
    (h1 : pwp P x ⟨tm, bx, ob⟩ fun e c' => match e with | .normal => ∃ b rn, I b ∧ headK x tm (V b) fun tm' => wkK rn [] c' tm' (W b) (O b) | e => Q e c')
    (h2 : ∀ b, I b → headK x tm (V b) fun tm' => Tri P y Q ⟨tm', W b, O b⟩) : Tri P (.seq x y) Q ⟨tm, bx, ob⟩ := by
  refine ⟨?_⟩
  intro w0 X S0 M a w hr
  refine wp_seq (wp_mono ((pwp_sound hm x _ _ hok h1).run w0 X S0 M a w hr) ?_)
  rintro e a' w' ⟨c', M', hr', hq⟩
  cases e with
  | normal =>
    obtain ⟨b, rn, hI, hk⟩ := hq
    have h := h2 b hI
    rw [headK_eq] at hk h
    exact (Tri.wk' (wkK_sound hk) h).run w0 X S0 M' a' w' hr'
  | exit i => exact ⟨c', M', hr', hq⟩
  | goto i => exact ⟨c', M', hr', hq⟩
  | ret => exact ⟨c', M', hr', hq⟩
  | panic ch => exact ⟨c', M', hr', hq⟩
  | outgrown => exact ⟨c', M', hr', hq⟩

end Go.Pv
