/-
  Functions without a body; answers that are new slices. Generic over the program.
-/
import Derived.Test.YtnphfgphajejaaaPvN
import Derived.Laws.Externs
namespace Go.Pv

theorem ctr_extern {P : Program} {f : Nat} {fn : Func} {e : Array Value → Sem Value} {args : List PV} {r : Value} (hf : P.funcs[f]? = some fn) (hname : (fn.name == "runtime.NumGoroutine") = false) (hb : fn.body.isNone = true) (hn : Extern.findNext fn = none) (he : Extern.find fn = some e)
    (h : ∀ (w : World) (M : Mem) (vs : List Value), RVL M w args vs → (e vs.toArray).run P w = .ok r w) : Ctr P f args (.sc r) [] := by
  refine ⟨?_⟩
  intro w st vs hst hv
  right
  refine ⟨r, w, ?_, r, closedM st, rfl, by simp [RV], ?_⟩
  · rw [run_callFunc_extern hf hname hb hn he, h w _ vs hv]; rfl
  · refine { os := rfl, tape := rfl, out := rfl, size := Nat.le_refl _, kept := fun _ _ _ => rfl, stlt := hst, stok := fun b hb => .inl hb, box := ?_, boxKey := ?_, obj := ?_, objKey := ?_, boxNe := ?_, objNe := ?_, boxObj := ?_, pinB := ?_, pinO := ?_ }
    · intro k ls hk; cases hk
    · intro k b hk; cases hk
    · intro k a b c hk; simp [osMap] at hk
    · intro k L hk; cases hk
    · intro k k' b hk; cases hk
    · intro k k' o o' L L' hk; simp [osMap] at hk
    · intro k k' b o L hk; cases hk
    · intro k b hk; cases hk
    · intro k b hk; cases hk

end Go.Pv
