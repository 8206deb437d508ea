/-
  From a body to the contract of a function that writes what is handed in. Generic over the program.
-/
import Derived.Test.YtnphfgphajejaaaPvT
import Derived.Test.YtnphfgphajejaaaPvR
namespace Go.Pv

structure ExitE (c : CSt) (p r : PV) (bx' : List (Nat × List PV)) (ob' : List (Nat × Option (Bool × Nat × List (List PV)))) : Prop where
  ok : ∃ rn fz, wkK rn fz ⟨[p], c.bx, c.ob⟩ [r] bx' ob'

def exitEQ (P : Program) (rs : List ResultVar) (r : PV) (bx' : List (Nat × List PV)) (ob' : List (Nat × Option (Bool × Nat × List (List PV)))) (e : Exit) (c : CSt) : Prop :=
  match e with
  | .ret => resultK P c rs fun p => ExitE c p r bx' ob'
  | .normal => resultK P c rs fun p => ExitE c p r bx' ob'
  | _ => False

theorem exit_soundE {P : Program} {fn : Func} {w0 : World} {X : Nat → Prop} {S0 : Base} {M : Mem} {c : CSt} {a : Act} {w : World} {r : PV} {bx' : List (Nat × List PV)} {ob' : List (Nat × Option (Bool × Nat × List (List PV)))} (hr : Rel w0 X S0 M c.st a w) (h : resultK P c fn.results.toList fun p => ExitE c p r bx' ob') :
    ∃ v, (results fn a.tmps).run P w = .ok v w ∧ ∃ M', RV M' w r v ∧ HRel w0 X S0 M' (lkA bx') (lkA ob') w := by
  unfold resultK at h
  obtain ⟨F, hF, hF1, hF2⟩ : ∃ F : ResultVar → Sem Value, results fn a.tmps = (do let vs ← fn.results.mapM F; pure (if h : vs.size = 1 then vs[0] else .tuple vs)) ∧ (∀ t, F (.tmp t) = pure (a.tmps.getD t undef)) ∧ (∀ ad t, F (.cell ad t) = do loadVar t (← asAddr (a.tmps.getD ad undef))) := ⟨_, rfl, fun _ => rfl, fun _ _ => rfl⟩
  obtain ⟨ps, vs, h1, h2, h3⟩ := resultsK_sound hr F hF1 hF2 h
  have hlen := h1.length
  have hres : (results fn a.tmps).run P w = .ok (if h : vs.length = 1 then vs[0] else .tuple vs.toArray) w := by
    rw [hF, Array.mapM_eq_mapM_toList]
    simp only [Sem.run_bind, Sem.run_map, h2]
    simp
  have fin : ∀ p, ExitE c p r bx' ob' → ∀ v, RV M w p v → ∃ M', RV M' w r v ∧ HRel w0 X S0 M' (lkA bx') (lkA ob') w := by
    rintro p ⟨rn, fz, hk⟩ v hv
    obtain ⟨M', hr'⟩ := wkK_sound hk w0 X S0 M { tmps := #[v], defers := [] } w ⟨hr.toHRel, rfl, rfl, fun t => by
      cases t with
      | zero => exact hv
      | succ t => simp [CSt.st, RV]⟩
    exact ⟨M', hr'.tmp 0, hr'.toHRel⟩
  split at h3
  · rename_i p
    simp only [RVL] at h1
    obtain ⟨v, rr, rfl, h4, rfl⟩ := h1
    refine ⟨v, by rw [hres]; simp, fin p h3 v h4⟩
  · rename_i ps hne
    have hl1 : vs.length ≠ 1 := by
      rw [hlen]
      intro e
      obtain ⟨p, rfl⟩ := List.length_eq_one_iff.1 e
      exact hne p rfl
    refine ⟨.tuple vs.toArray, by rw [hres, dif_neg hl1], fin _ h3 _ ?_⟩
    simp only [RV]
    exact ⟨vs.toArray, rfl, by simpa using h1⟩

theorem spec_of_bodyE {P : Program} (hm : P.follows .mixedOrders = true) {f : Nat} {fn : Func} {code : Code} {args : List PV} {r : PV} {bx bx' : List (Nat × List PV)} {ob ob' : List (Nat × Option (Bool × Nat × List (List PV)))} (hf : P.funcs[f]? = some fn) (hb : fn.body = some code) (hname : (fn.name == "runtime.NumGoroutine") = false) (hok : codeOk code = true)
    (h : pwp P code ⟨args ++ List.replicate (fn.ntmps - args.length) .bad, bx, ob⟩ (exitEQ P fn.results.toList r bx' ob')) : CtrE P f args bx ob r bx' ob' := by
  refine ⟨?_⟩
  intro w X M vs h0 hvs
  left
  refine ⟨by simp [callFunc, hf, hb]; simpa using hname, ?_⟩
  refine calls_of_wp hf hb ?_
  have hlen := hvs.length
  have hrel : Rel w X (baseOf M) M (CSt.st ⟨args ++ List.replicate (fn.ntmps - args.length) .bad, bx, ob⟩) { tmps := vs.toArray ++ Array.replicate (fn.ntmps - vs.toArray.size) undef, defers := [] } w := by
    refine ⟨h0, rfl, ?_, ?_⟩
    · simp [CSt.st, hlen]
    · intro t
      simp only [CSt.st]
      rw [List.getD_eq_getElem?_getD, Array.getD_eq_getD_getElem?, List.getElem?_append, Array.getElem?_append]
      by_cases ht : t < args.length
      · rw [if_pos ht, if_pos (by simp; omega)]
        obtain ⟨c, hc, hv⟩ := hvs.get t (p := args[t]) (by simp [ht])
        simp [ht, hc]
        exact hv
      · rw [if_neg ht]
        rw [List.getElem?_replicate]
        split <;> simp [RV]
  refine wp_mono ((pwp_sound hm code _ _ hok h).run w X (baseOf M) M _ w hrel) ?_
  rintro e a' w' ⟨c', M', hr', hq⟩
  cases e with
  | ret =>
    obtain ⟨v, h1, M'', h2, h3⟩ := exit_soundE (fn := fn) hr' hq
    exact ⟨hr'.dfr, v, h1, v, M'', rfl, h2, h3⟩
  | normal =>
    obtain ⟨v, h1, M'', h2, h3⟩ := exit_soundE (fn := fn) hr' hq
    exact ⟨hr'.dfr, v, h1, v, M'', rfl, h2, h3⟩
  | exit i => exact hq.elim
  | goto i => exact hq.elim
  | panic ch => exact hq.elim
  | outgrown => exact hq.elim

/-- A call, by its contract. -/
theorem callE_by {P : Program} {f : Nat} {qs : List PV} {r : PV} {bx bx' : List (Nat × List PV)} {ob ob' : List (Nat × Option (Bool × Nat × List (List PV)))} {K : PV → List (Nat × List PV) → List (Nat × Option (Bool × Nat × List (List PV))) → Prop} (h : CtrE P f qs bx ob r bx' ob') (k : K r bx' ob') : ∃ r bx' ob', CtrE P f qs bx ob r bx' ob' ∧ K r bx' ob' := ⟨r, bx', ob', h, k⟩

end Go.Pv
