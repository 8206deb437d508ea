/-
  Own slices in a box's cells that nobody writes any more, as values: at the end of a function that writes. Generic over the program.
-/
import Derived.Test.YtbhfokahocgndaaGreatPvV2
set_option linter.unusedSimpArgs false
set_option linter.unusedVariables false
namespace Go.Pv

theorem exitE_val {c : CSt} {p r : PV} {bx' : List (Nat × List PV)} {ob' : List (Nat × Option (Bool × Nat × List (List PV)))} (k off K n : Nat) {sz : Nat} {rows : List (List PV)} (ls : List PV) (hb : lkA c.bx k = some ls) (hs : ls[off]? = some (.ow K 0 n)) (hn : n = rows.length) (hK : lkA c.ob K = some (some (false, sz, rows)))
    (h : ExitE ⟨c.tm, setA c.bx k (ls.set off (.sl sz rows)), (K, some (true, sz, rows)) :: c.ob⟩ p r bx' ob') : ExitE c p r bx' ob' :=
  exitE_frz K hK (exitE_showB k off K n ls hb hs hn (by simp [lkA]) h)
/-- The nil slice in a box's cell is an empty value. -/
theorem exitE_nil {c : CSt} {p r : PV} {bx' : List (Nat × List PV)} {ob' : List (Nat × Option (Bool × Nat × List (List PV)))} (k off key sz : Nat) (ls : List PV) (hb : lkA c.bx k = some ls) (hs : ls[off]? = some .nl) (hk : lkA c.ob key = none)
    (h : ExitE ⟨c.tm, setA (setA c.bx k (ls.set off (.ow key 0 0))) k ((ls.set off (.ow key 0 0)).set off (.sl sz [])), (key, some (true, sz, [])) :: (key, some (false, sz, [])) :: c.ob⟩ p r bx' ob') : ExitE c p r bx' ob' := by
  refine exitE_born k off key sz ls hb hs hk (exitE_val k off key 0 (ls.set off (.ow key 0 0)) ?_ ?_ rfl (by simp [lkA]) h)
  · show lkA (setA c.bx k _) k = _
    rw [lkA_setA, if_pos rfl]
  · rw [List.getElem?_set_self]
    exact (List.getElem?_eq_some_iff.1 hs).1
theorem callE_eq {P : Program} {f : Nat} {ps qs : List PV} {r : PV} {b bx bx' : List (Nat × List PV)} {o ob ob' : List (Nat × Option (Bool × Nat × List (List PV)))} {K : PV → List (Nat × List PV) → List (Nat × Option (Bool × Nat × List (List PV))) → Prop} (h : CtrE P f qs bx ob r bx' ob') (e1 : ps = qs) (e2 : b = bx) (e3 : o = ob) (k : K r bx' ob') : ∃ r bx' ob', CtrE P f ps b o r bx' ob' ∧ K r bx' ob' := by
  subst e1 e2 e3
  exact ⟨r, bx', ob', h, k⟩
end Go.Pv
