/- What every law's end asks of the program's head; the head's signs are laid out as numbers, so that the kernel reads them in one go. Printed by a program of mine (init.py). -/
import Derived.Test.YtbhfokahocgndaaGreatProg
import Derived.JoinedOf
import Derived.Test.YtbhfokahocgndaaGreatPvP
import Derived.KernelRfl
set_option linter.unusedSimpArgs false
set_option linter.unusedVariables false
namespace Go.Proofs
set_option maxRecDepth 100000
def initNats : List Nat := [104, 97, 114, 110, 101, 115, 115, 32, 48, 49, 53, 100, 49, 56, 55, 52, 56, 97, 98, 51, 56, 97, 98, 102, 98, 51, 52, 57, 97, 100, 101, 49, 57, 56, 102, 99, 101, 52, 55, 48, 51, 56, 55, 100, 100, 98, 48, 52, 53, 101, 52, 50, 51, 99, 99, 99, 98, 101, 48, 97, 97, 101, 98, 98, 102, 101, 102, 50, 54, 52, 97, 55, 32, 99, 117, 116, 32, 97, 116, 32, 115, 107, 101, 114, 114, 121, 47, 115, 107, 101, 114, 114, 121, 108, 97, 119, 49, 56, 46, 82, 97, 102, 116, 65, 115, 107, 115, 32, 115, 107, 101, 114, 114, 121, 47, 115, 107, 101, 114, 114, 121, 108, 97, 119, 49, 56, 46, 82, 97, 102, 116, 70, 111, 108, 108, 111, 119, 115]
theorem initChars : Tryz.prog.initOrder.toList = initNats.map Char.ofNat := by
  have h : Tryz.prog.initOrder = String.ofList (initNats.map Char.ofNat) := by kernel_rfl
  rw [h, String.toList_ofList]
theorem j_words : ∃ rest, behindMainWord (wordsSigns Tryz.prog.initOrder.toList) = "cut".toList :: rest := by
  refine ⟨(behindMainWord (wordsSigns (initNats.map Char.ofNat))).tail, ?_⟩
  rw [initChars]
  kernel_rfl
theorem j_stops : (Tryz.prog.stops == []) = true := by kernel_rfl
theorem j_knobs : (Tryz.prog.stopKnobs == []) = true := by kernel_rfl
theorem j_lays : Tryz.prog.laysLater = false := by kernel_rfl
theorem j_refl : Tryz.prog.bearsReflect = false := by kernel_rfl
theorem j_door : Tryz.prog.doorFits [] = true := by kernel_rfl
theorem j_mayEnter : Tryz.prog.mayEnter = true := by
  obtain ⟨rest, h⟩ := j_words
  exact Go.Pv.mayEnter_of h j_lays j_refl j_door
theorem j_lifts : Tryz.prog.liftsFinal = false := by
  obtain ⟨rest, h⟩ := j_words
  exact Go.Pv.lifts_of h
theorem j_make : Tryz.prog.make = some .cut := by
  obtain ⟨rest, h⟩ := j_words
  exact Go.Pv.make_of h
end Go.Proofs
