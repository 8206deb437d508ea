/- What every law's end asks of the program's head; the head's signs are laid out as numbers, so that the kernel reads them in one go. Printed by a program of mine (init.py). -/
import Derived.Test.YtbhfokahocgndaaProg
import Derived.JoinedOf
import Derived.Test.YtbhfokahocgndaaPvP
import Derived.KernelRfl
set_option linter.unusedSimpArgs false
set_option linter.unusedVariables false
namespace Go.Proofs
set_option maxRecDepth 100000
def initNats : List Nat := [104, 97, 114, 110, 101, 115, 115, 32, 52, 50, 49, 100, 98, 48, 98, 52, 53, 99, 55, 55, 97, 97, 54, 57, 51, 102, 101, 98, 56, 56, 99, 99, 56, 97, 51, 101, 57, 100, 57, 57, 52, 48, 97, 56, 48, 101, 48, 98, 97, 50, 48, 50, 102, 56, 53, 51, 102, 50, 102, 48, 99, 100, 97, 102, 53, 52, 51, 51, 98, 50, 49, 55, 32, 99, 117, 116, 32, 97, 116, 32, 115, 107, 101, 114, 114, 121, 47, 115, 107, 101, 114, 114, 121, 108, 97, 119, 49, 56, 46, 82, 97, 102, 116, 65, 115, 107, 105, 110, 103, 32, 115, 107, 101, 114, 114, 121, 47, 115, 107, 101, 114, 114, 121, 108, 97, 119, 49, 56, 46, 82, 97, 102, 116, 86, 111, 116, 101, 115, 32, 115, 107, 101, 114, 114, 121, 47, 115, 107, 101, 114, 114, 121, 108, 97, 119, 49, 56, 46, 82, 97, 102, 116, 71, 114, 111, 119, 115, 32, 115, 107, 101, 114, 114, 121, 47, 115, 107, 101, 114, 114, 121, 108, 97, 119, 49, 56, 46, 82, 97, 102, 116, 76, 101, 97, 100, 115]
theorem initChars : Try.prog.initOrder.toList = initNats.map Char.ofNat := by
  have h : Try.prog.initOrder = String.ofList (initNats.map Char.ofNat) := by kernel_rfl
  rw [h, String.toList_ofList]
theorem j_words : ∃ rest, behindMainWord (wordsSigns Try.prog.initOrder.toList) = "cut".toList :: rest := by
  refine ⟨(behindMainWord (wordsSigns (initNats.map Char.ofNat))).tail, ?_⟩
  rw [initChars]
  kernel_rfl
theorem j_stops : (Try.prog.stops == []) = true := by kernel_rfl
theorem j_knobs : (Try.prog.stopKnobs == []) = true := by kernel_rfl
theorem j_lays : Try.prog.laysLater = false := by kernel_rfl
theorem j_refl : Try.prog.bearsReflect = false := by kernel_rfl
theorem j_door : Try.prog.doorFits [] = true := by kernel_rfl
theorem j_mayEnter : Try.prog.mayEnter = true := by
  obtain ⟨rest, h⟩ := j_words
  exact Go.Pv.mayEnter_of h j_lays j_refl j_door
theorem j_lifts : Try.prog.liftsFinal = false := by
  obtain ⟨rest, h⟩ := j_words
  exact Go.Pv.lifts_of h
theorem j_make : Try.prog.make = some .cut := by
  obtain ⟨rest, h⟩ := j_words
  exact Go.Pv.make_of h
end Go.Proofs
