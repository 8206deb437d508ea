/- What every law's end asks of the program's head; the head's signs are laid out as numbers, so that the kernel reads them in one go. Printed by a program of mine (init.py). -/
import Derived.Test.YtjgcblmkejnijaaProg
import Derived.JoinedOf
import Derived.Test.YtjgcblmkejnijaaPvP
import Derived.KernelRfl
set_option linter.unusedSimpArgs false
set_option linter.unusedVariables false
namespace Go.Proofs
set_option maxRecDepth 100000
def initNats : List Nat := [104, 97, 114, 110, 101, 115, 115, 32, 102, 57, 50, 49, 98, 99, 55, 53, 52, 101, 97, 52, 50, 49, 49, 51, 97, 56, 50, 99, 51, 48, 102, 48, 101, 49, 97, 54, 51, 51, 100, 54, 49, 99, 101, 49, 98, 102, 53, 49, 54, 48, 48, 100, 57, 50, 55, 50, 49, 101, 100, 54, 53, 101, 52, 101, 98, 98, 48, 48, 55, 56, 102, 49, 32, 99, 117, 116, 32, 97, 116, 32, 115, 107, 101, 114, 114, 121, 47, 115, 107, 101, 114, 114, 121, 108, 97, 119, 49, 52, 46, 80, 108, 97, 99, 101, 79, 114, 100, 101, 114, 115, 32, 115, 107, 101, 114, 114, 121, 47, 115, 107, 101, 114, 114, 121, 108, 97, 119, 49, 52, 46, 80, 108, 97, 99, 101, 77, 111, 114, 101, 32, 115, 107, 101, 114, 114, 121, 47, 115, 107, 101, 114, 114, 121, 108, 97, 119, 49, 52, 46, 80, 108, 97, 99, 101, 83, 99, 111, 114, 101, 115, 32, 115, 107, 101, 114, 114, 121, 47, 115, 107, 101, 114, 114, 121, 108, 97, 119, 49, 52, 46, 80, 108, 97, 99, 101, 66, 101, 115, 116, 32, 115, 107, 101, 114, 114, 121, 47, 115, 107, 101, 114, 114, 121, 108, 97, 119, 49, 52, 46, 80, 108, 97, 99, 101, 77, 101, 97, 110, 115, 32, 115, 107, 101, 114, 114, 121, 47, 115, 107, 101, 114, 114, 121, 108, 97, 119, 49, 57, 46, 82, 101, 108, 97, 121, 78, 101, 97, 114, 32, 115, 107, 101, 114, 114, 121, 47, 115, 107, 101, 114, 114, 121, 108, 97, 119, 49, 57, 46, 82, 101, 108, 97, 121, 65, 108, 108, 32, 115, 107, 101, 114, 114, 121, 47, 115, 107, 101, 114, 114, 121, 108, 97, 119, 49, 57, 46, 82, 101, 108, 97, 121, 79, 112, 101, 110, 115, 32, 115, 107, 101, 114, 114, 121, 47, 115, 107, 101, 114, 114, 121, 108, 97, 119, 49, 57, 46, 82, 101, 108, 97, 121, 70, 111, 108, 100, 115, 32, 115, 107, 101, 114, 114, 121, 47, 115, 107, 101, 114, 114, 121, 108, 97, 119, 50, 48, 46, 80, 108, 97, 110, 83, 97, 102, 101, 32, 115, 107, 101, 114, 114, 121, 47, 115, 107, 101, 114, 114, 121, 108, 97, 119, 50, 48, 46, 80, 108, 97, 110, 69, 110, 100, 115, 32, 115, 107, 101, 114, 114, 121, 47, 115, 107, 101, 114, 114, 121, 108, 97, 119, 50, 48, 46, 80, 108, 97, 110, 83, 105, 108, 101, 110, 116, 32, 115, 107, 101, 114, 114, 121, 47, 115, 107, 101, 114, 114, 121, 108, 97, 119, 50, 48, 46, 80, 108, 97, 110, 82, 101, 112, 108, 97, 99, 101, 115, 32, 115, 107, 101, 114, 114, 121, 47, 115, 107, 101, 114, 114, 121, 108, 97, 119, 50, 48, 46, 80, 108, 97, 110, 82, 101, 115, 116, 115, 32, 115, 107, 101, 114, 114, 121, 47, 115, 107, 101, 114, 114, 121, 108, 97, 119, 50, 48, 46, 80, 108, 97, 110, 69, 120, 97, 99, 116]
theorem initChars : Try.prog.initOrder.toList = initNats.map Char.ofNat := by
  have h : Try.prog.initOrder = String.ofList (initNats.map Char.ofNat) := by kernel_rfl
  rw [h, String.toList_ofList]
theorem j_words : ∃ rest, behindMainWord (wordsSigns Try.prog.initOrder.toList) = "cut".toList :: rest := by
  refine ⟨(behindMainWord (wordsSigns (initNats.map Char.ofNat))).tail, ?_⟩
  rw [initChars]
  kernel_rfl
theorem j_stops : (Try.prog.stops == []) = true := by kernel_rfl
theorem j_knobs : (Try.prog.stopKnobs == []) = true := by kernel_rfl
theorem j_lays : Try.prog.laysLater = false := by kernel_rfl
theorem j_refl : Try.prog.bearsReflect = false := by kernel_rfl
theorem j_door : Try.prog.doorFits [] = true := by kernel_rfl
theorem j_mayEnter : Try.prog.mayEnter = true := by
  obtain ⟨rest, h⟩ := j_words
  exact Go.Pv.mayEnter_of h j_lays j_refl j_door
theorem j_lifts : Try.prog.liftsFinal = false := by
  obtain ⟨rest, h⟩ := j_words
  exact Go.Pv.lifts_of h
theorem j_make : Try.prog.make = some .cut := by
  obtain ⟨rest, h⟩ := j_words
  exact Go.Pv.make_of h
end Go.Proofs
