/- Contracts of functions: what a message leaves, whatever comes of it. -/
import Derived.Test.YtbhfokahocgndaaN1
import Derived.Test.YtbhfokahocgndaaK1
import Derived.Test.YtbhfokahocgndaaC6
set_option linter.unusedSimpArgs false
set_option linter.unusedVariables false
namespace Go.Proofs
open Go.Pv
set_option maxRecDepth 100000

/-- What a message leaves, whatever comes of it. -/
inductive Outc (r : Rft) (m : Mg) : Prop
  | bad (E : Int) (hE : ¬ E = 0) (k : Ctr Try.prog 19 [.ag r.enc, .ag m.enc] (.tu [.ag rzv, .nl, iv E]) [])
  | ok (R : Rft) (L : List Mx) (k : Ctr Try.prog 19 [.ag r.enc, .ag m.enc] (.tu [.ag R.enc, .sl 16 (L.map Mx.enc), iv 0]) []) (g : Got r m R) (t : ∀ x ∈ L, Tak r m R x) (n : L.length ≤ 7) (w : RightM r m) (hr : rightB r = true)
theorem heavyR_len {r : Rft} (e : heavyR r = false) : r.hard.log.length ≤ 200 ∧ r.hard.snap.length ≤ 32768 ∧ r.reads.length ≤ 200 := by
  simp only [heavyR, heavyH, heavyEs, Bool.or_eq_false_iff, decide_eq_false_iff_not] at e
  obtain ⟨⟨⟨e1, _⟩, e2⟩, e3, _⟩ := e
  exact ⟨by omega, by omega, by omega⟩
theorem outc (r : Rft) (m : Mg) (h1 : heavyR r = false) (h2 : heavyM m = false) : Outc r m := by
  obtain ⟨a1, a2, a3⟩ := heavyR_len h1
  obtain ⟨⟨b1, b2⟩, _⟩ := heavyM_len h2
  cases hr : rightB r with
  | false => exact .bad 6 (by decide) (c_Take_wrong r m (smallM (by omega)) (smallM (by omega)) hr)
  | true =>
    cases hm : rightM r m with
    | false => exact .bad 1 (by decide) (c_Take_arg r m (by omega) (by omega) (by omega) hr hm)
    | true =>
      obtain ⟨R, O, E, k⟩ := taken r m hr (by omega) hm (by omega) (by omega)
      by_cases hE : E = 0
      · have ht := k.tak hE
        have hg := k.got hE
        have hk := k.run
        rw [hE] at hk
        obtain ⟨L, rfl, hL, hn⟩ := ht
        exact .ok R L (c_Take_ok r m (by omega) (by omega) (by omega) hr hm R _ hk) hg hL hn (rightM_of hm) hr
      · exact .bad E hE (c_Take_err r m (by omega) (by omega) (by omega) hr hm R O E hE k.run)
theorem newer_not {h : Hrd} {i t : Int} (e : newer h i t = true) : ¬ t < lastT h ∧ (t = lastT h → ¬ i < lastI h) := by
  unfold newer at e
  simp only [Bool.or_eq_true, Bool.and_eq_true, decide_eq_true_eq, beq_iff_eq] at e
  omega
end Go.Proofs
