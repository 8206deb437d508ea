import Derived.Test.YtbhfokahocgndabGreatC1
import Derived.Test.YtbhfokahocgndabGreatQ5
import Derived.Test.YtbhfokahocgndabGreatK4
/- Contracts of functions: a leader's tick. (genQ7.py prints this) -/
set_option linter.unusedSimpArgs false
set_option linter.unusedVariables false
namespace Go.Proofs
open Go.Pv
set_option maxRecDepth 100000
abbrev sil1 (a : Arr) (v : Int) : Arr := a.put v.toNat (farM (a.at v.toNat + 1))
abbrev silL (a : Arr) (l : List Int) : Arr := l.foldl sil1 a
theorem zvr (a : Arr) {l : List Int} {i : Nat} (h : i < l.length) : silL a (l.take (i + 1)) = sil1 (silL a (l.take i)) (l[i]'h) := by
 unfold silL
 rw [List.take_succ_eq_append_getElem h, List.foldl_append]; rfl
abbrev beat1 (r : Rft) : Rft := { r with round := farM (r.round + 1) }
noncomputable abbrev beatR (r : Rft) : Rft := { beat1 r with silent := silL r.silent (allL r) }
noncomputable def zge (id : Int) (s : Arr) : Nat → Int
 | 0 => shl 1 id
 | k + 1 => if ¬ (k : Int) = id ∧ s.at k < 12 then bor (zge id s k) (shl 1 k) else zge id s k
def Arr.fitF (a : Arr) : Prop := ∀ i, i < 7 → 0 ≤ a.at i ∧ a.at i ≤ 1099511627776
theorem sil_fit {a : Arr} (h : a.fitF) {v : Int} (hv : 0 ≤ v ∧ v < 7) : (sil1 a v).fitF := by
 have hx := h v.toNat (by omega)
 have hf : 0 ≤ farM (a.at v.toNat + 1) ∧ farM (a.at v.toNat + 1) ≤ 1099511627776 := by unfold farM; split <;> omega
 intro i hi
 unfold sil1
 generalize farM (a.at v.toNat + 1) = n at *
 have hi' := h i hi
 rcases zel hv with e | e | e | e | e | e | e <;> rw [e] <;>
 rcases (by omega : i = 0 ∨ i = 1 ∨ i = 2 ∨ i = 3 ∨ i = 4 ∨ i = 5 ∨ i = 6) with rfl | rfl | rfl | rfl | rfl | rfl | rfl <;>
 first | exact hi' | exact hf
theorem zik {a : Arr} (h : a.fitF) : ∀ {l : List Int} (_ : ∀ v ∈ l, 0 ≤ v ∧ v < 7), (silL a l).fitF
 | [], _ => h
 | v :: l, hl => zik (sil_fit h (hl v (List.mem_cons_self ..))) (l := l) fun w hw => hl w (List.mem_cons_of_mem _ hw)
noncomputable def goB (r : Rft) : Bool := za0 (zac r) (zge r.id (beatR r).silent 7) && (zc7 (beatR r) || !decide ((force r.hard (lastI r.hard)).2 ≤ r.commit))
def nowP (x : Rft) (i : Int) : Bool := decide (x.mtch.at i.toNat = lastI x.hard) && decide (x.silent.at i.toNat < 6)
abbrev nowM (x : Rft) (i : Int) : List PV := msgV 8 x.id i x.hard.term 0 0 0 0 false .nl cz .nl
def nowL (x : Rft) (l : List Int) : List (List PV) := match l.find? (nowP x) with
 | some i => [nowM x i]
 | none => []
noncomputable def witB (x : Rft) : Bool := (kindR (zac x) x.id).toList == (ByteArray.mk #[119, 105, 116]).toList
noncomputable def nowO (x : Rft) : List (List PV) := if witB x = true then nowL x (othN x.id (zac x).full 7) else []
noncomputable def beatF (r : Rft) : Rft := if goB r = true then beatR r else fallR (beatR r) r.hard.term (-1)
noncomputable def beatO (r : Rft) : List (List PV) := if goB r = true then (allL r).map (zbc (beatR r)) ++ nowO (beatR r) else []
end Go.Proofs
