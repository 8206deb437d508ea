/-
  No cell of these rows narrows 'for every input' (looked for: loops, veiled, ifaces, maps, wideKeys, modest, calm, conditions, laid).
  DERIVED. THE GIVEN ROWS OF THIS SEAT. 4 by the template 'for every input the law returns true; each argument reads behind the call as it read before'; 0 by the template 'total and deterministic' (their statements: YtbhfokahocgndabGreatTotals.lean).
  GIVEN WITH THE SEED: the statements are not yours to turn. If you find one false, say at which input.
  Laid BY PROGRAM, IN A SANDBOX (cutbox-rows.mjs): the forced cells as the released guide's own fill.sh prints them over the translation 73b655f7f4fec6c3… (all of the seat's roots in one cut). By AI agents, Wed Nov 11 2026. No macro, syntax, notation, axiom, sorry.
-/
import Derived.Test.YtbhfokahocgndabGreatChecked
import GoSem.Claim
import GoSem.ClaimJoined
import GoSem.ClaimMapViews
import Derived.JoinedTies
import Derived.KernelRfl
namespace Go.Proofs.YtbhfokahocgndabGreat
/- THE CELL 'sum', in the pinned program and in every row, IS THE sha256 OF THE DUMP (.gsa) THAT YtbhfokahocgndabGreatProg.lean LOADS. Nothing in Lean hashes anything: it is a label: what it is worth is what the hold of that sum in a sandbox is worth. -/
noncomputable def Tryz.pinned : Pinned := { name := "ytbhfokahocgndabgreat", sum := "73b655f7f4fec6c352ebd93a8f3092ba1187949a4638c07f8fc146aafc42a5c2", checked := Tryz.checked }
namespace Rows
def none {H : Type} : Left H := { results := [], args := [] }

/-- 'skerrylaw18.RaftTerms': WHATEVER THE INPUT: true; the input reads as it did. -/
def raftTermsSpec : ChangeSpec := { name := "raftTerms", fn := fun _ => fun
  | [d1, d2, d3] => { results := [.lit (.bool true)], args := [d1, d2, d3] }
  | _ => none }
def raftTermsRow : OpenClaim := { program := "ytbhfokahocgndabgreat", sum := "73b655f7f4fec6c352ebd93a8f3092ba1187949a4638c07f8fc146aafc42a5c2", func := "skerry/skerrylaw18.RaftTerms", spec := "raftTerms", inPlace := ["math.Float64frombits", "math.Float64bits"], unfollowed := true, recurses := true, apart := false }
def RaftTermsSaid : Prop := raftTermsRow.holds Tryz.pinned (OpenSpec.ofChange raftTermsSpec)

/-- ITS FALSE NEIGHBOUR: 'it returns false'. Refute it at one input. -/
def raftTermsWrong : ChangeSpec := { name := "raftTerms", fn := fun _ => fun
  | [d1, d2, d3] => { results := [.lit (.bool false)], args := [d1, d2, d3] }
  | _ => none }
def RaftTermsWrongFalsely : Prop := raftTermsRow.holds Tryz.pinned (OpenSpec.ofChange raftTermsWrong)

/-- 'skerrylaw18.RaftSafe': WHATEVER THE INPUT: true; the input reads as it did. -/
def raftSafeSpec : ChangeSpec := { name := "raftSafe", fn := fun _ => fun
  | [d1, d2] => { results := [.lit (.bool true)], args := [d1, d2] }
  | _ => none }
def raftSafeRow : OpenClaim := { program := "ytbhfokahocgndabgreat", sum := "73b655f7f4fec6c352ebd93a8f3092ba1187949a4638c07f8fc146aafc42a5c2", func := "skerry/skerrylaw18.RaftSafe", spec := "raftSafe", inPlace := ["math.Float64frombits", "math.Float64bits"], unfollowed := true, recurses := true, apart := false }
def RaftSafeSaid : Prop := raftSafeRow.holds Tryz.pinned (OpenSpec.ofChange raftSafeSpec)

/-- ITS FALSE NEIGHBOUR: 'it returns false'. Refute it at one input. -/
def raftSafeWrong : ChangeSpec := { name := "raftSafe", fn := fun _ => fun
  | [d1, d2] => { results := [.lit (.bool false)], args := [d1, d2] }
  | _ => none }
def RaftSafeWrongFalsely : Prop := raftSafeRow.holds Tryz.pinned (OpenSpec.ofChange raftSafeWrong)

/-- 'skerrylaw18.RaftApart': WHATEVER THE INPUT: true; the input reads as it did. -/
def raftApartSpec : ChangeSpec := { name := "raftApart", fn := fun _ => fun
  | [d1, d2] => { results := [.lit (.bool true)], args := [d1, d2] }
  | _ => none }
def raftApartRow : OpenClaim := { program := "ytbhfokahocgndabgreat", sum := "73b655f7f4fec6c352ebd93a8f3092ba1187949a4638c07f8fc146aafc42a5c2", func := "skerry/skerrylaw18.RaftApart", spec := "raftApart", inPlace := ["math.Float64frombits", "math.Float64bits"], unfollowed := true, recurses := true, apart := false }
def RaftApartSaid : Prop := raftApartRow.holds Tryz.pinned (OpenSpec.ofChange raftApartSpec)

/-- ITS FALSE NEIGHBOUR: 'it returns false'. Refute it at one input. -/
def raftApartWrong : ChangeSpec := { name := "raftApart", fn := fun _ => fun
  | [d1, d2] => { results := [.lit (.bool false)], args := [d1, d2] }
  | _ => none }
def RaftApartWrongFalsely : Prop := raftApartRow.holds Tryz.pinned (OpenSpec.ofChange raftApartWrong)

/-- 'skerrylaw26.AuditHolds': WHATEVER THE INPUT: true; the input reads as it did. -/
def auditHoldsSpec : ChangeSpec := { name := "auditHolds", fn := fun _ => fun
  | [d1, d2] => { results := [.lit (.bool true)], args := [d1, d2] }
  | _ => none }
def auditHoldsRow : OpenClaim := { program := "ytbhfokahocgndabgreat", sum := "73b655f7f4fec6c352ebd93a8f3092ba1187949a4638c07f8fc146aafc42a5c2", func := "skerry/skerrylaw26.AuditHolds", spec := "auditHolds", inPlace := ["math.Float64frombits", "math.Float64bits"], unfollowed := true, recurses := true, apart := false }
def AuditHoldsSaid : Prop := auditHoldsRow.holds Tryz.pinned (OpenSpec.ofChange auditHoldsSpec)

/-- ITS FALSE NEIGHBOUR: 'it returns false'. Refute it at one input. -/
def auditHoldsWrong : ChangeSpec := { name := "auditHolds", fn := fun _ => fun
  | [d1, d2] => { results := [.lit (.bool false)], args := [d1, d2] }
  | _ => none }
def AuditHoldsWrongFalsely : Prop := auditHoldsRow.holds Tryz.pinned (OpenSpec.ofChange auditHoldsWrong)

/- THE SECOND FORM. 'bulk': how many values and letters a reading holds, each counted each time it is reached (what is shared counts as often as it is met; a slice's spare places count too). A statement '..UptoSaid' is the law's where the arguments, and the package variables that the reading takes, are together of bulk at most 1048576: NARROWER than '..Said'. Prove '..Said' where nothing that the law and all that it calls make is longer than what came in: it says more and counts as full. Else prove '..UptoSaid'. A law counts once. -/
mutual
def uptoBulk {H : Type} : DataW H → Nat
  | .lit (.string bytes) => bytes.length + 1
  | .lit _ => 1
  | .nil => 1
  | .ptr d => uptoBulk d + 1
  | .slice elems spare => uptoBulkAll elems + uptoBulkAll spare + 1
  | .agg parts => uptoBulkAll parts + 1
  | .iface _ d => uptoBulk d + 1
  | .map entries => uptoBulkEntries entries + 1
  | .held _ => 1
def uptoBulkAll {H : Type} : List (DataW H) → Nat
  | [] => 0
  | d :: r => uptoBulk d + uptoBulkAll r
def uptoBulkEntries {H : Type} : List (Lit × DataW H) → Nat
  | [] => 0
  | x :: r => uptoBulkEntry x + uptoBulkEntries r
def uptoBulkEntry {H : Type} : Lit × DataW H → Nat
  | (.string bytes, d) => bytes.length + uptoBulk d + 1
  | (_, d) => uptoBulk d + 1
 end
def uptoSmall : (H : Type) → List (DataW H) → Bool := fun _ ds => decide (uptoBulkAll ds ≤ 1048576)
def OpenSpec.upto (s : _root_.Go.ChangeSpec) : _root_.Go.OpenSpec := { _root_.Go.OpenSpec.ofChange s with cond := some uptoSmall }

/-- 'skerrylaw18.RaftTerms', WHERE WHAT IT READS IS OF BULK AT MOST 1048576: true; the input reads as it did. -/
def raftTermsUptoRow : OpenClaim := { program := "ytbhfokahocgndabgreat", sum := "73b655f7f4fec6c352ebd93a8f3092ba1187949a4638c07f8fc146aafc42a5c2", func := "skerry/skerrylaw18.RaftTerms", spec := "raftTerms", inPlace := ["math.Float64frombits", "math.Float64bits"], unfollowed := true, recurses := true, apart := false, narrowed := true }
def RaftTermsUptoSaid : Prop := raftTermsUptoRow.holds Tryz.pinned (OpenSpec.upto raftTermsSpec)

/-- 'skerrylaw18.RaftSafe', WHERE WHAT IT READS IS OF BULK AT MOST 1048576: true; the input reads as it did. -/
def raftSafeUptoRow : OpenClaim := { program := "ytbhfokahocgndabgreat", sum := "73b655f7f4fec6c352ebd93a8f3092ba1187949a4638c07f8fc146aafc42a5c2", func := "skerry/skerrylaw18.RaftSafe", spec := "raftSafe", inPlace := ["math.Float64frombits", "math.Float64bits"], unfollowed := true, recurses := true, apart := false, narrowed := true }
def RaftSafeUptoSaid : Prop := raftSafeUptoRow.holds Tryz.pinned (OpenSpec.upto raftSafeSpec)

/-- 'skerrylaw18.RaftApart', WHERE WHAT IT READS IS OF BULK AT MOST 1048576: true; the input reads as it did. -/
def raftApartUptoRow : OpenClaim := { program := "ytbhfokahocgndabgreat", sum := "73b655f7f4fec6c352ebd93a8f3092ba1187949a4638c07f8fc146aafc42a5c2", func := "skerry/skerrylaw18.RaftApart", spec := "raftApart", inPlace := ["math.Float64frombits", "math.Float64bits"], unfollowed := true, recurses := true, apart := false, narrowed := true }
def RaftApartUptoSaid : Prop := raftApartUptoRow.holds Tryz.pinned (OpenSpec.upto raftApartSpec)

/-- 'skerrylaw26.AuditHolds', WHERE WHAT IT READS IS OF BULK AT MOST 1048576: true; the input reads as it did. -/
def auditHoldsUptoRow : OpenClaim := { program := "ytbhfokahocgndabgreat", sum := "73b655f7f4fec6c352ebd93a8f3092ba1187949a4638c07f8fc146aafc42a5c2", func := "skerry/skerrylaw26.AuditHolds", spec := "auditHolds", inPlace := ["math.Float64frombits", "math.Float64bits"], unfollowed := true, recurses := true, apart := false, narrowed := true }
def AuditHoldsUptoSaid : Prop := auditHoldsUptoRow.holds Tryz.pinned (OpenSpec.upto auditHoldsSpec)

end Rows
end Go.Proofs.YtbhfokahocgndabGreat
