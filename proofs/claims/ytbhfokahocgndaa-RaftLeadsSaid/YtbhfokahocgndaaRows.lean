/-
  NARROWER THAN 'FOR EVERY INPUT', by the rows' own cells (each row's printed sentence says how): RaftVotes: loops · RaftGrows: loops · RaftLeads: loops.
  DERIVED. THE GIVEN ROWS OF THIS SEAT. 4 by the template 'for every input the law returns true; each argument reads behind the call as it read before'; 0 by the template 'total and deterministic' (their statements: YtbhfokahocgndaaTotals.lean).
  GIVEN WITH THE SEED: the statements are not yours to turn. If you find one false, say at which input.
  Laid BY PROGRAM, IN A SANDBOX (cutbox-rows.mjs): the forced cells as the released guide's own fill.sh prints them over the translation c9a1585e157bc70e… (all of the seat's roots in one cut). By AI agents, Wed Nov 11 2026. No macro, syntax, notation, axiom, sorry.
-/
import Derived.Test.YtbhfokahocgndaaChecked
import GoSem.Claim
import GoSem.ClaimJoined
import GoSem.ClaimMapViews
import Derived.JoinedTies
import Derived.KernelRfl
namespace Go.Proofs.Ytbhfokahocgndaa
/- THE CELL 'sum', in the pinned program and in every row, IS THE sha256 OF THE DUMP (.gsa) THAT YtbhfokahocgndaaProg.lean LOADS. Nothing in Lean hashes anything: it is a label: what it is worth is what the hold of that sum in a sandbox is worth. -/
noncomputable def Try.pinned : Pinned := { name := "ytbhfokahocgndaa", sum := "c9a1585e157bc70ece9873d2703c20b82e0b2c10b78d4888d3d1daa209ffd409", checked := Try.checked }
namespace Rows
def none {H : Type} : Left H := { results := [], args := [] }

/-- 'skerrylaw18.RaftAsking': WHATEVER THE INPUT: true; the input reads as it did. -/
def raftAskingSpec : ChangeSpec := { name := "raftAsking", fn := fun _ => fun
  | [d1, d2, d3] => { results := [.lit (.bool true)], args := [d1, d2, d3] }
  | _ => none }
def raftAskingRow : OpenClaim := { program := "ytbhfokahocgndaa", sum := "c9a1585e157bc70ece9873d2703c20b82e0b2c10b78d4888d3d1daa209ffd409", func := "skerry/skerrylaw18.RaftAsking", spec := "raftAsking", inPlace := ["math.Float64frombits", "math.Float64bits"], apart := false }
def RaftAskingSaid : Prop := raftAskingRow.holds Try.pinned (OpenSpec.ofChange raftAskingSpec)

/-- ITS FALSE NEIGHBOUR: 'it returns false'. Refute it at one input. -/
def raftAskingWrong : ChangeSpec := { name := "raftAsking", fn := fun _ => fun
  | [d1, d2, d3] => { results := [.lit (.bool false)], args := [d1, d2, d3] }
  | _ => none }
def RaftAskingWrongFalsely : Prop := raftAskingRow.holds Try.pinned (OpenSpec.ofChange raftAskingWrong)

/-- 'skerrylaw18.RaftVotes': WHATEVER THE INPUT: true; the input reads as it did. -/
def raftVotesSpec : ChangeSpec := { name := "raftVotes", fn := fun _ => fun
  | [d1, d2] => { results := [.lit (.bool true)], args := [d1, d2] }
  | _ => none }
def raftVotesRow : OpenClaim := { program := "ytbhfokahocgndaa", sum := "c9a1585e157bc70ece9873d2703c20b82e0b2c10b78d4888d3d1daa209ffd409", func := "skerry/skerrylaw18.RaftVotes", spec := "raftVotes", inPlace := ["math.Float64frombits", "math.Float64bits"], loops := true, apart := false }
def RaftVotesSaid : Prop := raftVotesRow.holds Try.pinned (OpenSpec.ofChange raftVotesSpec)

/-- ITS FALSE NEIGHBOUR: 'it returns false'. Refute it at one input. -/
def raftVotesWrong : ChangeSpec := { name := "raftVotes", fn := fun _ => fun
  | [d1, d2] => { results := [.lit (.bool false)], args := [d1, d2] }
  | _ => none }
def RaftVotesWrongFalsely : Prop := raftVotesRow.holds Try.pinned (OpenSpec.ofChange raftVotesWrong)

/-- 'skerrylaw18.RaftGrows': WHATEVER THE INPUT: true; the input reads as it did. -/
def raftGrowsSpec : ChangeSpec := { name := "raftGrows", fn := fun _ => fun
  | [d1, d2] => { results := [.lit (.bool true)], args := [d1, d2] }
  | _ => none }
def raftGrowsRow : OpenClaim := { program := "ytbhfokahocgndaa", sum := "c9a1585e157bc70ece9873d2703c20b82e0b2c10b78d4888d3d1daa209ffd409", func := "skerry/skerrylaw18.RaftGrows", spec := "raftGrows", inPlace := ["math.Float64frombits", "math.Float64bits"], loops := true, apart := false }
def RaftGrowsSaid : Prop := raftGrowsRow.holds Try.pinned (OpenSpec.ofChange raftGrowsSpec)

/-- ITS FALSE NEIGHBOUR: 'it returns false'. Refute it at one input. -/
def raftGrowsWrong : ChangeSpec := { name := "raftGrows", fn := fun _ => fun
  | [d1, d2] => { results := [.lit (.bool false)], args := [d1, d2] }
  | _ => none }
def RaftGrowsWrongFalsely : Prop := raftGrowsRow.holds Try.pinned (OpenSpec.ofChange raftGrowsWrong)

/-- 'skerrylaw18.RaftLeads': WHATEVER THE INPUT: true; the input reads as it did. -/
def raftLeadsSpec : ChangeSpec := { name := "raftLeads", fn := fun _ => fun
  | [d1, d2, d3] => { results := [.lit (.bool true)], args := [d1, d2, d3] }
  | _ => none }
def raftLeadsRow : OpenClaim := { program := "ytbhfokahocgndaa", sum := "c9a1585e157bc70ece9873d2703c20b82e0b2c10b78d4888d3d1daa209ffd409", func := "skerry/skerrylaw18.RaftLeads", spec := "raftLeads", inPlace := ["math.Float64frombits", "math.Float64bits"], loops := true, apart := false }
def RaftLeadsSaid : Prop := raftLeadsRow.holds Try.pinned (OpenSpec.ofChange raftLeadsSpec)

/-- ITS FALSE NEIGHBOUR: 'it returns false'. Refute it at one input. -/
def raftLeadsWrong : ChangeSpec := { name := "raftLeads", fn := fun _ => fun
  | [d1, d2, d3] => { results := [.lit (.bool false)], args := [d1, d2, d3] }
  | _ => none }
def RaftLeadsWrongFalsely : Prop := raftLeadsRow.holds Try.pinned (OpenSpec.ofChange raftLeadsWrong)

/- THE SECOND FORM. 'bulk': how many values and letters a reading holds, each counted each time it is reached (what is shared counts as often as it is met; a slice's spare places count too). A statement '..UptoSaid' is the law's where the arguments, and the package variables that the reading takes, are together of bulk at most 1048576: NARROWER than '..Said'. Prove '..Said' where nothing that the law and all that it calls make is longer than what came in: it says more and counts as full. Else prove '..UptoSaid'. A law counts once. -/
mutual
def uptoBulk {H : Type} : DataW H → Nat
  | .lit (.string bytes) => bytes.length + 1
  | .lit _ => 1
  | .nil => 1
  | .ptr d => uptoBulk d + 1
  | .slice elems spare => uptoBulkAll elems + uptoBulkAll spare + 1
  | .agg parts => uptoBulkAll parts + 1
  | .iface _ d => uptoBulk d + 1
  | .map entries => uptoBulkEntries entries + 1
  | .held _ => 1
def uptoBulkAll {H : Type} : List (DataW H) → Nat
  | [] => 0
  | d :: r => uptoBulk d + uptoBulkAll r
def uptoBulkEntries {H : Type} : List (Lit × DataW H) → Nat
  | [] => 0
  | x :: r => uptoBulkEntry x + uptoBulkEntries r
def uptoBulkEntry {H : Type} : Lit × DataW H → Nat
  | (.string bytes, d) => bytes.length + uptoBulk d + 1
  | (_, d) => uptoBulk d + 1
 end
def uptoSmall : (H : Type) → List (DataW H) → Bool := fun _ ds => decide (uptoBulkAll ds ≤ 1048576)
def OpenSpec.upto (s : _root_.Go.ChangeSpec) : _root_.Go.OpenSpec := { _root_.Go.OpenSpec.ofChange s with cond := some uptoSmall }

/-- 'skerrylaw18.RaftAsking', WHERE WHAT IT READS IS OF BULK AT MOST 1048576: true; the input reads as it did. -/
def raftAskingUptoRow : OpenClaim := { program := "ytbhfokahocgndaa", sum := "c9a1585e157bc70ece9873d2703c20b82e0b2c10b78d4888d3d1daa209ffd409", func := "skerry/skerrylaw18.RaftAsking", spec := "raftAsking", inPlace := ["math.Float64frombits", "math.Float64bits"], apart := false, narrowed := true }
def RaftAskingUptoSaid : Prop := raftAskingUptoRow.holds Try.pinned (OpenSpec.upto raftAskingSpec)

/-- 'skerrylaw18.RaftVotes', WHERE WHAT IT READS IS OF BULK AT MOST 1048576: true; the input reads as it did. -/
def raftVotesUptoRow : OpenClaim := { program := "ytbhfokahocgndaa", sum := "c9a1585e157bc70ece9873d2703c20b82e0b2c10b78d4888d3d1daa209ffd409", func := "skerry/skerrylaw18.RaftVotes", spec := "raftVotes", inPlace := ["math.Float64frombits", "math.Float64bits"], loops := true, apart := false, narrowed := true }
def RaftVotesUptoSaid : Prop := raftVotesUptoRow.holds Try.pinned (OpenSpec.upto raftVotesSpec)

/-- 'skerrylaw18.RaftGrows', WHERE WHAT IT READS IS OF BULK AT MOST 1048576: true; the input reads as it did. -/
def raftGrowsUptoRow : OpenClaim := { program := "ytbhfokahocgndaa", sum := "c9a1585e157bc70ece9873d2703c20b82e0b2c10b78d4888d3d1daa209ffd409", func := "skerry/skerrylaw18.RaftGrows", spec := "raftGrows", inPlace := ["math.Float64frombits", "math.Float64bits"], loops := true, apart := false, narrowed := true }
def RaftGrowsUptoSaid : Prop := raftGrowsUptoRow.holds Try.pinned (OpenSpec.upto raftGrowsSpec)

/-- 'skerrylaw18.RaftLeads', WHERE WHAT IT READS IS OF BULK AT MOST 1048576: true; the input reads as it did. -/
def raftLeadsUptoRow : OpenClaim := { program := "ytbhfokahocgndaa", sum := "c9a1585e157bc70ece9873d2703c20b82e0b2c10b78d4888d3d1daa209ffd409", func := "skerry/skerrylaw18.RaftLeads", spec := "raftLeads", inPlace := ["math.Float64frombits", "math.Float64bits"], loops := true, apart := false, narrowed := true }
def RaftLeadsUptoSaid : Prop := raftLeadsUptoRow.holds Try.pinned (OpenSpec.upto raftLeadsSpec)

end Rows
end Go.Proofs.Ytbhfokahocgndaa
