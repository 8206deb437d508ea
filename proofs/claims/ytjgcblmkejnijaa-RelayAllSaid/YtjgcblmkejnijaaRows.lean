/-
  NARROWER THAN 'FOR EVERY INPUT', by the rows' own cells (each row's printed sentence says how): RelayNear: loops · RelayAll: loops · RelayOpens: loops · RelayFolds: loops.
  DERIVED. THE GIVEN ROWS OF THIS SEAT. 15 by the template 'for every input the law returns true; each argument reads behind the call as it read before'; 0 by the template 'total and deterministic' (their statements: YtjgcblmkejnijaaTotals.lean).
  GIVEN WITH THE SEED: the statements are not yours to turn. If you find one false, say at which input.
  Laid BY PROGRAM, IN A SANDBOX (cutbox-rows.mjs): the forced cells as the released guide's own fill.sh prints them over the translation 855d484f1c65ca56… (all of the seat's roots in one cut). By AI agents, Wed Nov 11 2026. No macro, syntax, notation, axiom, sorry.
-/
import Derived.Test.YtjgcblmkejnijaaChecked
import GoSem.Claim
import GoSem.ClaimJoined
import GoSem.ClaimMapViews
import Derived.JoinedTies
import Derived.KernelRfl
namespace Go.Proofs.Ytjgcblmkejnijaa
/- THE CELL 'sum', in the pinned program and in every row, IS THE sha256 OF THE DUMP (.gsa) THAT YtjgcblmkejnijaaProg.lean LOADS. Nothing in Lean hashes anything: it is a label: what it is worth is what the hold of that sum in a sandbox is worth. -/
noncomputable def Try.pinned : Pinned := { name := "ytjgcblmkejnijaa", sum := "855d484f1c65ca569cdf20174c56dbab8b6dc0e43521acb07a21bbd45636e8f3", checked := Try.checked }
namespace Rows
def none {H : Type} : Left H := { results := [], args := [] }

/-- 'skerrylaw14.PlaceOrders': WHATEVER THE INPUT: true; the input reads as it did. -/
def placeOrdersSpec : ChangeSpec := { name := "placeOrders", fn := fun _ => fun
  | [d1, d2] => { results := [.lit (.bool true)], args := [d1, d2] }
  | _ => none }
def placeOrdersRow : OpenClaim := { program := "ytjgcblmkejnijaa", sum := "855d484f1c65ca569cdf20174c56dbab8b6dc0e43521acb07a21bbd45636e8f3", func := "skerry/skerrylaw14.PlaceOrders", spec := "placeOrders", inPlace := ["math.Float64frombits", "math.Float64bits"], unfollowed := true, recurses := true, apart := false }
def PlaceOrdersSaid : Prop := placeOrdersRow.holds Try.pinned (OpenSpec.ofChange placeOrdersSpec)

/-- ITS FALSE NEIGHBOUR: 'it returns false'. Refute it at one input. -/
def placeOrdersWrong : ChangeSpec := { name := "placeOrders", fn := fun _ => fun
  | [d1, d2] => { results := [.lit (.bool false)], args := [d1, d2] }
  | _ => none }
def PlaceOrdersWrongFalsely : Prop := placeOrdersRow.holds Try.pinned (OpenSpec.ofChange placeOrdersWrong)

/-- 'skerrylaw14.PlaceMore': WHATEVER THE INPUT: true; the input reads as it did. -/
def placeMoreSpec : ChangeSpec := { name := "placeMore", fn := fun _ => fun
  | [d1, d2, d3] => { results := [.lit (.bool true)], args := [d1, d2, d3] }
  | _ => none }
def placeMoreRow : OpenClaim := { program := "ytjgcblmkejnijaa", sum := "855d484f1c65ca569cdf20174c56dbab8b6dc0e43521acb07a21bbd45636e8f3", func := "skerry/skerrylaw14.PlaceMore", spec := "placeMore", inPlace := ["math.Float64frombits", "math.Float64bits"], unfollowed := true, recurses := true, apart := false }
def PlaceMoreSaid : Prop := placeMoreRow.holds Try.pinned (OpenSpec.ofChange placeMoreSpec)

/-- ITS FALSE NEIGHBOUR: 'it returns false'. Refute it at one input. -/
def placeMoreWrong : ChangeSpec := { name := "placeMore", fn := fun _ => fun
  | [d1, d2, d3] => { results := [.lit (.bool false)], args := [d1, d2, d3] }
  | _ => none }
def PlaceMoreWrongFalsely : Prop := placeMoreRow.holds Try.pinned (OpenSpec.ofChange placeMoreWrong)

/-- 'skerrylaw14.PlaceScores': WHATEVER THE INPUT: true; the input reads as it did. -/
def placeScoresSpec : ChangeSpec := { name := "placeScores", fn := fun _ => fun
  | [d1, d2] => { results := [.lit (.bool true)], args := [d1, d2] }
  | _ => none }
def placeScoresRow : OpenClaim := { program := "ytjgcblmkejnijaa", sum := "855d484f1c65ca569cdf20174c56dbab8b6dc0e43521acb07a21bbd45636e8f3", func := "skerry/skerrylaw14.PlaceScores", spec := "placeScores", inPlace := ["math.Float64frombits", "math.Float64bits"], unfollowed := true, recurses := true, apart := false }
def PlaceScoresSaid : Prop := placeScoresRow.holds Try.pinned (OpenSpec.ofChange placeScoresSpec)

/-- ITS FALSE NEIGHBOUR: 'it returns false'. Refute it at one input. -/
def placeScoresWrong : ChangeSpec := { name := "placeScores", fn := fun _ => fun
  | [d1, d2] => { results := [.lit (.bool false)], args := [d1, d2] }
  | _ => none }
def PlaceScoresWrongFalsely : Prop := placeScoresRow.holds Try.pinned (OpenSpec.ofChange placeScoresWrong)

/-- 'skerrylaw14.PlaceBest': WHATEVER THE INPUT: true; the input reads as it did. -/
def placeBestSpec : ChangeSpec := { name := "placeBest", fn := fun _ => fun
  | [d1, d2, d3] => { results := [.lit (.bool true)], args := [d1, d2, d3] }
  | _ => none }
def placeBestRow : OpenClaim := { program := "ytjgcblmkejnijaa", sum := "855d484f1c65ca569cdf20174c56dbab8b6dc0e43521acb07a21bbd45636e8f3", func := "skerry/skerrylaw14.PlaceBest", spec := "placeBest", inPlace := ["math.Float64frombits", "math.Float64bits"], unfollowed := true, recurses := true, apart := false }
def PlaceBestSaid : Prop := placeBestRow.holds Try.pinned (OpenSpec.ofChange placeBestSpec)

/-- ITS FALSE NEIGHBOUR: 'it returns false'. Refute it at one input. -/
def placeBestWrong : ChangeSpec := { name := "placeBest", fn := fun _ => fun
  | [d1, d2, d3] => { results := [.lit (.bool false)], args := [d1, d2, d3] }
  | _ => none }
def PlaceBestWrongFalsely : Prop := placeBestRow.holds Try.pinned (OpenSpec.ofChange placeBestWrong)

/-- 'skerrylaw14.PlaceMeans': WHATEVER THE INPUT: true; the input reads as it did. -/
def placeMeansSpec : ChangeSpec := { name := "placeMeans", fn := fun _ => fun
  | [d1, d2] => { results := [.lit (.bool true)], args := [d1, d2] }
  | _ => none }
def placeMeansRow : OpenClaim := { program := "ytjgcblmkejnijaa", sum := "855d484f1c65ca569cdf20174c56dbab8b6dc0e43521acb07a21bbd45636e8f3", func := "skerry/skerrylaw14.PlaceMeans", spec := "placeMeans", inPlace := ["math.Float64bits", "math.Float64frombits"], unfollowed := true, recurses := true, apart := false }
def PlaceMeansSaid : Prop := placeMeansRow.holds Try.pinned (OpenSpec.ofChange placeMeansSpec)

/-- ITS FALSE NEIGHBOUR: 'it returns false'. Refute it at one input. -/
def placeMeansWrong : ChangeSpec := { name := "placeMeans", fn := fun _ => fun
  | [d1, d2] => { results := [.lit (.bool false)], args := [d1, d2] }
  | _ => none }
def PlaceMeansWrongFalsely : Prop := placeMeansRow.holds Try.pinned (OpenSpec.ofChange placeMeansWrong)

/-- 'skerrylaw19.RelayNear': WHATEVER THE INPUT: true; the input reads as it did. -/
def relayNearSpec : ChangeSpec := { name := "relayNear", fn := fun _ => fun
  | [d1, d2, d3] => { results := [.lit (.bool true)], args := [d1, d2, d3] }
  | _ => none }
def relayNearRow : OpenClaim := { program := "ytjgcblmkejnijaa", sum := "855d484f1c65ca569cdf20174c56dbab8b6dc0e43521acb07a21bbd45636e8f3", func := "skerry/skerrylaw19.RelayNear", spec := "relayNear", inPlace := ["math.Float64frombits", "math.Float64bits"], unfollowed := true, recurses := true, loops := true, apart := false }
def RelayNearSaid : Prop := relayNearRow.holds Try.pinned (OpenSpec.ofChange relayNearSpec)

/-- ITS FALSE NEIGHBOUR: 'it returns false'. Refute it at one input. -/
def relayNearWrong : ChangeSpec := { name := "relayNear", fn := fun _ => fun
  | [d1, d2, d3] => { results := [.lit (.bool false)], args := [d1, d2, d3] }
  | _ => none }
def RelayNearWrongFalsely : Prop := relayNearRow.holds Try.pinned (OpenSpec.ofChange relayNearWrong)

/-- 'skerrylaw19.RelayAll': WHATEVER THE INPUT: true; the input reads as it did. -/
def relayAllSpec : ChangeSpec := { name := "relayAll", fn := fun _ => fun
  | [d1, d2, d3, d4] => { results := [.lit (.bool true)], args := [d1, d2, d3, d4] }
  | _ => none }
def relayAllRow : OpenClaim := { program := "ytjgcblmkejnijaa", sum := "855d484f1c65ca569cdf20174c56dbab8b6dc0e43521acb07a21bbd45636e8f3", func := "skerry/skerrylaw19.RelayAll", spec := "relayAll", inPlace := ["math.Float64frombits", "math.Float64bits"], unfollowed := true, recurses := true, loops := true, apart := false }
def RelayAllSaid : Prop := relayAllRow.holds Try.pinned (OpenSpec.ofChange relayAllSpec)

/-- ITS FALSE NEIGHBOUR: 'it returns false'. Refute it at one input. -/
def relayAllWrong : ChangeSpec := { name := "relayAll", fn := fun _ => fun
  | [d1, d2, d3, d4] => { results := [.lit (.bool false)], args := [d1, d2, d3, d4] }
  | _ => none }
def RelayAllWrongFalsely : Prop := relayAllRow.holds Try.pinned (OpenSpec.ofChange relayAllWrong)

/-- 'skerrylaw19.RelayOpens': WHATEVER THE INPUT: true; the input reads as it did. -/
def relayOpensSpec : ChangeSpec := { name := "relayOpens", fn := fun _ => fun
  | [d1, d2] => { results := [.lit (.bool true)], args := [d1, d2] }
  | _ => none }
def relayOpensRow : OpenClaim := { program := "ytjgcblmkejnijaa", sum := "855d484f1c65ca569cdf20174c56dbab8b6dc0e43521acb07a21bbd45636e8f3", func := "skerry/skerrylaw19.RelayOpens", spec := "relayOpens", inPlace := ["math.Float64frombits", "math.Float64bits"], unfollowed := true, recurses := true, loops := true, apart := false }
def RelayOpensSaid : Prop := relayOpensRow.holds Try.pinned (OpenSpec.ofChange relayOpensSpec)

/-- ITS FALSE NEIGHBOUR: 'it returns false'. Refute it at one input. -/
def relayOpensWrong : ChangeSpec := { name := "relayOpens", fn := fun _ => fun
  | [d1, d2] => { results := [.lit (.bool false)], args := [d1, d2] }
  | _ => none }
def RelayOpensWrongFalsely : Prop := relayOpensRow.holds Try.pinned (OpenSpec.ofChange relayOpensWrong)

/-- 'skerrylaw19.RelayFolds': WHATEVER THE INPUT: true; the input reads as it did. -/
def relayFoldsSpec : ChangeSpec := { name := "relayFolds", fn := fun _ => fun
  | [d1, d2, d3, d4, d5, d6] => { results := [.lit (.bool true)], args := [d1, d2, d3, d4, d5, d6] }
  | _ => none }
def relayFoldsRow : OpenClaim := { program := "ytjgcblmkejnijaa", sum := "855d484f1c65ca569cdf20174c56dbab8b6dc0e43521acb07a21bbd45636e8f3", func := "skerry/skerrylaw19.RelayFolds", spec := "relayFolds", inPlace := ["math.Float64bits", "math.Float64frombits"], unfollowed := true, recurses := true, loops := true, apart := false }
def RelayFoldsSaid : Prop := relayFoldsRow.holds Try.pinned (OpenSpec.ofChange relayFoldsSpec)

/-- ITS FALSE NEIGHBOUR: 'it returns false'. Refute it at one input. -/
def relayFoldsWrong : ChangeSpec := { name := "relayFolds", fn := fun _ => fun
  | [d1, d2, d3, d4, d5, d6] => { results := [.lit (.bool false)], args := [d1, d2, d3, d4, d5, d6] }
  | _ => none }
def RelayFoldsWrongFalsely : Prop := relayFoldsRow.holds Try.pinned (OpenSpec.ofChange relayFoldsWrong)

/-- 'skerrylaw20.PlanSafe': WHATEVER THE INPUT: true; the input reads as it did. -/
def planSafeSpec : ChangeSpec := { name := "planSafe", fn := fun _ => fun
  | [d1, d2, d3, d4, d5] => { results := [.lit (.bool true)], args := [d1, d2, d3, d4, d5] }
  | _ => none }
def planSafeRow : OpenClaim := { program := "ytjgcblmkejnijaa", sum := "855d484f1c65ca569cdf20174c56dbab8b6dc0e43521acb07a21bbd45636e8f3", func := "skerry/skerrylaw20.PlanSafe", spec := "planSafe", inPlace := ["math.Float64frombits"], unfollowed := true, recurses := true, apart := false }
def PlanSafeSaid : Prop := planSafeRow.holds Try.pinned (OpenSpec.ofChange planSafeSpec)

/-- ITS FALSE NEIGHBOUR: 'it returns false'. Refute it at one input. -/
def planSafeWrong : ChangeSpec := { name := "planSafe", fn := fun _ => fun
  | [d1, d2, d3, d4, d5] => { results := [.lit (.bool false)], args := [d1, d2, d3, d4, d5] }
  | _ => none }
def PlanSafeWrongFalsely : Prop := planSafeRow.holds Try.pinned (OpenSpec.ofChange planSafeWrong)

/-- 'skerrylaw20.PlanEnds': WHATEVER THE INPUT: true; the input reads as it did. -/
def planEndsSpec : ChangeSpec := { name := "planEnds", fn := fun _ => fun
  | [d1, d2, d3, d4, d5] => { results := [.lit (.bool true)], args := [d1, d2, d3, d4, d5] }
  | _ => none }
def planEndsRow : OpenClaim := { program := "ytjgcblmkejnijaa", sum := "855d484f1c65ca569cdf20174c56dbab8b6dc0e43521acb07a21bbd45636e8f3", func := "skerry/skerrylaw20.PlanEnds", spec := "planEnds", inPlace := ["math.Float64frombits"], unfollowed := true, recurses := true, apart := false }
def PlanEndsSaid : Prop := planEndsRow.holds Try.pinned (OpenSpec.ofChange planEndsSpec)

/-- ITS FALSE NEIGHBOUR: 'it returns false'. Refute it at one input. -/
def planEndsWrong : ChangeSpec := { name := "planEnds", fn := fun _ => fun
  | [d1, d2, d3, d4, d5] => { results := [.lit (.bool false)], args := [d1, d2, d3, d4, d5] }
  | _ => none }
def PlanEndsWrongFalsely : Prop := planEndsRow.holds Try.pinned (OpenSpec.ofChange planEndsWrong)

/-- 'skerrylaw20.PlanSilent': WHATEVER THE INPUT: true; the input reads as it did. -/
def planSilentSpec : ChangeSpec := { name := "planSilent", fn := fun _ => fun
  | [d1, d2, d3, d4, d5] => { results := [.lit (.bool true)], args := [d1, d2, d3, d4, d5] }
  | _ => none }
def planSilentRow : OpenClaim := { program := "ytjgcblmkejnijaa", sum := "855d484f1c65ca569cdf20174c56dbab8b6dc0e43521acb07a21bbd45636e8f3", func := "skerry/skerrylaw20.PlanSilent", spec := "planSilent", inPlace := ["math.Float64frombits"], unfollowed := true, recurses := true, apart := false }
def PlanSilentSaid : Prop := planSilentRow.holds Try.pinned (OpenSpec.ofChange planSilentSpec)

/-- ITS FALSE NEIGHBOUR: 'it returns false'. Refute it at one input. -/
def planSilentWrong : ChangeSpec := { name := "planSilent", fn := fun _ => fun
  | [d1, d2, d3, d4, d5] => { results := [.lit (.bool false)], args := [d1, d2, d3, d4, d5] }
  | _ => none }
def PlanSilentWrongFalsely : Prop := planSilentRow.holds Try.pinned (OpenSpec.ofChange planSilentWrong)

/-- 'skerrylaw20.PlanReplaces': WHATEVER THE INPUT: true; the input reads as it did. -/
def planReplacesSpec : ChangeSpec := { name := "planReplaces", fn := fun _ => fun
  | [d1, d2, d3, d4] => { results := [.lit (.bool true)], args := [d1, d2, d3, d4] }
  | _ => none }
def planReplacesRow : OpenClaim := { program := "ytjgcblmkejnijaa", sum := "855d484f1c65ca569cdf20174c56dbab8b6dc0e43521acb07a21bbd45636e8f3", func := "skerry/skerrylaw20.PlanReplaces", spec := "planReplaces", inPlace := ["math.Float64frombits"], unfollowed := true, recurses := true, apart := false }
def PlanReplacesSaid : Prop := planReplacesRow.holds Try.pinned (OpenSpec.ofChange planReplacesSpec)

/-- ITS FALSE NEIGHBOUR: 'it returns false'. Refute it at one input. -/
def planReplacesWrong : ChangeSpec := { name := "planReplaces", fn := fun _ => fun
  | [d1, d2, d3, d4] => { results := [.lit (.bool false)], args := [d1, d2, d3, d4] }
  | _ => none }
def PlanReplacesWrongFalsely : Prop := planReplacesRow.holds Try.pinned (OpenSpec.ofChange planReplacesWrong)

/-- 'skerrylaw20.PlanRests': WHATEVER THE INPUT: true; the input reads as it did. -/
def planRestsSpec : ChangeSpec := { name := "planRests", fn := fun _ => fun
  | [d1, d2, d3, d4, d5, d6] => { results := [.lit (.bool true)], args := [d1, d2, d3, d4, d5, d6] }
  | _ => none }
def planRestsRow : OpenClaim := { program := "ytjgcblmkejnijaa", sum := "855d484f1c65ca569cdf20174c56dbab8b6dc0e43521acb07a21bbd45636e8f3", func := "skerry/skerrylaw20.PlanRests", spec := "planRests", inPlace := ["math.Float64frombits"], unfollowed := true, recurses := true, apart := false }
def PlanRestsSaid : Prop := planRestsRow.holds Try.pinned (OpenSpec.ofChange planRestsSpec)

/-- ITS FALSE NEIGHBOUR: 'it returns false'. Refute it at one input. -/
def planRestsWrong : ChangeSpec := { name := "planRests", fn := fun _ => fun
  | [d1, d2, d3, d4, d5, d6] => { results := [.lit (.bool false)], args := [d1, d2, d3, d4, d5, d6] }
  | _ => none }
def PlanRestsWrongFalsely : Prop := planRestsRow.holds Try.pinned (OpenSpec.ofChange planRestsWrong)

/-- 'skerrylaw20.PlanExact': WHATEVER THE INPUT: true; the input reads as it did. -/
def planExactSpec : ChangeSpec := { name := "planExact", fn := fun _ => fun
  | [d1, d2, d3, d4, d5] => { results := [.lit (.bool true)], args := [d1, d2, d3, d4, d5] }
  | _ => none }
def planExactRow : OpenClaim := { program := "ytjgcblmkejnijaa", sum := "855d484f1c65ca569cdf20174c56dbab8b6dc0e43521acb07a21bbd45636e8f3", func := "skerry/skerrylaw20.PlanExact", spec := "planExact", inPlace := ["math.Float64frombits", "math.Float64bits"], unfollowed := true, recurses := true, apart := false }
def PlanExactSaid : Prop := planExactRow.holds Try.pinned (OpenSpec.ofChange planExactSpec)

/-- ITS FALSE NEIGHBOUR: 'it returns false'. Refute it at one input. -/
def planExactWrong : ChangeSpec := { name := "planExact", fn := fun _ => fun
  | [d1, d2, d3, d4, d5] => { results := [.lit (.bool false)], args := [d1, d2, d3, d4, d5] }
  | _ => none }
def PlanExactWrongFalsely : Prop := planExactRow.holds Try.pinned (OpenSpec.ofChange planExactWrong)

/- THE SECOND FORM. 'bulk': how many values and letters a reading holds, each counted each time it is reached (what is shared counts as often as it is met; a slice's spare places count too). A statement '..UptoSaid' is the law's where the arguments, and the package variables that the reading takes, are together of bulk at most 1048576: NARROWER than '..Said'. Prove '..Said' where nothing that the law and all that it calls make is longer than what came in: it says more and counts as full. Else prove '..UptoSaid'. A law counts once. -/
mutual
def uptoBulk {H : Type} : DataW H → Nat
  | .lit (.string bytes) => bytes.length + 1
  | .lit _ => 1
  | .nil => 1
  | .ptr d => uptoBulk d + 1
  | .slice elems spare => uptoBulkAll elems + uptoBulkAll spare + 1
  | .agg parts => uptoBulkAll parts + 1
  | .iface _ d => uptoBulk d + 1
  | .map entries => uptoBulkEntries entries + 1
  | .held _ => 1
def uptoBulkAll {H : Type} : List (DataW H) → Nat
  | [] => 0
  | d :: r => uptoBulk d + uptoBulkAll r
def uptoBulkEntries {H : Type} : List (Lit × DataW H) → Nat
  | [] => 0
  | x :: r => uptoBulkEntry x + uptoBulkEntries r
def uptoBulkEntry {H : Type} : Lit × DataW H → Nat
  | (.string bytes, d) => bytes.length + uptoBulk d + 1
  | (_, d) => uptoBulk d + 1
 end
def uptoSmall : (H : Type) → List (DataW H) → Bool := fun _ ds => decide (uptoBulkAll ds ≤ 1048576)
def OpenSpec.upto (s : _root_.Go.ChangeSpec) : _root_.Go.OpenSpec := { _root_.Go.OpenSpec.ofChange s with cond := some uptoSmall }

/-- 'skerrylaw14.PlaceOrders', WHERE WHAT IT READS IS OF BULK AT MOST 1048576: true; the input reads as it did. -/
def placeOrdersUptoRow : OpenClaim := { program := "ytjgcblmkejnijaa", sum := "855d484f1c65ca569cdf20174c56dbab8b6dc0e43521acb07a21bbd45636e8f3", func := "skerry/skerrylaw14.PlaceOrders", spec := "placeOrders", inPlace := ["math.Float64frombits", "math.Float64bits"], unfollowed := true, recurses := true, apart := false, narrowed := true }
def PlaceOrdersUptoSaid : Prop := placeOrdersUptoRow.holds Try.pinned (OpenSpec.upto placeOrdersSpec)

/-- 'skerrylaw14.PlaceMore', WHERE WHAT IT READS IS OF BULK AT MOST 1048576: true; the input reads as it did. -/
def placeMoreUptoRow : OpenClaim := { program := "ytjgcblmkejnijaa", sum := "855d484f1c65ca569cdf20174c56dbab8b6dc0e43521acb07a21bbd45636e8f3", func := "skerry/skerrylaw14.PlaceMore", spec := "placeMore", inPlace := ["math.Float64frombits", "math.Float64bits"], unfollowed := true, recurses := true, apart := false, narrowed := true }
def PlaceMoreUptoSaid : Prop := placeMoreUptoRow.holds Try.pinned (OpenSpec.upto placeMoreSpec)

/-- 'skerrylaw14.PlaceScores', WHERE WHAT IT READS IS OF BULK AT MOST 1048576: true; the input reads as it did. -/
def placeScoresUptoRow : OpenClaim := { program := "ytjgcblmkejnijaa", sum := "855d484f1c65ca569cdf20174c56dbab8b6dc0e43521acb07a21bbd45636e8f3", func := "skerry/skerrylaw14.PlaceScores", spec := "placeScores", inPlace := ["math.Float64frombits", "math.Float64bits"], unfollowed := true, recurses := true, apart := false, narrowed := true }
def PlaceScoresUptoSaid : Prop := placeScoresUptoRow.holds Try.pinned (OpenSpec.upto placeScoresSpec)

/-- 'skerrylaw14.PlaceBest', WHERE WHAT IT READS IS OF BULK AT MOST 1048576: true; the input reads as it did. -/
def placeBestUptoRow : OpenClaim := { program := "ytjgcblmkejnijaa", sum := "855d484f1c65ca569cdf20174c56dbab8b6dc0e43521acb07a21bbd45636e8f3", func := "skerry/skerrylaw14.PlaceBest", spec := "placeBest", inPlace := ["math.Float64frombits", "math.Float64bits"], unfollowed := true, recurses := true, apart := false, narrowed := true }
def PlaceBestUptoSaid : Prop := placeBestUptoRow.holds Try.pinned (OpenSpec.upto placeBestSpec)

/-- 'skerrylaw14.PlaceMeans', WHERE WHAT IT READS IS OF BULK AT MOST 1048576: true; the input reads as it did. -/
def placeMeansUptoRow : OpenClaim := { program := "ytjgcblmkejnijaa", sum := "855d484f1c65ca569cdf20174c56dbab8b6dc0e43521acb07a21bbd45636e8f3", func := "skerry/skerrylaw14.PlaceMeans", spec := "placeMeans", inPlace := ["math.Float64bits", "math.Float64frombits"], unfollowed := true, recurses := true, apart := false, narrowed := true }
def PlaceMeansUptoSaid : Prop := placeMeansUptoRow.holds Try.pinned (OpenSpec.upto placeMeansSpec)

/-- 'skerrylaw19.RelayNear', WHERE WHAT IT READS IS OF BULK AT MOST 1048576: true; the input reads as it did. -/
def relayNearUptoRow : OpenClaim := { program := "ytjgcblmkejnijaa", sum := "855d484f1c65ca569cdf20174c56dbab8b6dc0e43521acb07a21bbd45636e8f3", func := "skerry/skerrylaw19.RelayNear", spec := "relayNear", inPlace := ["math.Float64frombits", "math.Float64bits"], unfollowed := true, recurses := true, loops := true, apart := false, narrowed := true }
def RelayNearUptoSaid : Prop := relayNearUptoRow.holds Try.pinned (OpenSpec.upto relayNearSpec)

/-- 'skerrylaw19.RelayAll', WHERE WHAT IT READS IS OF BULK AT MOST 1048576: true; the input reads as it did. -/
def relayAllUptoRow : OpenClaim := { program := "ytjgcblmkejnijaa", sum := "855d484f1c65ca569cdf20174c56dbab8b6dc0e43521acb07a21bbd45636e8f3", func := "skerry/skerrylaw19.RelayAll", spec := "relayAll", inPlace := ["math.Float64frombits", "math.Float64bits"], unfollowed := true, recurses := true, loops := true, apart := false, narrowed := true }
def RelayAllUptoSaid : Prop := relayAllUptoRow.holds Try.pinned (OpenSpec.upto relayAllSpec)

/-- 'skerrylaw19.RelayOpens', WHERE WHAT IT READS IS OF BULK AT MOST 1048576: true; the input reads as it did. -/
def relayOpensUptoRow : OpenClaim := { program := "ytjgcblmkejnijaa", sum := "855d484f1c65ca569cdf20174c56dbab8b6dc0e43521acb07a21bbd45636e8f3", func := "skerry/skerrylaw19.RelayOpens", spec := "relayOpens", inPlace := ["math.Float64frombits", "math.Float64bits"], unfollowed := true, recurses := true, loops := true, apart := false, narrowed := true }
def RelayOpensUptoSaid : Prop := relayOpensUptoRow.holds Try.pinned (OpenSpec.upto relayOpensSpec)

/-- 'skerrylaw19.RelayFolds', WHERE WHAT IT READS IS OF BULK AT MOST 1048576: true; the input reads as it did. -/
def relayFoldsUptoRow : OpenClaim := { program := "ytjgcblmkejnijaa", sum := "855d484f1c65ca569cdf20174c56dbab8b6dc0e43521acb07a21bbd45636e8f3", func := "skerry/skerrylaw19.RelayFolds", spec := "relayFolds", inPlace := ["math.Float64bits", "math.Float64frombits"], unfollowed := true, recurses := true, loops := true, apart := false, narrowed := true }
def RelayFoldsUptoSaid : Prop := relayFoldsUptoRow.holds Try.pinned (OpenSpec.upto relayFoldsSpec)

/-- 'skerrylaw20.PlanSafe', WHERE WHAT IT READS IS OF BULK AT MOST 1048576: true; the input reads as it did. -/
def planSafeUptoRow : OpenClaim := { program := "ytjgcblmkejnijaa", sum := "855d484f1c65ca569cdf20174c56dbab8b6dc0e43521acb07a21bbd45636e8f3", func := "skerry/skerrylaw20.PlanSafe", spec := "planSafe", inPlace := ["math.Float64frombits"], unfollowed := true, recurses := true, apart := false, narrowed := true }
def PlanSafeUptoSaid : Prop := planSafeUptoRow.holds Try.pinned (OpenSpec.upto planSafeSpec)

/-- 'skerrylaw20.PlanEnds', WHERE WHAT IT READS IS OF BULK AT MOST 1048576: true; the input reads as it did. -/
def planEndsUptoRow : OpenClaim := { program := "ytjgcblmkejnijaa", sum := "855d484f1c65ca569cdf20174c56dbab8b6dc0e43521acb07a21bbd45636e8f3", func := "skerry/skerrylaw20.PlanEnds", spec := "planEnds", inPlace := ["math.Float64frombits"], unfollowed := true, recurses := true, apart := false, narrowed := true }
def PlanEndsUptoSaid : Prop := planEndsUptoRow.holds Try.pinned (OpenSpec.upto planEndsSpec)

/-- 'skerrylaw20.PlanSilent', WHERE WHAT IT READS IS OF BULK AT MOST 1048576: true; the input reads as it did. -/
def planSilentUptoRow : OpenClaim := { program := "ytjgcblmkejnijaa", sum := "855d484f1c65ca569cdf20174c56dbab8b6dc0e43521acb07a21bbd45636e8f3", func := "skerry/skerrylaw20.PlanSilent", spec := "planSilent", inPlace := ["math.Float64frombits"], unfollowed := true, recurses := true, apart := false, narrowed := true }
def PlanSilentUptoSaid : Prop := planSilentUptoRow.holds Try.pinned (OpenSpec.upto planSilentSpec)

/-- 'skerrylaw20.PlanReplaces', WHERE WHAT IT READS IS OF BULK AT MOST 1048576: true; the input reads as it did. -/
def planReplacesUptoRow : OpenClaim := { program := "ytjgcblmkejnijaa", sum := "855d484f1c65ca569cdf20174c56dbab8b6dc0e43521acb07a21bbd45636e8f3", func := "skerry/skerrylaw20.PlanReplaces", spec := "planReplaces", inPlace := ["math.Float64frombits"], unfollowed := true, recurses := true, apart := false, narrowed := true }
def PlanReplacesUptoSaid : Prop := planReplacesUptoRow.holds Try.pinned (OpenSpec.upto planReplacesSpec)

/-- 'skerrylaw20.PlanRests', WHERE WHAT IT READS IS OF BULK AT MOST 1048576: true; the input reads as it did. -/
def planRestsUptoRow : OpenClaim := { program := "ytjgcblmkejnijaa", sum := "855d484f1c65ca569cdf20174c56dbab8b6dc0e43521acb07a21bbd45636e8f3", func := "skerry/skerrylaw20.PlanRests", spec := "planRests", inPlace := ["math.Float64frombits"], unfollowed := true, recurses := true, apart := false, narrowed := true }
def PlanRestsUptoSaid : Prop := planRestsUptoRow.holds Try.pinned (OpenSpec.upto planRestsSpec)

/-- 'skerrylaw20.PlanExact', WHERE WHAT IT READS IS OF BULK AT MOST 1048576: true; the input reads as it did. -/
def planExactUptoRow : OpenClaim := { program := "ytjgcblmkejnijaa", sum := "855d484f1c65ca569cdf20174c56dbab8b6dc0e43521acb07a21bbd45636e8f3", func := "skerry/skerrylaw20.PlanExact", spec := "planExact", inPlace := ["math.Float64frombits", "math.Float64bits"], unfollowed := true, recurses := true, apart := false, narrowed := true }
def PlanExactUptoSaid : Prop := planExactUptoRow.holds Try.pinned (OpenSpec.upto planExactSpec)

end Rows
end Go.Proofs.Ytjgcblmkejnijaa
