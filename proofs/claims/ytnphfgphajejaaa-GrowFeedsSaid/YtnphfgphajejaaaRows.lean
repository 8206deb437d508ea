/-
  NARROWER THAN 'FOR EVERY INPUT', by the rows' own cells (each row's printed sentence says how): VoteOnce: loops · VoteAsked: loops · VoteExact: loops · GrowTakes: loops · GrowTwice: loops · GrowCommits: loops · GrowNext: loops.
  DERIVED. THE GIVEN ROWS OF THIS SEAT. 35 by the template 'for every input the law returns true; each argument reads behind the call as it read before'; 0 by the template 'total and deterministic' (their statements: YtnphfgphajejaaaTotals.lean).
  GIVEN WITH THE SEED: the statements are not yours to turn. If you find one false, say at which input.
  Laid BY PROGRAM, IN A SANDBOX (cutbox-rows.mjs): the forced cells as the released guide's own fill.sh prints them over the translation b450580c42ccd491… (all of the seat's roots in one cut). By AI agents, Wed Nov 11 2026. No macro, syntax, notation, axiom, sorry.
-/
import Derived.Test.YtnphfgphajejaaaChecked
import GoSem.Claim
import GoSem.ClaimJoined
import GoSem.ClaimMapViews
import Derived.JoinedTies
import Derived.KernelRfl
namespace Go.Proofs.Ytnphfgphajejaaa
/- THE CELL 'sum', in the pinned program and in every row, IS THE sha256 OF THE DUMP (.gsa) THAT YtnphfgphajejaaaProg.lean LOADS. Nothing in Lean hashes anything: it is a label: what it is worth is what the hold of that sum in a sandbox is worth. -/
noncomputable def Try.pinned : Pinned := { name := "ytnphfgphajejaaa", sum := "b450580c42ccd49175a03b819066e2e06ce32c0a6a63268cc19121eca960b6e6", checked := Try.checked }
namespace Rows
def none {H : Type} : Left H := { results := [], args := [] }

/-- 'skerrylaw15.VoteDelays': WHATEVER THE INPUT: true; the input reads as it did. -/
def voteDelaysSpec : ChangeSpec := { name := "voteDelays", fn := fun _ => fun
  | [d1, d2, d3] => { results := [.lit (.bool true)], args := [d1, d2, d3] }
  | _ => none }
def voteDelaysRow : OpenClaim := { program := "ytnphfgphajejaaa", sum := "b450580c42ccd49175a03b819066e2e06ce32c0a6a63268cc19121eca960b6e6", func := "skerry/skerrylaw15.VoteDelays", spec := "voteDelays", apart := false }
def VoteDelaysSaid : Prop := voteDelaysRow.holds Try.pinned (OpenSpec.ofChange voteDelaysSpec)

/-- ITS FALSE NEIGHBOUR: 'it returns false'. Refute it at one input. -/
def voteDelaysWrong : ChangeSpec := { name := "voteDelays", fn := fun _ => fun
  | [d1, d2, d3] => { results := [.lit (.bool false)], args := [d1, d2, d3] }
  | _ => none }
def VoteDelaysWrongFalsely : Prop := voteDelaysRow.holds Try.pinned (OpenSpec.ofChange voteDelaysWrong)

/-- 'skerrylaw15.VoteOnce': WHATEVER THE INPUT: true; the input reads as it did. -/
def voteOnceSpec : ChangeSpec := { name := "voteOnce", fn := fun _ => fun
  | [d1, d2, d3] => { results := [.lit (.bool true)], args := [d1, d2, d3] }
  | _ => none }
def voteOnceRow : OpenClaim := { program := "ytnphfgphajejaaa", sum := "b450580c42ccd49175a03b819066e2e06ce32c0a6a63268cc19121eca960b6e6", func := "skerry/skerrylaw15.VoteOnce", spec := "voteOnce", loops := true, apart := false }
def VoteOnceSaid : Prop := voteOnceRow.holds Try.pinned (OpenSpec.ofChange voteOnceSpec)

/-- ITS FALSE NEIGHBOUR: 'it returns false'. Refute it at one input. -/
def voteOnceWrong : ChangeSpec := { name := "voteOnce", fn := fun _ => fun
  | [d1, d2, d3] => { results := [.lit (.bool false)], args := [d1, d2, d3] }
  | _ => none }
def VoteOnceWrongFalsely : Prop := voteOnceRow.holds Try.pinned (OpenSpec.ofChange voteOnceWrong)

/-- 'skerrylaw15.VoteAsked': WHATEVER THE INPUT: true; the input reads as it did. -/
def voteAskedSpec : ChangeSpec := { name := "voteAsked", fn := fun _ => fun
  | [d1, d2] => { results := [.lit (.bool true)], args := [d1, d2] }
  | _ => none }
def voteAskedRow : OpenClaim := { program := "ytnphfgphajejaaa", sum := "b450580c42ccd49175a03b819066e2e06ce32c0a6a63268cc19121eca960b6e6", func := "skerry/skerrylaw15.VoteAsked", spec := "voteAsked", loops := true, apart := false }
def VoteAskedSaid : Prop := voteAskedRow.holds Try.pinned (OpenSpec.ofChange voteAskedSpec)

/-- ITS FALSE NEIGHBOUR: 'it returns false'. Refute it at one input. -/
def voteAskedWrong : ChangeSpec := { name := "voteAsked", fn := fun _ => fun
  | [d1, d2] => { results := [.lit (.bool false)], args := [d1, d2] }
  | _ => none }
def VoteAskedWrongFalsely : Prop := voteAskedRow.holds Try.pinned (OpenSpec.ofChange voteAskedWrong)

/-- 'skerrylaw15.VoteWins': WHATEVER THE INPUT: true; the input reads as it did. -/
def voteWinsSpec : ChangeSpec := { name := "voteWins", fn := fun _ => fun
  | [d1, d2, d3] => { results := [.lit (.bool true)], args := [d1, d2, d3] }
  | _ => none }
def voteWinsRow : OpenClaim := { program := "ytnphfgphajejaaa", sum := "b450580c42ccd49175a03b819066e2e06ce32c0a6a63268cc19121eca960b6e6", func := "skerry/skerrylaw15.VoteWins", spec := "voteWins", apart := false }
def VoteWinsSaid : Prop := voteWinsRow.holds Try.pinned (OpenSpec.ofChange voteWinsSpec)

/-- ITS FALSE NEIGHBOUR: 'it returns false'. Refute it at one input. -/
def voteWinsWrong : ChangeSpec := { name := "voteWins", fn := fun _ => fun
  | [d1, d2, d3] => { results := [.lit (.bool false)], args := [d1, d2, d3] }
  | _ => none }
def VoteWinsWrongFalsely : Prop := voteWinsRow.holds Try.pinned (OpenSpec.ofChange voteWinsWrong)

/-- 'skerrylaw08.ConfAll': WHATEVER THE INPUT: true; the input reads as it did. -/
def confAllSpec : ChangeSpec := { name := "confAll", fn := fun _ => fun
  | [d1, d2, d3] => { results := [.lit (.bool true)], args := [d1, d2, d3] }
  | _ => none }
def confAllRow : OpenClaim := { program := "ytnphfgphajejaaa", sum := "b450580c42ccd49175a03b819066e2e06ce32c0a6a63268cc19121eca960b6e6", func := "skerry/skerrylaw08.ConfAll", spec := "confAll", apart := false }
def ConfAllSaid : Prop := confAllRow.holds Try.pinned (OpenSpec.ofChange confAllSpec)

/-- ITS FALSE NEIGHBOUR: 'it returns false'. Refute it at one input. -/
def confAllWrong : ChangeSpec := { name := "confAll", fn := fun _ => fun
  | [d1, d2, d3] => { results := [.lit (.bool false)], args := [d1, d2, d3] }
  | _ => none }
def ConfAllWrongFalsely : Prop := confAllRow.holds Try.pinned (OpenSpec.ofChange confAllWrong)

/-- 'skerrylaw15.VoteExact': WHATEVER THE INPUT: true; the input reads as it did. -/
def voteExactSpec : ChangeSpec := { name := "voteExact", fn := fun _ => fun
  | [d1, d2, d3, d4] => { results := [.lit (.bool true)], args := [d1, d2, d3, d4] }
  | _ => none }
def voteExactRow : OpenClaim := { program := "ytnphfgphajejaaa", sum := "b450580c42ccd49175a03b819066e2e06ce32c0a6a63268cc19121eca960b6e6", func := "skerry/skerrylaw15.VoteExact", spec := "voteExact", inPlace := ["math.Float64bits"], loops := true, apart := false }
def VoteExactSaid : Prop := voteExactRow.holds Try.pinned (OpenSpec.ofChange voteExactSpec)

/-- ITS FALSE NEIGHBOUR: 'it returns false'. Refute it at one input. -/
def voteExactWrong : ChangeSpec := { name := "voteExact", fn := fun _ => fun
  | [d1, d2, d3, d4] => { results := [.lit (.bool false)], args := [d1, d2, d3, d4] }
  | _ => none }
def VoteExactWrongFalsely : Prop := voteExactRow.holds Try.pinned (OpenSpec.ofChange voteExactWrong)

/-- 'skerrylaw17.TurnCommits': WHATEVER THE INPUT: true; the input reads as it did. -/
def turnCommitsSpec : ChangeSpec := { name := "turnCommits", fn := fun _ => fun
  | [d1, d2, d3, d4, d5] => { results := [.lit (.bool true)], args := [d1, d2, d3, d4, d5] }
  | _ => none }
def turnCommitsRow : OpenClaim := { program := "ytnphfgphajejaaa", sum := "b450580c42ccd49175a03b819066e2e06ce32c0a6a63268cc19121eca960b6e6", func := "skerry/skerrylaw17.TurnCommits", spec := "turnCommits", apart := false }
def TurnCommitsSaid : Prop := turnCommitsRow.holds Try.pinned (OpenSpec.ofChange turnCommitsSpec)

/-- ITS FALSE NEIGHBOUR: 'it returns false'. Refute it at one input. -/
def turnCommitsWrong : ChangeSpec := { name := "turnCommits", fn := fun _ => fun
  | [d1, d2, d3, d4, d5] => { results := [.lit (.bool false)], args := [d1, d2, d3, d4, d5] }
  | _ => none }
def TurnCommitsWrongFalsely : Prop := turnCommitsRow.holds Try.pinned (OpenSpec.ofChange turnCommitsWrong)

/-- 'skerrylaw17.TurnElder': WHATEVER THE INPUT: true; the input reads as it did. -/
def turnElderSpec : ChangeSpec := { name := "turnElder", fn := fun _ => fun
  | [d1, d2, d3] => { results := [.lit (.bool true)], args := [d1, d2, d3] }
  | _ => none }
def turnElderRow : OpenClaim := { program := "ytnphfgphajejaaa", sum := "b450580c42ccd49175a03b819066e2e06ce32c0a6a63268cc19121eca960b6e6", func := "skerry/skerrylaw17.TurnElder", spec := "turnElder", apart := false }
def TurnElderSaid : Prop := turnElderRow.holds Try.pinned (OpenSpec.ofChange turnElderSpec)

/-- ITS FALSE NEIGHBOUR: 'it returns false'. Refute it at one input. -/
def turnElderWrong : ChangeSpec := { name := "turnElder", fn := fun _ => fun
  | [d1, d2, d3] => { results := [.lit (.bool false)], args := [d1, d2, d3] }
  | _ => none }
def TurnElderWrongFalsely : Prop := turnElderRow.holds Try.pinned (OpenSpec.ofChange turnElderWrong)

/-- 'skerrylaw17.TurnReads': WHATEVER THE INPUT: true; the input reads as it did. -/
def turnReadsSpec : ChangeSpec := { name := "turnReads", fn := fun _ => fun
  | [d1, d2, d3, d4, d5] => { results := [.lit (.bool true)], args := [d1, d2, d3, d4, d5] }
  | _ => none }
def turnReadsRow : OpenClaim := { program := "ytnphfgphajejaaa", sum := "b450580c42ccd49175a03b819066e2e06ce32c0a6a63268cc19121eca960b6e6", func := "skerry/skerrylaw17.TurnReads", spec := "turnReads", inPlace := ["math.Float64bits"], apart := false }
def TurnReadsSaid : Prop := turnReadsRow.holds Try.pinned (OpenSpec.ofChange turnReadsSpec)

/-- ITS FALSE NEIGHBOUR: 'it returns false'. Refute it at one input. -/
def turnReadsWrong : ChangeSpec := { name := "turnReads", fn := fun _ => fun
  | [d1, d2, d3, d4, d5] => { results := [.lit (.bool false)], args := [d1, d2, d3, d4, d5] }
  | _ => none }
def TurnReadsWrongFalsely : Prop := turnReadsRow.holds Try.pinned (OpenSpec.ofChange turnReadsWrong)

/-- 'skerrylaw17.TurnAcks': WHATEVER THE INPUT: true; the input reads as it did. -/
def turnAcksSpec : ChangeSpec := { name := "turnAcks", fn := fun _ => fun
  | [d1, d2, d3, d4, d5] => { results := [.lit (.bool true)], args := [d1, d2, d3, d4, d5] }
  | _ => none }
def turnAcksRow : OpenClaim := { program := "ytnphfgphajejaaa", sum := "b450580c42ccd49175a03b819066e2e06ce32c0a6a63268cc19121eca960b6e6", func := "skerry/skerrylaw17.TurnAcks", spec := "turnAcks", inPlace := ["math.Float64bits"], apart := false }
def TurnAcksSaid : Prop := turnAcksRow.holds Try.pinned (OpenSpec.ofChange turnAcksSpec)

/-- ITS FALSE NEIGHBOUR: 'it returns false'. Refute it at one input. -/
def turnAcksWrong : ChangeSpec := { name := "turnAcks", fn := fun _ => fun
  | [d1, d2, d3, d4, d5] => { results := [.lit (.bool false)], args := [d1, d2, d3, d4, d5] }
  | _ => none }
def TurnAcksWrongFalsely : Prop := turnAcksRow.holds Try.pinned (OpenSpec.ofChange turnAcksWrong)

/-- 'skerrylaw26.AuditExact': WHATEVER THE INPUT: true; the input reads as it did. -/
def auditExactSpec : ChangeSpec := { name := "auditExact", fn := fun _ => fun
  | [d] => { results := [.lit (.bool true)], args := [d] }
  | _ => none }
def auditExactRow : OpenClaim := { program := "ytnphfgphajejaaa", sum := "b450580c42ccd49175a03b819066e2e06ce32c0a6a63268cc19121eca960b6e6", func := "skerry/skerrylaw26.AuditExact", spec := "auditExact", inPlace := ["math.Float64frombits", "math.Float64bits"], unfollowed := true, recurses := true, apart := false }
def AuditExactSaid : Prop := auditExactRow.holds Try.pinned (OpenSpec.ofChange auditExactSpec)

/-- ITS FALSE NEIGHBOUR: 'it returns false'. Refute it at one input. -/
def auditExactWrong : ChangeSpec := { name := "auditExact", fn := fun _ => fun
  | [d] => { results := [.lit (.bool false)], args := [d] }
  | _ => none }
def AuditExactWrongFalsely : Prop := auditExactRow.holds Try.pinned (OpenSpec.ofChange auditExactWrong)

/-- 'skerrylaw26.AuditSees': WHATEVER THE INPUT: true; the input reads as it did. -/
def auditSeesSpec : ChangeSpec := { name := "auditSees", fn := fun _ => fun
  | [d1, d2, d3, d4] => { results := [.lit (.bool true)], args := [d1, d2, d3, d4] }
  | _ => none }
def auditSeesRow : OpenClaim := { program := "ytnphfgphajejaaa", sum := "b450580c42ccd49175a03b819066e2e06ce32c0a6a63268cc19121eca960b6e6", func := "skerry/skerrylaw26.AuditSees", spec := "auditSees", inPlace := ["math.Float64bits", "math.Float64frombits"], unfollowed := true, recurses := true, apart := false }
def AuditSeesSaid : Prop := auditSeesRow.holds Try.pinned (OpenSpec.ofChange auditSeesSpec)

/-- ITS FALSE NEIGHBOUR: 'it returns false'. Refute it at one input. -/
def auditSeesWrong : ChangeSpec := { name := "auditSees", fn := fun _ => fun
  | [d1, d2, d3, d4] => { results := [.lit (.bool false)], args := [d1, d2, d3, d4] }
  | _ => none }
def AuditSeesWrongFalsely : Prop := auditSeesRow.holds Try.pinned (OpenSpec.ofChange auditSeesWrong)

/-- 'skerrylaw08.ConfRounds': WHATEVER THE INPUT: true; the input reads as it did. -/
def confRoundsSpec : ChangeSpec := { name := "confRounds", fn := fun _ => fun
  | [d1, d2, d3] => { results := [.lit (.bool true)], args := [d1, d2, d3] }
  | _ => none }
def confRoundsRow : OpenClaim := { program := "ytnphfgphajejaaa", sum := "b450580c42ccd49175a03b819066e2e06ce32c0a6a63268cc19121eca960b6e6", func := "skerry/skerrylaw08.ConfRounds", spec := "confRounds", apart := false }
def ConfRoundsSaid : Prop := confRoundsRow.holds Try.pinned (OpenSpec.ofChange confRoundsSpec)

/-- ITS FALSE NEIGHBOUR: 'it returns false'. Refute it at one input. -/
def confRoundsWrong : ChangeSpec := { name := "confRounds", fn := fun _ => fun
  | [d1, d2, d3] => { results := [.lit (.bool false)], args := [d1, d2, d3] }
  | _ => none }
def ConfRoundsWrongFalsely : Prop := confRoundsRow.holds Try.pinned (OpenSpec.ofChange confRoundsWrong)

/-- 'skerrylaw08.ConfSteps': WHATEVER THE INPUT: true; the input reads as it did. -/
def confStepsSpec : ChangeSpec := { name := "confSteps", fn := fun _ => fun
  | [d1, d2, d3, d4] => { results := [.lit (.bool true)], args := [d1, d2, d3, d4] }
  | _ => none }
def confStepsRow : OpenClaim := { program := "ytnphfgphajejaaa", sum := "b450580c42ccd49175a03b819066e2e06ce32c0a6a63268cc19121eca960b6e6", func := "skerry/skerrylaw08.ConfSteps", spec := "confSteps", unfollowed := true, recurses := true, apart := false }
def ConfStepsSaid : Prop := confStepsRow.holds Try.pinned (OpenSpec.ofChange confStepsSpec)

/-- ITS FALSE NEIGHBOUR: 'it returns false'. Refute it at one input. -/
def confStepsWrong : ChangeSpec := { name := "confSteps", fn := fun _ => fun
  | [d1, d2, d3, d4] => { results := [.lit (.bool false)], args := [d1, d2, d3, d4] }
  | _ => none }
def ConfStepsWrongFalsely : Prop := confStepsRow.holds Try.pinned (OpenSpec.ofChange confStepsWrong)

/-- 'skerrylaw08.ConfMeets': WHATEVER THE INPUT: true; the input reads as it did. -/
def confMeetsSpec : ChangeSpec := { name := "confMeets", fn := fun _ => fun
  | [d1, d2, d3, d4] => { results := [.lit (.bool true)], args := [d1, d2, d3, d4] }
  | _ => none }
def confMeetsRow : OpenClaim := { program := "ytnphfgphajejaaa", sum := "b450580c42ccd49175a03b819066e2e06ce32c0a6a63268cc19121eca960b6e6", func := "skerry/skerrylaw08.ConfMeets", spec := "confMeets", unfollowed := true, recurses := true, apart := false }
def ConfMeetsSaid : Prop := confMeetsRow.holds Try.pinned (OpenSpec.ofChange confMeetsSpec)

/-- ITS FALSE NEIGHBOUR: 'it returns false'. Refute it at one input. -/
def confMeetsWrong : ChangeSpec := { name := "confMeets", fn := fun _ => fun
  | [d1, d2, d3, d4] => { results := [.lit (.bool false)], args := [d1, d2, d3, d4] }
  | _ => none }
def ConfMeetsWrongFalsely : Prop := confMeetsRow.holds Try.pinned (OpenSpec.ofChange confMeetsWrong)

/-- 'skerrylaw08.ConfNear': WHATEVER THE INPUT: true; the input reads as it did. -/
def confNearSpec : ChangeSpec := { name := "confNear", fn := fun _ => fun
  | [d1, d2, d3, d4] => { results := [.lit (.bool true)], args := [d1, d2, d3, d4] }
  | _ => none }
def confNearRow : OpenClaim := { program := "ytnphfgphajejaaa", sum := "b450580c42ccd49175a03b819066e2e06ce32c0a6a63268cc19121eca960b6e6", func := "skerry/skerrylaw08.ConfNear", spec := "confNear", unfollowed := true, recurses := true, apart := false }
def ConfNearSaid : Prop := confNearRow.holds Try.pinned (OpenSpec.ofChange confNearSpec)

/-- ITS FALSE NEIGHBOUR: 'it returns false'. Refute it at one input. -/
def confNearWrong : ChangeSpec := { name := "confNear", fn := fun _ => fun
  | [d1, d2, d3, d4] => { results := [.lit (.bool false)], args := [d1, d2, d3, d4] }
  | _ => none }
def ConfNearWrongFalsely : Prop := confNearRow.holds Try.pinned (OpenSpec.ofChange confNearWrong)

/-- 'skerrylaw21.GatePasses': WHATEVER THE INPUT: true; the input reads as it did. -/
def gatePassesSpec : ChangeSpec := { name := "gatePasses", fn := fun _ => fun
  | [d1, d2] => { results := [.lit (.bool true)], args := [d1, d2] }
  | _ => none }
def gatePassesRow : OpenClaim := { program := "ytnphfgphajejaaa", sum := "b450580c42ccd49175a03b819066e2e06ce32c0a6a63268cc19121eca960b6e6", func := "skerry/skerrylaw21.GatePasses", spec := "gatePasses", inPlace := ["math.Float64bits", "math.Float64frombits"], unfollowed := true, recurses := true, apart := false }
def GatePassesSaid : Prop := gatePassesRow.holds Try.pinned (OpenSpec.ofChange gatePassesSpec)

/-- ITS FALSE NEIGHBOUR: 'it returns false'. Refute it at one input. -/
def gatePassesWrong : ChangeSpec := { name := "gatePasses", fn := fun _ => fun
  | [d1, d2] => { results := [.lit (.bool false)], args := [d1, d2] }
  | _ => none }
def GatePassesWrongFalsely : Prop := gatePassesRow.holds Try.pinned (OpenSpec.ofChange gatePassesWrong)

/-- 'skerrylaw21.GateExact': WHATEVER THE INPUT: true; the input reads as it did. -/
def gateExactSpec : ChangeSpec := { name := "gateExact", fn := fun _ => fun
  | [d1, d2, d3, d4] => { results := [.lit (.bool true)], args := [d1, d2, d3, d4] }
  | _ => none }
def gateExactRow : OpenClaim := { program := "ytnphfgphajejaaa", sum := "b450580c42ccd49175a03b819066e2e06ce32c0a6a63268cc19121eca960b6e6", func := "skerry/skerrylaw21.GateExact", spec := "gateExact", inPlace := ["math.Float64frombits", "math.Float64bits"], unfollowed := true, recurses := true, apart := false }
def GateExactSaid : Prop := gateExactRow.holds Try.pinned (OpenSpec.ofChange gateExactSpec)

/-- ITS FALSE NEIGHBOUR: 'it returns false'. Refute it at one input. -/
def gateExactWrong : ChangeSpec := { name := "gateExact", fn := fun _ => fun
  | [d1, d2, d3, d4] => { results := [.lit (.bool false)], args := [d1, d2, d3, d4] }
  | _ => none }
def GateExactWrongFalsely : Prop := gateExactRow.holds Try.pinned (OpenSpec.ofChange gateExactWrong)

/-- 'skerrylaw21.GateOnce': WHATEVER THE INPUT: true; the input reads as it did. -/
def gateOnceSpec : ChangeSpec := { name := "gateOnce", fn := fun _ => fun
  | [d1, d2] => { results := [.lit (.bool true)], args := [d1, d2] }
  | _ => none }
def gateOnceRow : OpenClaim := { program := "ytnphfgphajejaaa", sum := "b450580c42ccd49175a03b819066e2e06ce32c0a6a63268cc19121eca960b6e6", func := "skerry/skerrylaw21.GateOnce", spec := "gateOnce", inPlace := ["math.Float64frombits", "math.Float64bits"], unfollowed := true, recurses := true, apart := false }
def GateOnceSaid : Prop := gateOnceRow.holds Try.pinned (OpenSpec.ofChange gateOnceSpec)

/-- ITS FALSE NEIGHBOUR: 'it returns false'. Refute it at one input. -/
def gateOnceWrong : ChangeSpec := { name := "gateOnce", fn := fun _ => fun
  | [d1, d2] => { results := [.lit (.bool false)], args := [d1, d2] }
  | _ => none }
def GateOnceWrongFalsely : Prop := gateOnceRow.holds Try.pinned (OpenSpec.ofChange gateOnceWrong)

/-- 'skerrylaw09.LogsPuts': WHATEVER THE INPUT: true; the input reads as it did. -/
def logsPutsSpec : ChangeSpec := { name := "logsPuts", fn := fun _ => fun
  | [d1, d2, d3] => { results := [.lit (.bool true)], args := [d1, d2, d3] }
  | _ => none }
def logsPutsRow : OpenClaim := { program := "ytnphfgphajejaaa", sum := "b450580c42ccd49175a03b819066e2e06ce32c0a6a63268cc19121eca960b6e6", func := "skerry/skerrylaw09.LogsPuts", spec := "logsPuts", inPlace := ["math.Float64frombits", "math.Float64bits"], apart := false }
def LogsPutsSaid : Prop := logsPutsRow.holds Try.pinned (OpenSpec.ofChange logsPutsSpec)

/-- ITS FALSE NEIGHBOUR: 'it returns false'. Refute it at one input. -/
def logsPutsWrong : ChangeSpec := { name := "logsPuts", fn := fun _ => fun
  | [d1, d2, d3] => { results := [.lit (.bool false)], args := [d1, d2, d3] }
  | _ => none }
def LogsPutsWrongFalsely : Prop := logsPutsRow.holds Try.pinned (OpenSpec.ofChange logsPutsWrong)

/-- 'skerrylaw09.LogsParts': WHATEVER THE INPUT: true; the input reads as it did. -/
def logsPartsSpec : ChangeSpec := { name := "logsParts", fn := fun _ => fun
  | [d1, d2, d3, d4] => { results := [.lit (.bool true)], args := [d1, d2, d3, d4] }
  | _ => none }
def logsPartsRow : OpenClaim := { program := "ytnphfgphajejaaa", sum := "b450580c42ccd49175a03b819066e2e06ce32c0a6a63268cc19121eca960b6e6", func := "skerry/skerrylaw09.LogsParts", spec := "logsParts", inPlace := ["math.Float64frombits", "math.Float64bits"], apart := false }
def LogsPartsSaid : Prop := logsPartsRow.holds Try.pinned (OpenSpec.ofChange logsPartsSpec)

/-- ITS FALSE NEIGHBOUR: 'it returns false'. Refute it at one input. -/
def logsPartsWrong : ChangeSpec := { name := "logsParts", fn := fun _ => fun
  | [d1, d2, d3, d4] => { results := [.lit (.bool false)], args := [d1, d2, d3, d4] }
  | _ => none }
def LogsPartsWrongFalsely : Prop := logsPartsRow.holds Try.pinned (OpenSpec.ofChange logsPartsWrong)

/-- 'skerrylaw09.LogsNewer': WHATEVER THE INPUT: true; the input reads as it did. -/
def logsNewerSpec : ChangeSpec := { name := "logsNewer", fn := fun _ => fun
  | [d1, d2, d3] => { results := [.lit (.bool true)], args := [d1, d2, d3] }
  | _ => none }
def logsNewerRow : OpenClaim := { program := "ytnphfgphajejaaa", sum := "b450580c42ccd49175a03b819066e2e06ce32c0a6a63268cc19121eca960b6e6", func := "skerry/skerrylaw09.LogsNewer", spec := "logsNewer", inPlace := ["math.Float64frombits", "math.Float64bits"], apart := false }
def LogsNewerSaid : Prop := logsNewerRow.holds Try.pinned (OpenSpec.ofChange logsNewerSpec)

/-- ITS FALSE NEIGHBOUR: 'it returns false'. Refute it at one input. -/
def logsNewerWrong : ChangeSpec := { name := "logsNewer", fn := fun _ => fun
  | [d1, d2, d3] => { results := [.lit (.bool false)], args := [d1, d2, d3] }
  | _ => none }
def LogsNewerWrongFalsely : Prop := logsNewerRow.holds Try.pinned (OpenSpec.ofChange logsNewerWrong)

/-- 'skerrylaw09.LogsPieces': WHATEVER THE INPUT: true; the input reads as it did. -/
def logsPiecesSpec : ChangeSpec := { name := "logsPieces", fn := fun _ => fun
  | [d1, d2, d3, d4] => { results := [.lit (.bool true)], args := [d1, d2, d3, d4] }
  | _ => none }
def logsPiecesRow : OpenClaim := { program := "ytnphfgphajejaaa", sum := "b450580c42ccd49175a03b819066e2e06ce32c0a6a63268cc19121eca960b6e6", func := "skerry/skerrylaw09.LogsPieces", spec := "logsPieces", inPlace := ["math.Float64bits", "math.Float64frombits"], apart := false }
def LogsPiecesSaid : Prop := logsPiecesRow.holds Try.pinned (OpenSpec.ofChange logsPiecesSpec)

/-- ITS FALSE NEIGHBOUR: 'it returns false'. Refute it at one input. -/
def logsPiecesWrong : ChangeSpec := { name := "logsPieces", fn := fun _ => fun
  | [d1, d2, d3, d4] => { results := [.lit (.bool false)], args := [d1, d2, d3, d4] }
  | _ => none }
def LogsPiecesWrongFalsely : Prop := logsPiecesRow.holds Try.pinned (OpenSpec.ofChange logsPiecesWrong)

/-- 'skerrylaw09.LogsLooks': WHATEVER THE INPUT: true; the input reads as it did. -/
def logsLooksSpec : ChangeSpec := { name := "logsLooks", fn := fun _ => fun
  | [d1, d2, d3, d4, d5] => { results := [.lit (.bool true)], args := [d1, d2, d3, d4, d5] }
  | _ => none }
def logsLooksRow : OpenClaim := { program := "ytnphfgphajejaaa", sum := "b450580c42ccd49175a03b819066e2e06ce32c0a6a63268cc19121eca960b6e6", func := "skerry/skerrylaw09.LogsLooks", spec := "logsLooks", inPlace := ["math.Float64frombits", "math.Float64bits"], apart := false }
def LogsLooksSaid : Prop := logsLooksRow.holds Try.pinned (OpenSpec.ofChange logsLooksSpec)

/-- ITS FALSE NEIGHBOUR: 'it returns false'. Refute it at one input. -/
def logsLooksWrong : ChangeSpec := { name := "logsLooks", fn := fun _ => fun
  | [d1, d2, d3, d4, d5] => { results := [.lit (.bool false)], args := [d1, d2, d3, d4, d5] }
  | _ => none }
def LogsLooksWrongFalsely : Prop := logsLooksRow.holds Try.pinned (OpenSpec.ofChange logsLooksWrong)

/-- 'skerrylaw09.LogsInstalls': WHATEVER THE INPUT: true; the input reads as it did. -/
def logsInstallsSpec : ChangeSpec := { name := "logsInstalls", fn := fun _ => fun
  | [d1, d2, d3, d4, d5] => { results := [.lit (.bool true)], args := [d1, d2, d3, d4, d5] }
  | _ => none }
def logsInstallsRow : OpenClaim := { program := "ytnphfgphajejaaa", sum := "b450580c42ccd49175a03b819066e2e06ce32c0a6a63268cc19121eca960b6e6", func := "skerry/skerrylaw09.LogsInstalls", spec := "logsInstalls", inPlace := ["math.Float64frombits", "math.Float64bits"], apart := false }
def LogsInstallsSaid : Prop := logsInstallsRow.holds Try.pinned (OpenSpec.ofChange logsInstallsSpec)

/-- ITS FALSE NEIGHBOUR: 'it returns false'. Refute it at one input. -/
def logsInstallsWrong : ChangeSpec := { name := "logsInstalls", fn := fun _ => fun
  | [d1, d2, d3, d4, d5] => { results := [.lit (.bool false)], args := [d1, d2, d3, d4, d5] }
  | _ => none }
def LogsInstallsWrongFalsely : Prop := logsInstallsRow.holds Try.pinned (OpenSpec.ofChange logsInstallsWrong)

/-- 'skerrylaw09.LogsCompacts': WHATEVER THE INPUT: true; the input reads as it did. -/
def logsCompactsSpec : ChangeSpec := { name := "logsCompacts", fn := fun _ => fun
  | [d1, d2, d3, d4] => { results := [.lit (.bool true)], args := [d1, d2, d3, d4] }
  | _ => none }
def logsCompactsRow : OpenClaim := { program := "ytnphfgphajejaaa", sum := "b450580c42ccd49175a03b819066e2e06ce32c0a6a63268cc19121eca960b6e6", func := "skerry/skerrylaw09.LogsCompacts", spec := "logsCompacts", inPlace := ["math.Float64frombits", "math.Float64bits"], apart := false }
def LogsCompactsSaid : Prop := logsCompactsRow.holds Try.pinned (OpenSpec.ofChange logsCompactsSpec)

/-- ITS FALSE NEIGHBOUR: 'it returns false'. Refute it at one input. -/
def logsCompactsWrong : ChangeSpec := { name := "logsCompacts", fn := fun _ => fun
  | [d1, d2, d3, d4] => { results := [.lit (.bool false)], args := [d1, d2, d3, d4] }
  | _ => none }
def LogsCompactsWrongFalsely : Prop := logsCompactsRow.holds Try.pinned (OpenSpec.ofChange logsCompactsWrong)

/-- 'skerrylaw26.AuditMerges': WHATEVER THE INPUT: true; the input reads as it did. -/
def auditMergesSpec : ChangeSpec := { name := "auditMerges", fn := fun _ => fun
  | [d1, d2, d3, d4] => { results := [.lit (.bool true)], args := [d1, d2, d3, d4] }
  | _ => none }
def auditMergesRow : OpenClaim := { program := "ytnphfgphajejaaa", sum := "b450580c42ccd49175a03b819066e2e06ce32c0a6a63268cc19121eca960b6e6", func := "skerry/skerrylaw26.AuditMerges", spec := "auditMerges", inPlace := ["math.Float64frombits", "math.Float64bits"], unfollowed := true, recurses := true, apart := false }
def AuditMergesSaid : Prop := auditMergesRow.holds Try.pinned (OpenSpec.ofChange auditMergesSpec)

/-- ITS FALSE NEIGHBOUR: 'it returns false'. Refute it at one input. -/
def auditMergesWrong : ChangeSpec := { name := "auditMerges", fn := fun _ => fun
  | [d1, d2, d3, d4] => { results := [.lit (.bool false)], args := [d1, d2, d3, d4] }
  | _ => none }
def AuditMergesWrongFalsely : Prop := auditMergesRow.holds Try.pinned (OpenSpec.ofChange auditMergesWrong)

/-- 'skerrylaw16.GrowTakes': WHATEVER THE INPUT: true; the input reads as it did. -/
def growTakesSpec : ChangeSpec := { name := "growTakes", fn := fun _ => fun
  | [d1, d2, d3] => { results := [.lit (.bool true)], args := [d1, d2, d3] }
  | _ => none }
def growTakesRow : OpenClaim := { program := "ytnphfgphajejaaa", sum := "b450580c42ccd49175a03b819066e2e06ce32c0a6a63268cc19121eca960b6e6", func := "skerry/skerrylaw16.GrowTakes", spec := "growTakes", inPlace := ["math.Float64frombits", "math.Float64bits"], loops := true, apart := false }
def GrowTakesSaid : Prop := growTakesRow.holds Try.pinned (OpenSpec.ofChange growTakesSpec)

/-- ITS FALSE NEIGHBOUR: 'it returns false'. Refute it at one input. -/
def growTakesWrong : ChangeSpec := { name := "growTakes", fn := fun _ => fun
  | [d1, d2, d3] => { results := [.lit (.bool false)], args := [d1, d2, d3] }
  | _ => none }
def GrowTakesWrongFalsely : Prop := growTakesRow.holds Try.pinned (OpenSpec.ofChange growTakesWrong)

/-- 'skerrylaw16.GrowTwice': WHATEVER THE INPUT: true; the input reads as it did. -/
def growTwiceSpec : ChangeSpec := { name := "growTwice", fn := fun _ => fun
  | [d1, d2, d3] => { results := [.lit (.bool true)], args := [d1, d2, d3] }
  | _ => none }
def growTwiceRow : OpenClaim := { program := "ytnphfgphajejaaa", sum := "b450580c42ccd49175a03b819066e2e06ce32c0a6a63268cc19121eca960b6e6", func := "skerry/skerrylaw16.GrowTwice", spec := "growTwice", inPlace := ["math.Float64frombits", "math.Float64bits"], loops := true, apart := false }
def GrowTwiceSaid : Prop := growTwiceRow.holds Try.pinned (OpenSpec.ofChange growTwiceSpec)

/-- ITS FALSE NEIGHBOUR: 'it returns false'. Refute it at one input. -/
def growTwiceWrong : ChangeSpec := { name := "growTwice", fn := fun _ => fun
  | [d1, d2, d3] => { results := [.lit (.bool false)], args := [d1, d2, d3] }
  | _ => none }
def GrowTwiceWrongFalsely : Prop := growTwiceRow.holds Try.pinned (OpenSpec.ofChange growTwiceWrong)

/-- 'skerrylaw16.GrowCommits': WHATEVER THE INPUT: true; the input reads as it did. -/
def growCommitsSpec : ChangeSpec := { name := "growCommits", fn := fun _ => fun
  | [d1, d2, d3] => { results := [.lit (.bool true)], args := [d1, d2, d3] }
  | _ => none }
def growCommitsRow : OpenClaim := { program := "ytnphfgphajejaaa", sum := "b450580c42ccd49175a03b819066e2e06ce32c0a6a63268cc19121eca960b6e6", func := "skerry/skerrylaw16.GrowCommits", spec := "growCommits", inPlace := ["math.Float64frombits", "math.Float64bits"], loops := true, apart := false }
def GrowCommitsSaid : Prop := growCommitsRow.holds Try.pinned (OpenSpec.ofChange growCommitsSpec)

/-- ITS FALSE NEIGHBOUR: 'it returns false'. Refute it at one input. -/
def growCommitsWrong : ChangeSpec := { name := "growCommits", fn := fun _ => fun
  | [d1, d2, d3] => { results := [.lit (.bool false)], args := [d1, d2, d3] }
  | _ => none }
def GrowCommitsWrongFalsely : Prop := growCommitsRow.holds Try.pinned (OpenSpec.ofChange growCommitsWrong)

/-- 'skerrylaw09.LogsExact': WHATEVER THE INPUT: true; the input reads as it did. -/
def logsExactSpec : ChangeSpec := { name := "logsExact", fn := fun _ => fun
  | [d1, d2, d3, d4, d5, d6] => { results := [.lit (.bool true)], args := [d1, d2, d3, d4, d5, d6] }
  | _ => none }
def logsExactRow : OpenClaim := { program := "ytnphfgphajejaaa", sum := "b450580c42ccd49175a03b819066e2e06ce32c0a6a63268cc19121eca960b6e6", func := "skerry/skerrylaw09.LogsExact", spec := "logsExact", inPlace := ["math.Float64bits", "math.Float64frombits"], apart := false }
def LogsExactSaid : Prop := logsExactRow.holds Try.pinned (OpenSpec.ofChange logsExactSpec)

/-- ITS FALSE NEIGHBOUR: 'it returns false'. Refute it at one input. -/
def logsExactWrong : ChangeSpec := { name := "logsExact", fn := fun _ => fun
  | [d1, d2, d3, d4, d5, d6] => { results := [.lit (.bool false)], args := [d1, d2, d3, d4, d5, d6] }
  | _ => none }
def LogsExactWrongFalsely : Prop := logsExactRow.holds Try.pinned (OpenSpec.ofChange logsExactWrong)

/-- 'skerrylaw16.GrowNext': WHATEVER THE INPUT: true; the input reads as it did. -/
def growNextSpec : ChangeSpec := { name := "growNext", fn := fun _ => fun
  | [d1, d2, d3] => { results := [.lit (.bool true)], args := [d1, d2, d3] }
  | _ => none }
def growNextRow : OpenClaim := { program := "ytnphfgphajejaaa", sum := "b450580c42ccd49175a03b819066e2e06ce32c0a6a63268cc19121eca960b6e6", func := "skerry/skerrylaw16.GrowNext", spec := "growNext", inPlace := ["math.Float64frombits", "math.Float64bits"], loops := true, apart := false }
def GrowNextSaid : Prop := growNextRow.holds Try.pinned (OpenSpec.ofChange growNextSpec)

/-- ITS FALSE NEIGHBOUR: 'it returns false'. Refute it at one input. -/
def growNextWrong : ChangeSpec := { name := "growNext", fn := fun _ => fun
  | [d1, d2, d3] => { results := [.lit (.bool false)], args := [d1, d2, d3] }
  | _ => none }
def GrowNextWrongFalsely : Prop := growNextRow.holds Try.pinned (OpenSpec.ofChange growNextWrong)

/-- 'skerrylaw16.GrowFeeds': WHATEVER THE INPUT: true; the input reads as it did. -/
def growFeedsSpec : ChangeSpec := { name := "growFeeds", fn := fun _ => fun
  | [d1, d2] => { results := [.lit (.bool true)], args := [d1, d2] }
  | _ => none }
def growFeedsRow : OpenClaim := { program := "ytnphfgphajejaaa", sum := "b450580c42ccd49175a03b819066e2e06ce32c0a6a63268cc19121eca960b6e6", func := "skerry/skerrylaw16.GrowFeeds", spec := "growFeeds", inPlace := ["math.Float64bits", "math.Float64frombits"], apart := false }
def GrowFeedsSaid : Prop := growFeedsRow.holds Try.pinned (OpenSpec.ofChange growFeedsSpec)

/-- ITS FALSE NEIGHBOUR: 'it returns false'. Refute it at one input. -/
def growFeedsWrong : ChangeSpec := { name := "growFeeds", fn := fun _ => fun
  | [d1, d2] => { results := [.lit (.bool false)], args := [d1, d2] }
  | _ => none }
def GrowFeedsWrongFalsely : Prop := growFeedsRow.holds Try.pinned (OpenSpec.ofChange growFeedsWrong)

/-- 'skerrylaw16.GrowMatches': WHATEVER THE INPUT: true; the input reads as it did. -/
def growMatchesSpec : ChangeSpec := { name := "growMatches", fn := fun _ => fun
  | [d1, d2, d3, d4] => { results := [.lit (.bool true)], args := [d1, d2, d3, d4] }
  | _ => none }
def growMatchesRow : OpenClaim := { program := "ytnphfgphajejaaa", sum := "b450580c42ccd49175a03b819066e2e06ce32c0a6a63268cc19121eca960b6e6", func := "skerry/skerrylaw16.GrowMatches", spec := "growMatches", inPlace := ["math.Float64bits", "math.Float64frombits"], apart := false }
def GrowMatchesSaid : Prop := growMatchesRow.holds Try.pinned (OpenSpec.ofChange growMatchesSpec)

/-- ITS FALSE NEIGHBOUR: 'it returns false'. Refute it at one input. -/
def growMatchesWrong : ChangeSpec := { name := "growMatches", fn := fun _ => fun
  | [d1, d2, d3, d4] => { results := [.lit (.bool false)], args := [d1, d2, d3, d4] }
  | _ => none }
def GrowMatchesWrongFalsely : Prop := growMatchesRow.holds Try.pinned (OpenSpec.ofChange growMatchesWrong)

/-- 'skerrylaw16.GrowFinds': WHATEVER THE INPUT: true; the input reads as it did. -/
def growFindsSpec : ChangeSpec := { name := "growFinds", fn := fun _ => fun
  | [d1, d2] => { results := [.lit (.bool true)], args := [d1, d2] }
  | _ => none }
def growFindsRow : OpenClaim := { program := "ytnphfgphajejaaa", sum := "b450580c42ccd49175a03b819066e2e06ce32c0a6a63268cc19121eca960b6e6", func := "skerry/skerrylaw16.GrowFinds", spec := "growFinds", inPlace := ["math.Float64bits", "math.Float64frombits"], apart := false }
def GrowFindsSaid : Prop := growFindsRow.holds Try.pinned (OpenSpec.ofChange growFindsSpec)

/-- ITS FALSE NEIGHBOUR: 'it returns false'. Refute it at one input. -/
def growFindsWrong : ChangeSpec := { name := "growFinds", fn := fun _ => fun
  | [d1, d2] => { results := [.lit (.bool false)], args := [d1, d2] }
  | _ => none }
def GrowFindsWrongFalsely : Prop := growFindsRow.holds Try.pinned (OpenSpec.ofChange growFindsWrong)

/- THE SECOND FORM. 'bulk': how many values and letters a reading holds, each counted each time it is reached (what is shared counts as often as it is met; a slice's spare places count too). A statement '..UptoSaid' is the law's where the arguments, and the package variables that the reading takes, are together of bulk at most 1048576: NARROWER than '..Said'. Prove '..Said' where nothing that the law and all that it calls make is longer than what came in: it says more and counts as full. Else prove '..UptoSaid'. A law counts once. -/
mutual
def uptoBulk {H : Type} : DataW H → Nat
  | .lit (.string bytes) => bytes.length + 1
  | .lit _ => 1
  | .nil => 1
  | .ptr d => uptoBulk d + 1
  | .slice elems spare => uptoBulkAll elems + uptoBulkAll spare + 1
  | .agg parts => uptoBulkAll parts + 1
  | .iface _ d => uptoBulk d + 1
  | .map entries => uptoBulkEntries entries + 1
  | .held _ => 1
def uptoBulkAll {H : Type} : List (DataW H) → Nat
  | [] => 0
  | d :: r => uptoBulk d + uptoBulkAll r
def uptoBulkEntries {H : Type} : List (Lit × DataW H) → Nat
  | [] => 0
  | x :: r => uptoBulkEntry x + uptoBulkEntries r
def uptoBulkEntry {H : Type} : Lit × DataW H → Nat
  | (.string bytes, d) => bytes.length + uptoBulk d + 1
  | (_, d) => uptoBulk d + 1
 end
def uptoSmall : (H : Type) → List (DataW H) → Bool := fun _ ds => decide (uptoBulkAll ds ≤ 1048576)
def OpenSpec.upto (s : _root_.Go.ChangeSpec) : _root_.Go.OpenSpec := { _root_.Go.OpenSpec.ofChange s with cond := some uptoSmall }

/-- 'skerrylaw15.VoteDelays', WHERE WHAT IT READS IS OF BULK AT MOST 1048576: true; the input reads as it did. -/
def voteDelaysUptoRow : OpenClaim := { program := "ytnphfgphajejaaa", sum := "b450580c42ccd49175a03b819066e2e06ce32c0a6a63268cc19121eca960b6e6", func := "skerry/skerrylaw15.VoteDelays", spec := "voteDelays", apart := false, narrowed := true }
def VoteDelaysUptoSaid : Prop := voteDelaysUptoRow.holds Try.pinned (OpenSpec.upto voteDelaysSpec)

/-- 'skerrylaw15.VoteOnce', WHERE WHAT IT READS IS OF BULK AT MOST 1048576: true; the input reads as it did. -/
def voteOnceUptoRow : OpenClaim := { program := "ytnphfgphajejaaa", sum := "b450580c42ccd49175a03b819066e2e06ce32c0a6a63268cc19121eca960b6e6", func := "skerry/skerrylaw15.VoteOnce", spec := "voteOnce", loops := true, apart := false, narrowed := true }
def VoteOnceUptoSaid : Prop := voteOnceUptoRow.holds Try.pinned (OpenSpec.upto voteOnceSpec)

/-- 'skerrylaw15.VoteAsked', WHERE WHAT IT READS IS OF BULK AT MOST 1048576: true; the input reads as it did. -/
def voteAskedUptoRow : OpenClaim := { program := "ytnphfgphajejaaa", sum := "b450580c42ccd49175a03b819066e2e06ce32c0a6a63268cc19121eca960b6e6", func := "skerry/skerrylaw15.VoteAsked", spec := "voteAsked", loops := true, apart := false, narrowed := true }
def VoteAskedUptoSaid : Prop := voteAskedUptoRow.holds Try.pinned (OpenSpec.upto voteAskedSpec)

/-- 'skerrylaw15.VoteWins', WHERE WHAT IT READS IS OF BULK AT MOST 1048576: true; the input reads as it did. -/
def voteWinsUptoRow : OpenClaim := { program := "ytnphfgphajejaaa", sum := "b450580c42ccd49175a03b819066e2e06ce32c0a6a63268cc19121eca960b6e6", func := "skerry/skerrylaw15.VoteWins", spec := "voteWins", apart := false, narrowed := true }
def VoteWinsUptoSaid : Prop := voteWinsUptoRow.holds Try.pinned (OpenSpec.upto voteWinsSpec)

/-- 'skerrylaw08.ConfAll', WHERE WHAT IT READS IS OF BULK AT MOST 1048576: true; the input reads as it did. -/
def confAllUptoRow : OpenClaim := { program := "ytnphfgphajejaaa", sum := "b450580c42ccd49175a03b819066e2e06ce32c0a6a63268cc19121eca960b6e6", func := "skerry/skerrylaw08.ConfAll", spec := "confAll", apart := false, narrowed := true }
def ConfAllUptoSaid : Prop := confAllUptoRow.holds Try.pinned (OpenSpec.upto confAllSpec)

/-- 'skerrylaw15.VoteExact', WHERE WHAT IT READS IS OF BULK AT MOST 1048576: true; the input reads as it did. -/
def voteExactUptoRow : OpenClaim := { program := "ytnphfgphajejaaa", sum := "b450580c42ccd49175a03b819066e2e06ce32c0a6a63268cc19121eca960b6e6", func := "skerry/skerrylaw15.VoteExact", spec := "voteExact", inPlace := ["math.Float64bits"], loops := true, apart := false, narrowed := true }
def VoteExactUptoSaid : Prop := voteExactUptoRow.holds Try.pinned (OpenSpec.upto voteExactSpec)

/-- 'skerrylaw17.TurnCommits', WHERE WHAT IT READS IS OF BULK AT MOST 1048576: true; the input reads as it did. -/
def turnCommitsUptoRow : OpenClaim := { program := "ytnphfgphajejaaa", sum := "b450580c42ccd49175a03b819066e2e06ce32c0a6a63268cc19121eca960b6e6", func := "skerry/skerrylaw17.TurnCommits", spec := "turnCommits", apart := false, narrowed := true }
def TurnCommitsUptoSaid : Prop := turnCommitsUptoRow.holds Try.pinned (OpenSpec.upto turnCommitsSpec)

/-- 'skerrylaw17.TurnElder', WHERE WHAT IT READS IS OF BULK AT MOST 1048576: true; the input reads as it did. -/
def turnElderUptoRow : OpenClaim := { program := "ytnphfgphajejaaa", sum := "b450580c42ccd49175a03b819066e2e06ce32c0a6a63268cc19121eca960b6e6", func := "skerry/skerrylaw17.TurnElder", spec := "turnElder", apart := false, narrowed := true }
def TurnElderUptoSaid : Prop := turnElderUptoRow.holds Try.pinned (OpenSpec.upto turnElderSpec)

/-- 'skerrylaw17.TurnReads', WHERE WHAT IT READS IS OF BULK AT MOST 1048576: true; the input reads as it did. -/
def turnReadsUptoRow : OpenClaim := { program := "ytnphfgphajejaaa", sum := "b450580c42ccd49175a03b819066e2e06ce32c0a6a63268cc19121eca960b6e6", func := "skerry/skerrylaw17.TurnReads", spec := "turnReads", inPlace := ["math.Float64bits"], apart := false, narrowed := true }
def TurnReadsUptoSaid : Prop := turnReadsUptoRow.holds Try.pinned (OpenSpec.upto turnReadsSpec)

/-- 'skerrylaw17.TurnAcks', WHERE WHAT IT READS IS OF BULK AT MOST 1048576: true; the input reads as it did. -/
def turnAcksUptoRow : OpenClaim := { program := "ytnphfgphajejaaa", sum := "b450580c42ccd49175a03b819066e2e06ce32c0a6a63268cc19121eca960b6e6", func := "skerry/skerrylaw17.TurnAcks", spec := "turnAcks", inPlace := ["math.Float64bits"], apart := false, narrowed := true }
def TurnAcksUptoSaid : Prop := turnAcksUptoRow.holds Try.pinned (OpenSpec.upto turnAcksSpec)

/-- 'skerrylaw26.AuditExact', WHERE WHAT IT READS IS OF BULK AT MOST 1048576: true; the input reads as it did. -/
def auditExactUptoRow : OpenClaim := { program := "ytnphfgphajejaaa", sum := "b450580c42ccd49175a03b819066e2e06ce32c0a6a63268cc19121eca960b6e6", func := "skerry/skerrylaw26.AuditExact", spec := "auditExact", inPlace := ["math.Float64frombits", "math.Float64bits"], unfollowed := true, recurses := true, apart := false, narrowed := true }
def AuditExactUptoSaid : Prop := auditExactUptoRow.holds Try.pinned (OpenSpec.upto auditExactSpec)

/-- 'skerrylaw26.AuditSees', WHERE WHAT IT READS IS OF BULK AT MOST 1048576: true; the input reads as it did. -/
def auditSeesUptoRow : OpenClaim := { program := "ytnphfgphajejaaa", sum := "b450580c42ccd49175a03b819066e2e06ce32c0a6a63268cc19121eca960b6e6", func := "skerry/skerrylaw26.AuditSees", spec := "auditSees", inPlace := ["math.Float64bits", "math.Float64frombits"], unfollowed := true, recurses := true, apart := false, narrowed := true }
def AuditSeesUptoSaid : Prop := auditSeesUptoRow.holds Try.pinned (OpenSpec.upto auditSeesSpec)

/-- 'skerrylaw08.ConfRounds', WHERE WHAT IT READS IS OF BULK AT MOST 1048576: true; the input reads as it did. -/
def confRoundsUptoRow : OpenClaim := { program := "ytnphfgphajejaaa", sum := "b450580c42ccd49175a03b819066e2e06ce32c0a6a63268cc19121eca960b6e6", func := "skerry/skerrylaw08.ConfRounds", spec := "confRounds", apart := false, narrowed := true }
def ConfRoundsUptoSaid : Prop := confRoundsUptoRow.holds Try.pinned (OpenSpec.upto confRoundsSpec)

/-- 'skerrylaw08.ConfSteps', WHERE WHAT IT READS IS OF BULK AT MOST 1048576: true; the input reads as it did. -/
def confStepsUptoRow : OpenClaim := { program := "ytnphfgphajejaaa", sum := "b450580c42ccd49175a03b819066e2e06ce32c0a6a63268cc19121eca960b6e6", func := "skerry/skerrylaw08.ConfSteps", spec := "confSteps", unfollowed := true, recurses := true, apart := false, narrowed := true }
def ConfStepsUptoSaid : Prop := confStepsUptoRow.holds Try.pinned (OpenSpec.upto confStepsSpec)

/-- 'skerrylaw08.ConfMeets', WHERE WHAT IT READS IS OF BULK AT MOST 1048576: true; the input reads as it did. -/
def confMeetsUptoRow : OpenClaim := { program := "ytnphfgphajejaaa", sum := "b450580c42ccd49175a03b819066e2e06ce32c0a6a63268cc19121eca960b6e6", func := "skerry/skerrylaw08.ConfMeets", spec := "confMeets", unfollowed := true, recurses := true, apart := false, narrowed := true }
def ConfMeetsUptoSaid : Prop := confMeetsUptoRow.holds Try.pinned (OpenSpec.upto confMeetsSpec)

/-- 'skerrylaw08.ConfNear', WHERE WHAT IT READS IS OF BULK AT MOST 1048576: true; the input reads as it did. -/
def confNearUptoRow : OpenClaim := { program := "ytnphfgphajejaaa", sum := "b450580c42ccd49175a03b819066e2e06ce32c0a6a63268cc19121eca960b6e6", func := "skerry/skerrylaw08.ConfNear", spec := "confNear", unfollowed := true, recurses := true, apart := false, narrowed := true }
def ConfNearUptoSaid : Prop := confNearUptoRow.holds Try.pinned (OpenSpec.upto confNearSpec)

/-- 'skerrylaw21.GatePasses', WHERE WHAT IT READS IS OF BULK AT MOST 1048576: true; the input reads as it did. -/
def gatePassesUptoRow : OpenClaim := { program := "ytnphfgphajejaaa", sum := "b450580c42ccd49175a03b819066e2e06ce32c0a6a63268cc19121eca960b6e6", func := "skerry/skerrylaw21.GatePasses", spec := "gatePasses", inPlace := ["math.Float64bits", "math.Float64frombits"], unfollowed := true, recurses := true, apart := false, narrowed := true }
def GatePassesUptoSaid : Prop := gatePassesUptoRow.holds Try.pinned (OpenSpec.upto gatePassesSpec)

/-- 'skerrylaw21.GateExact', WHERE WHAT IT READS IS OF BULK AT MOST 1048576: true; the input reads as it did. -/
def gateExactUptoRow : OpenClaim := { program := "ytnphfgphajejaaa", sum := "b450580c42ccd49175a03b819066e2e06ce32c0a6a63268cc19121eca960b6e6", func := "skerry/skerrylaw21.GateExact", spec := "gateExact", inPlace := ["math.Float64frombits", "math.Float64bits"], unfollowed := true, recurses := true, apart := false, narrowed := true }
def GateExactUptoSaid : Prop := gateExactUptoRow.holds Try.pinned (OpenSpec.upto gateExactSpec)

/-- 'skerrylaw21.GateOnce', WHERE WHAT IT READS IS OF BULK AT MOST 1048576: true; the input reads as it did. -/
def gateOnceUptoRow : OpenClaim := { program := "ytnphfgphajejaaa", sum := "b450580c42ccd49175a03b819066e2e06ce32c0a6a63268cc19121eca960b6e6", func := "skerry/skerrylaw21.GateOnce", spec := "gateOnce", inPlace := ["math.Float64frombits", "math.Float64bits"], unfollowed := true, recurses := true, apart := false, narrowed := true }
def GateOnceUptoSaid : Prop := gateOnceUptoRow.holds Try.pinned (OpenSpec.upto gateOnceSpec)

/-- 'skerrylaw09.LogsPuts', WHERE WHAT IT READS IS OF BULK AT MOST 1048576: true; the input reads as it did. -/
def logsPutsUptoRow : OpenClaim := { program := "ytnphfgphajejaaa", sum := "b450580c42ccd49175a03b819066e2e06ce32c0a6a63268cc19121eca960b6e6", func := "skerry/skerrylaw09.LogsPuts", spec := "logsPuts", inPlace := ["math.Float64frombits", "math.Float64bits"], apart := false, narrowed := true }
def LogsPutsUptoSaid : Prop := logsPutsUptoRow.holds Try.pinned (OpenSpec.upto logsPutsSpec)

/-- 'skerrylaw09.LogsParts', WHERE WHAT IT READS IS OF BULK AT MOST 1048576: true; the input reads as it did. -/
def logsPartsUptoRow : OpenClaim := { program := "ytnphfgphajejaaa", sum := "b450580c42ccd49175a03b819066e2e06ce32c0a6a63268cc19121eca960b6e6", func := "skerry/skerrylaw09.LogsParts", spec := "logsParts", inPlace := ["math.Float64frombits", "math.Float64bits"], apart := false, narrowed := true }
def LogsPartsUptoSaid : Prop := logsPartsUptoRow.holds Try.pinned (OpenSpec.upto logsPartsSpec)

/-- 'skerrylaw09.LogsNewer', WHERE WHAT IT READS IS OF BULK AT MOST 1048576: true; the input reads as it did. -/
def logsNewerUptoRow : OpenClaim := { program := "ytnphfgphajejaaa", sum := "b450580c42ccd49175a03b819066e2e06ce32c0a6a63268cc19121eca960b6e6", func := "skerry/skerrylaw09.LogsNewer", spec := "logsNewer", inPlace := ["math.Float64frombits", "math.Float64bits"], apart := false, narrowed := true }
def LogsNewerUptoSaid : Prop := logsNewerUptoRow.holds Try.pinned (OpenSpec.upto logsNewerSpec)

/-- 'skerrylaw09.LogsPieces', WHERE WHAT IT READS IS OF BULK AT MOST 1048576: true; the input reads as it did. -/
def logsPiecesUptoRow : OpenClaim := { program := "ytnphfgphajejaaa", sum := "b450580c42ccd49175a03b819066e2e06ce32c0a6a63268cc19121eca960b6e6", func := "skerry/skerrylaw09.LogsPieces", spec := "logsPieces", inPlace := ["math.Float64bits", "math.Float64frombits"], apart := false, narrowed := true }
def LogsPiecesUptoSaid : Prop := logsPiecesUptoRow.holds Try.pinned (OpenSpec.upto logsPiecesSpec)

/-- 'skerrylaw09.LogsLooks', WHERE WHAT IT READS IS OF BULK AT MOST 1048576: true; the input reads as it did. -/
def logsLooksUptoRow : OpenClaim := { program := "ytnphfgphajejaaa", sum := "b450580c42ccd49175a03b819066e2e06ce32c0a6a63268cc19121eca960b6e6", func := "skerry/skerrylaw09.LogsLooks", spec := "logsLooks", inPlace := ["math.Float64frombits", "math.Float64bits"], apart := false, narrowed := true }
def LogsLooksUptoSaid : Prop := logsLooksUptoRow.holds Try.pinned (OpenSpec.upto logsLooksSpec)

/-- 'skerrylaw09.LogsInstalls', WHERE WHAT IT READS IS OF BULK AT MOST 1048576: true; the input reads as it did. -/
def logsInstallsUptoRow : OpenClaim := { program := "ytnphfgphajejaaa", sum := "b450580c42ccd49175a03b819066e2e06ce32c0a6a63268cc19121eca960b6e6", func := "skerry/skerrylaw09.LogsInstalls", spec := "logsInstalls", inPlace := ["math.Float64frombits", "math.Float64bits"], apart := false, narrowed := true }
def LogsInstallsUptoSaid : Prop := logsInstallsUptoRow.holds Try.pinned (OpenSpec.upto logsInstallsSpec)

/-- 'skerrylaw09.LogsCompacts', WHERE WHAT IT READS IS OF BULK AT MOST 1048576: true; the input reads as it did. -/
def logsCompactsUptoRow : OpenClaim := { program := "ytnphfgphajejaaa", sum := "b450580c42ccd49175a03b819066e2e06ce32c0a6a63268cc19121eca960b6e6", func := "skerry/skerrylaw09.LogsCompacts", spec := "logsCompacts", inPlace := ["math.Float64frombits", "math.Float64bits"], apart := false, narrowed := true }
def LogsCompactsUptoSaid : Prop := logsCompactsUptoRow.holds Try.pinned (OpenSpec.upto logsCompactsSpec)

/-- 'skerrylaw26.AuditMerges', WHERE WHAT IT READS IS OF BULK AT MOST 1048576: true; the input reads as it did. -/
def auditMergesUptoRow : OpenClaim := { program := "ytnphfgphajejaaa", sum := "b450580c42ccd49175a03b819066e2e06ce32c0a6a63268cc19121eca960b6e6", func := "skerry/skerrylaw26.AuditMerges", spec := "auditMerges", inPlace := ["math.Float64frombits", "math.Float64bits"], unfollowed := true, recurses := true, apart := false, narrowed := true }
def AuditMergesUptoSaid : Prop := auditMergesUptoRow.holds Try.pinned (OpenSpec.upto auditMergesSpec)

/-- 'skerrylaw16.GrowTakes', WHERE WHAT IT READS IS OF BULK AT MOST 1048576: true; the input reads as it did. -/
def growTakesUptoRow : OpenClaim := { program := "ytnphfgphajejaaa", sum := "b450580c42ccd49175a03b819066e2e06ce32c0a6a63268cc19121eca960b6e6", func := "skerry/skerrylaw16.GrowTakes", spec := "growTakes", inPlace := ["math.Float64frombits", "math.Float64bits"], loops := true, apart := false, narrowed := true }
def GrowTakesUptoSaid : Prop := growTakesUptoRow.holds Try.pinned (OpenSpec.upto growTakesSpec)

/-- 'skerrylaw16.GrowTwice', WHERE WHAT IT READS IS OF BULK AT MOST 1048576: true; the input reads as it did. -/
def growTwiceUptoRow : OpenClaim := { program := "ytnphfgphajejaaa", sum := "b450580c42ccd49175a03b819066e2e06ce32c0a6a63268cc19121eca960b6e6", func := "skerry/skerrylaw16.GrowTwice", spec := "growTwice", inPlace := ["math.Float64frombits", "math.Float64bits"], loops := true, apart := false, narrowed := true }
def GrowTwiceUptoSaid : Prop := growTwiceUptoRow.holds Try.pinned (OpenSpec.upto growTwiceSpec)

/-- 'skerrylaw16.GrowCommits', WHERE WHAT IT READS IS OF BULK AT MOST 1048576: true; the input reads as it did. -/
def growCommitsUptoRow : OpenClaim := { program := "ytnphfgphajejaaa", sum := "b450580c42ccd49175a03b819066e2e06ce32c0a6a63268cc19121eca960b6e6", func := "skerry/skerrylaw16.GrowCommits", spec := "growCommits", inPlace := ["math.Float64frombits", "math.Float64bits"], loops := true, apart := false, narrowed := true }
def GrowCommitsUptoSaid : Prop := growCommitsUptoRow.holds Try.pinned (OpenSpec.upto growCommitsSpec)

/-- 'skerrylaw09.LogsExact', WHERE WHAT IT READS IS OF BULK AT MOST 1048576: true; the input reads as it did. -/
def logsExactUptoRow : OpenClaim := { program := "ytnphfgphajejaaa", sum := "b450580c42ccd49175a03b819066e2e06ce32c0a6a63268cc19121eca960b6e6", func := "skerry/skerrylaw09.LogsExact", spec := "logsExact", inPlace := ["math.Float64bits", "math.Float64frombits"], apart := false, narrowed := true }
def LogsExactUptoSaid : Prop := logsExactUptoRow.holds Try.pinned (OpenSpec.upto logsExactSpec)

/-- 'skerrylaw16.GrowNext', WHERE WHAT IT READS IS OF BULK AT MOST 1048576: true; the input reads as it did. -/
def growNextUptoRow : OpenClaim := { program := "ytnphfgphajejaaa", sum := "b450580c42ccd49175a03b819066e2e06ce32c0a6a63268cc19121eca960b6e6", func := "skerry/skerrylaw16.GrowNext", spec := "growNext", inPlace := ["math.Float64frombits", "math.Float64bits"], loops := true, apart := false, narrowed := true }
def GrowNextUptoSaid : Prop := growNextUptoRow.holds Try.pinned (OpenSpec.upto growNextSpec)

/-- 'skerrylaw16.GrowFeeds', WHERE WHAT IT READS IS OF BULK AT MOST 1048576: true; the input reads as it did. -/
def growFeedsUptoRow : OpenClaim := { program := "ytnphfgphajejaaa", sum := "b450580c42ccd49175a03b819066e2e06ce32c0a6a63268cc19121eca960b6e6", func := "skerry/skerrylaw16.GrowFeeds", spec := "growFeeds", inPlace := ["math.Float64bits", "math.Float64frombits"], apart := false, narrowed := true }
def GrowFeedsUptoSaid : Prop := growFeedsUptoRow.holds Try.pinned (OpenSpec.upto growFeedsSpec)

/-- 'skerrylaw16.GrowMatches', WHERE WHAT IT READS IS OF BULK AT MOST 1048576: true; the input reads as it did. -/
def growMatchesUptoRow : OpenClaim := { program := "ytnphfgphajejaaa", sum := "b450580c42ccd49175a03b819066e2e06ce32c0a6a63268cc19121eca960b6e6", func := "skerry/skerrylaw16.GrowMatches", spec := "growMatches", inPlace := ["math.Float64bits", "math.Float64frombits"], apart := false, narrowed := true }
def GrowMatchesUptoSaid : Prop := growMatchesUptoRow.holds Try.pinned (OpenSpec.upto growMatchesSpec)

/-- 'skerrylaw16.GrowFinds', WHERE WHAT IT READS IS OF BULK AT MOST 1048576: true; the input reads as it did. -/
def growFindsUptoRow : OpenClaim := { program := "ytnphfgphajejaaa", sum := "b450580c42ccd49175a03b819066e2e06ce32c0a6a63268cc19121eca960b6e6", func := "skerry/skerrylaw16.GrowFinds", spec := "growFinds", inPlace := ["math.Float64bits", "math.Float64frombits"], apart := false, narrowed := true }
def GrowFindsUptoSaid : Prop := growFindsUptoRow.holds Try.pinned (OpenSpec.upto growFindsSpec)

end Rows
end Go.Proofs.Ytnphfgphajejaaa
