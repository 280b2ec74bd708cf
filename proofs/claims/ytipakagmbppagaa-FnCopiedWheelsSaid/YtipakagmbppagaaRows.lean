/-
  No cell of these rows narrows 'for every input' (looked for: loops, veiled, ifaces, maps, wideKeys, modest, calm, conditions, laid).
  DERIVED. THE GIVEN ROWS OF THIS SEAT. 16 by the template 'for every input the law returns true; each argument reads behind the call as it read before'; 0 by the template 'total and deterministic' (their statements: YtipakagmbppagaaTotals.lean).
  GIVEN WITH THE SEED: the statements are not yours to turn. If you find one false, say at which input.
  Laid BY PROGRAM, IN A SANDBOX (cutbox-rows.mjs): the forced cells as the released guide's own fill.sh prints them over the translation cbed59632e0eead2… (all of the seat's roots in one cut). By AI agents, Wed Nov 11 2026. No macro, syntax, notation, axiom, sorry.
-/
import Derived.Test.YtipakagmbppagaaChecked
import GoSem.Claim
import GoSem.ClaimJoined
import GoSem.ClaimMapViews
import Derived.JoinedTies
import Derived.KernelRfl
namespace Go.Proofs.Ytipakagmbppagaa
/- THE CELL 'sum', in the pinned program and in every row, IS THE sha256 OF THE DUMP (.gsa) THAT YtipakagmbppagaaProg.lean LOADS. Nothing in Lean hashes anything: it is a label: what it is worth is what the hold of that sum in a sandbox is worth. -/
noncomputable def Try.pinned : Pinned := { name := "ytipakagmbppagaa", sum := "cbed59632e0eead2bb90eca673a41e261dceb625c1f12ccd10b3cea9fd6eeefe", checked := Try.checked }
namespace Rows
def none {H : Type} : Left H := { results := [], args := [] }

/-- 'laws.FnExactValidRack': WHATEVER THE INPUT: true; the input reads as it did. -/
def fnExactValidRackSpec : ChangeSpec := { name := "fnExactValidRack", fn := fun _ => fun
  | [d] => { results := [.lit (.bool true)], args := [d] }
  | _ => none }
def fnExactValidRackRow : OpenClaim := { program := "ytipakagmbppagaa", sum := "cbed59632e0eead2bb90eca673a41e261dceb625c1f12ccd10b3cea9fd6eeefe", func := "loop.example/g00921/laws.FnExactValidRack", spec := "fnExactValidRack", plainKeys := false, apart := false }
def FnExactValidRackSaid : Prop := fnExactValidRackRow.holds Try.pinned (OpenSpec.ofChange fnExactValidRackSpec)

/-- ITS FALSE NEIGHBOUR: 'it returns false'. Refute it at one input. -/
def fnExactValidRackWrong : ChangeSpec := { name := "fnExactValidRack", fn := fun _ => fun
  | [d] => { results := [.lit (.bool false)], args := [d] }
  | _ => none }
def FnExactValidRackWrongFalsely : Prop := fnExactValidRackRow.holds Try.pinned (OpenSpec.ofChange fnExactValidRackWrong)

/-- 'laws.FnRackStates': WHATEVER THE INPUT: true; the input reads as it did. -/
def fnRackStatesSpec : ChangeSpec := { name := "fnRackStates", fn := fun _ => fun
  | [d] => { results := [.lit (.bool true)], args := [d] }
  | _ => none }
def fnRackStatesRow : OpenClaim := { program := "ytipakagmbppagaa", sum := "cbed59632e0eead2bb90eca673a41e261dceb625c1f12ccd10b3cea9fd6eeefe", func := "loop.example/g00921/laws.FnRackStates", spec := "fnRackStates", plainKeys := false, apart := false }
def FnRackStatesSaid : Prop := fnRackStatesRow.holds Try.pinned (OpenSpec.ofChange fnRackStatesSpec)

/-- ITS FALSE NEIGHBOUR: 'it returns false'. Refute it at one input. -/
def fnRackStatesWrong : ChangeSpec := { name := "fnRackStates", fn := fun _ => fun
  | [d] => { results := [.lit (.bool false)], args := [d] }
  | _ => none }
def FnRackStatesWrongFalsely : Prop := fnRackStatesRow.holds Try.pinned (OpenSpec.ofChange fnRackStatesWrong)

/-- 'laws.FnExactSnailHour': WHATEVER THE INPUT: true; the input reads as it did. -/
def fnExactSnailHourSpec : ChangeSpec := { name := "fnExactSnailHour", fn := fun _ => fun
  | [d1, d2] => { results := [.lit (.bool true)], args := [d1, d2] }
  | _ => none }
def fnExactSnailHourRow : OpenClaim := { program := "ytipakagmbppagaa", sum := "cbed59632e0eead2bb90eca673a41e261dceb625c1f12ccd10b3cea9fd6eeefe", func := "loop.example/g00921/laws.FnExactSnailHour", spec := "fnExactSnailHour", plainKeys := false, apart := false }
def FnExactSnailHourSaid : Prop := fnExactSnailHourRow.holds Try.pinned (OpenSpec.ofChange fnExactSnailHourSpec)

/-- ITS FALSE NEIGHBOUR: 'it returns false'. Refute it at one input. -/
def fnExactSnailHourWrong : ChangeSpec := { name := "fnExactSnailHour", fn := fun _ => fun
  | [d1, d2] => { results := [.lit (.bool false)], args := [d1, d2] }
  | _ => none }
def FnExactSnailHourWrongFalsely : Prop := fnExactSnailHourRow.holds Try.pinned (OpenSpec.ofChange fnExactSnailHourWrong)

/-- 'laws.FnExactValidRackState': WHATEVER THE INPUT: true; the input reads as it did. -/
def fnExactValidRackStateSpec : ChangeSpec := { name := "fnExactValidRackState", fn := fun _ => fun
  | [d1, d2] => { results := [.lit (.bool true)], args := [d1, d2] }
  | _ => none }
def fnExactValidRackStateRow : OpenClaim := { program := "ytipakagmbppagaa", sum := "cbed59632e0eead2bb90eca673a41e261dceb625c1f12ccd10b3cea9fd6eeefe", func := "loop.example/g00921/laws.FnExactValidRackState", spec := "fnExactValidRackState", plainKeys := false, apart := false }
def FnExactValidRackStateSaid : Prop := fnExactValidRackStateRow.holds Try.pinned (OpenSpec.ofChange fnExactValidRackStateSpec)

/-- ITS FALSE NEIGHBOUR: 'it returns false'. Refute it at one input. -/
def fnExactValidRackStateWrong : ChangeSpec := { name := "fnExactValidRackState", fn := fun _ => fun
  | [d1, d2] => { results := [.lit (.bool false)], args := [d1, d2] }
  | _ => none }
def FnExactValidRackStateWrongFalsely : Prop := fnExactValidRackStateRow.holds Try.pinned (OpenSpec.ofChange fnExactValidRackStateWrong)

/-- 'laws.FnExactPullCord': WHATEVER THE INPUT: true; the input reads as it did. -/
def fnExactPullCordSpec : ChangeSpec := { name := "fnExactPullCord", fn := fun _ => fun
  | [d1, d2] => { results := [.lit (.bool true)], args := [d1, d2] }
  | _ => none }
def fnExactPullCordRow : OpenClaim := { program := "ytipakagmbppagaa", sum := "cbed59632e0eead2bb90eca673a41e261dceb625c1f12ccd10b3cea9fd6eeefe", func := "loop.example/g00921/laws.FnExactPullCord", spec := "fnExactPullCord", plainKeys := false, apart := false }
def FnExactPullCordSaid : Prop := fnExactPullCordRow.holds Try.pinned (OpenSpec.ofChange fnExactPullCordSpec)

/-- ITS FALSE NEIGHBOUR: 'it returns false'. Refute it at one input. -/
def fnExactPullCordWrong : ChangeSpec := { name := "fnExactPullCord", fn := fun _ => fun
  | [d1, d2] => { results := [.lit (.bool false)], args := [d1, d2] }
  | _ => none }
def FnExactPullCordWrongFalsely : Prop := fnExactPullCordRow.holds Try.pinned (OpenSpec.ofChange fnExactPullCordWrong)

/-- 'laws.FnRackFollows': WHATEVER THE INPUT: true; the input reads as it did. -/
def fnRackFollowsSpec : ChangeSpec := { name := "fnRackFollows", fn := fun _ => fun
  | [d] => { results := [.lit (.bool true)], args := [d] }
  | _ => none }
def fnRackFollowsRow : OpenClaim := { program := "ytipakagmbppagaa", sum := "cbed59632e0eead2bb90eca673a41e261dceb625c1f12ccd10b3cea9fd6eeefe", func := "loop.example/g00921/laws.FnRackFollows", spec := "fnRackFollows", plainKeys := false, apart := false }
def FnRackFollowsSaid : Prop := fnRackFollowsRow.holds Try.pinned (OpenSpec.ofChange fnRackFollowsSpec)

/-- ITS FALSE NEIGHBOUR: 'it returns false'. Refute it at one input. -/
def fnRackFollowsWrong : ChangeSpec := { name := "fnRackFollows", fn := fun _ => fun
  | [d] => { results := [.lit (.bool false)], args := [d] }
  | _ => none }
def FnRackFollowsWrongFalsely : Prop := fnRackFollowsRow.holds Try.pinned (OpenSpec.ofChange fnRackFollowsWrong)

/-- 'laws.FnExactTickRack': WHATEVER THE INPUT: true; the input reads as it did. -/
def fnExactTickRackSpec : ChangeSpec := { name := "fnExactTickRack", fn := fun _ => fun
  | [d1, d2] => { results := [.lit (.bool true)], args := [d1, d2] }
  | _ => none }
def fnExactTickRackRow : OpenClaim := { program := "ytipakagmbppagaa", sum := "cbed59632e0eead2bb90eca673a41e261dceb625c1f12ccd10b3cea9fd6eeefe", func := "loop.example/g00921/laws.FnExactTickRack", spec := "fnExactTickRack", plainKeys := false, apart := false }
def FnExactTickRackSaid : Prop := fnExactTickRackRow.holds Try.pinned (OpenSpec.ofChange fnExactTickRackSpec)

/-- ITS FALSE NEIGHBOUR: 'it returns false'. Refute it at one input. -/
def fnExactTickRackWrong : ChangeSpec := { name := "fnExactTickRack", fn := fun _ => fun
  | [d1, d2] => { results := [.lit (.bool false)], args := [d1, d2] }
  | _ => none }
def FnExactTickRackWrongFalsely : Prop := fnExactTickRackRow.holds Try.pinned (OpenSpec.ofChange fnExactTickRackWrong)

/-- 'laws.FnExactNextStrike': WHATEVER THE INPUT: true; the input reads as it did. -/
def fnExactNextStrikeSpec : ChangeSpec := { name := "fnExactNextStrike", fn := fun _ => fun
  | [d1, d2] => { results := [.lit (.bool true)], args := [d1, d2] }
  | _ => none }
def fnExactNextStrikeRow : OpenClaim := { program := "ytipakagmbppagaa", sum := "cbed59632e0eead2bb90eca673a41e261dceb625c1f12ccd10b3cea9fd6eeefe", func := "loop.example/g00921/laws.FnExactNextStrike", spec := "fnExactNextStrike", plainKeys := false, apart := false }
def FnExactNextStrikeSaid : Prop := fnExactNextStrikeRow.holds Try.pinned (OpenSpec.ofChange fnExactNextStrikeSpec)

/-- ITS FALSE NEIGHBOUR: 'it returns false'. Refute it at one input. -/
def fnExactNextStrikeWrong : ChangeSpec := { name := "fnExactNextStrike", fn := fun _ => fun
  | [d1, d2] => { results := [.lit (.bool false)], args := [d1, d2] }
  | _ => none }
def FnExactNextStrikeWrongFalsely : Prop := fnExactNextStrikeRow.holds Try.pinned (OpenSpec.ofChange fnExactNextStrikeWrong)

/-- 'laws.FnExactBackHands': WHATEVER THE INPUT: true; the input reads as it did. -/
def fnExactBackHandsSpec : ChangeSpec := { name := "fnExactBackHands", fn := fun _ => fun
  | [d1, d2, d3] => { results := [.lit (.bool true)], args := [d1, d2, d3] }
  | _ => none }
def fnExactBackHandsRow : OpenClaim := { program := "ytipakagmbppagaa", sum := "cbed59632e0eead2bb90eca673a41e261dceb625c1f12ccd10b3cea9fd6eeefe", func := "loop.example/g00921/laws.FnExactBackHands", spec := "fnExactBackHands", plainKeys := false, apart := false }
def FnExactBackHandsSaid : Prop := fnExactBackHandsRow.holds Try.pinned (OpenSpec.ofChange fnExactBackHandsSpec)

/-- ITS FALSE NEIGHBOUR: 'it returns false'. Refute it at one input. -/
def fnExactBackHandsWrong : ChangeSpec := { name := "fnExactBackHands", fn := fun _ => fun
  | [d1, d2, d3] => { results := [.lit (.bool false)], args := [d1, d2, d3] }
  | _ => none }
def FnExactBackHandsWrongFalsely : Prop := fnExactBackHandsRow.holds Try.pinned (OpenSpec.ofChange fnExactBackHandsWrong)

/-- 'laws.FnExactRackWheel': WHATEVER THE INPUT: true; the input reads as it did. -/
def fnExactRackWheelSpec : ChangeSpec := { name := "fnExactRackWheel", fn := fun _ => fun
  | [d] => { results := [.lit (.bool true)], args := [d] }
  | _ => none }
def fnExactRackWheelRow : OpenClaim := { program := "ytipakagmbppagaa", sum := "cbed59632e0eead2bb90eca673a41e261dceb625c1f12ccd10b3cea9fd6eeefe", func := "loop.example/g00921/laws.FnExactRackWheel", spec := "fnExactRackWheel", plainKeys := false, apart := false }
def FnExactRackWheelSaid : Prop := fnExactRackWheelRow.holds Try.pinned (OpenSpec.ofChange fnExactRackWheelSpec)

/-- ITS FALSE NEIGHBOUR: 'it returns false'. Refute it at one input. -/
def fnExactRackWheelWrong : ChangeSpec := { name := "fnExactRackWheel", fn := fun _ => fun
  | [d] => { results := [.lit (.bool false)], args := [d] }
  | _ => none }
def FnExactRackWheelWrongFalsely : Prop := fnExactRackWheelRow.holds Try.pinned (OpenSpec.ofChange fnExactRackWheelWrong)

/-- 'laws.FnExactCopyWheel': WHATEVER THE INPUT: true; the input reads as it did. -/
def fnExactCopyWheelSpec : ChangeSpec := { name := "fnExactCopyWheel", fn := fun _ => fun
  | [d1, d2, d3] => { results := [.lit (.bool true)], args := [d1, d2, d3] }
  | _ => none }
def fnExactCopyWheelRow : OpenClaim := { program := "ytipakagmbppagaa", sum := "cbed59632e0eead2bb90eca673a41e261dceb625c1f12ccd10b3cea9fd6eeefe", func := "loop.example/g00921/laws.FnExactCopyWheel", spec := "fnExactCopyWheel", plainKeys := false, apart := false }
def FnExactCopyWheelSaid : Prop := fnExactCopyWheelRow.holds Try.pinned (OpenSpec.ofChange fnExactCopyWheelSpec)

/-- ITS FALSE NEIGHBOUR: 'it returns false'. Refute it at one input. -/
def fnExactCopyWheelWrong : ChangeSpec := { name := "fnExactCopyWheel", fn := fun _ => fun
  | [d1, d2, d3] => { results := [.lit (.bool false)], args := [d1, d2, d3] }
  | _ => none }
def FnExactCopyWheelWrongFalsely : Prop := fnExactCopyWheelRow.holds Try.pinned (OpenSpec.ofChange fnExactCopyWheelWrong)

/-- 'laws.FnExactRackStates': WHATEVER THE INPUT: true; the input reads as it did. -/
def fnExactRackStatesSpec : ChangeSpec := { name := "fnExactRackStates", fn := fun _ => fun
  | [d1, d2] => { results := [.lit (.bool true)], args := [d1, d2] }
  | _ => none }
def fnExactRackStatesRow : OpenClaim := { program := "ytipakagmbppagaa", sum := "cbed59632e0eead2bb90eca673a41e261dceb625c1f12ccd10b3cea9fd6eeefe", func := "loop.example/g00921/laws.FnExactRackStates", spec := "fnExactRackStates", plainKeys := false, apart := false }
def FnExactRackStatesSaid : Prop := fnExactRackStatesRow.holds Try.pinned (OpenSpec.ofChange fnExactRackStatesSpec)

/-- ITS FALSE NEIGHBOUR: 'it returns false'. Refute it at one input. -/
def fnExactRackStatesWrong : ChangeSpec := { name := "fnExactRackStates", fn := fun _ => fun
  | [d1, d2] => { results := [.lit (.bool false)], args := [d1, d2] }
  | _ => none }
def FnExactRackStatesWrongFalsely : Prop := fnExactRackStatesRow.holds Try.pinned (OpenSpec.ofChange fnExactRackStatesWrong)

/-- 'laws.FnExactRunRack': WHATEVER THE INPUT: true; the input reads as it did. -/
def fnExactRunRackSpec : ChangeSpec := { name := "fnExactRunRack", fn := fun _ => fun
  | [d1, d2, d3] => { results := [.lit (.bool true)], args := [d1, d2, d3] }
  | _ => none }
def fnExactRunRackRow : OpenClaim := { program := "ytipakagmbppagaa", sum := "cbed59632e0eead2bb90eca673a41e261dceb625c1f12ccd10b3cea9fd6eeefe", func := "loop.example/g00921/laws.FnExactRunRack", spec := "fnExactRunRack", plainKeys := false, apart := false }
def FnExactRunRackSaid : Prop := fnExactRunRackRow.holds Try.pinned (OpenSpec.ofChange fnExactRunRackSpec)

/-- ITS FALSE NEIGHBOUR: 'it returns false'. Refute it at one input. -/
def fnExactRunRackWrong : ChangeSpec := { name := "fnExactRunRack", fn := fun _ => fun
  | [d1, d2, d3] => { results := [.lit (.bool false)], args := [d1, d2, d3] }
  | _ => none }
def FnExactRunRackWrongFalsely : Prop := fnExactRunRackRow.holds Try.pinned (OpenSpec.ofChange fnExactRunRackWrong)

/-- 'laws.FnNextStrikes': WHATEVER THE INPUT: true; the input reads as it did. -/
def fnNextStrikesSpec : ChangeSpec := { name := "fnNextStrikes", fn := fun _ => fun
  | [d] => { results := [.lit (.bool true)], args := [d] }
  | _ => none }
def fnNextStrikesRow : OpenClaim := { program := "ytipakagmbppagaa", sum := "cbed59632e0eead2bb90eca673a41e261dceb625c1f12ccd10b3cea9fd6eeefe", func := "loop.example/g00921/laws.FnNextStrikes", spec := "fnNextStrikes", plainKeys := false, apart := false }
def FnNextStrikesSaid : Prop := fnNextStrikesRow.holds Try.pinned (OpenSpec.ofChange fnNextStrikesSpec)

/-- ITS FALSE NEIGHBOUR: 'it returns false'. Refute it at one input. -/
def fnNextStrikesWrong : ChangeSpec := { name := "fnNextStrikes", fn := fun _ => fun
  | [d] => { results := [.lit (.bool false)], args := [d] }
  | _ => none }
def FnNextStrikesWrongFalsely : Prop := fnNextStrikesRow.holds Try.pinned (OpenSpec.ofChange fnNextStrikesWrong)

/-- 'laws.FnCopiedWheels': WHATEVER THE INPUT: true; the input reads as it did. -/
def fnCopiedWheelsSpec : ChangeSpec := { name := "fnCopiedWheels", fn := fun _ => fun
  | [d] => { results := [.lit (.bool true)], args := [d] }
  | _ => none }
def fnCopiedWheelsRow : OpenClaim := { program := "ytipakagmbppagaa", sum := "cbed59632e0eead2bb90eca673a41e261dceb625c1f12ccd10b3cea9fd6eeefe", func := "loop.example/g00921/laws.FnCopiedWheels", spec := "fnCopiedWheels", plainKeys := false, apart := false }
def FnCopiedWheelsSaid : Prop := fnCopiedWheelsRow.holds Try.pinned (OpenSpec.ofChange fnCopiedWheelsSpec)

/-- ITS FALSE NEIGHBOUR: 'it returns false'. Refute it at one input. -/
def fnCopiedWheelsWrong : ChangeSpec := { name := "fnCopiedWheels", fn := fun _ => fun
  | [d] => { results := [.lit (.bool false)], args := [d] }
  | _ => none }
def FnCopiedWheelsWrongFalsely : Prop := fnCopiedWheelsRow.holds Try.pinned (OpenSpec.ofChange fnCopiedWheelsWrong)

/-- 'laws.FnRackRuns': WHATEVER THE INPUT: true; the input reads as it did. -/
def fnRackRunsSpec : ChangeSpec := { name := "fnRackRuns", fn := fun _ => fun
  | [d] => { results := [.lit (.bool true)], args := [d] }
  | _ => none }
def fnRackRunsRow : OpenClaim := { program := "ytipakagmbppagaa", sum := "cbed59632e0eead2bb90eca673a41e261dceb625c1f12ccd10b3cea9fd6eeefe", func := "loop.example/g00921/laws.FnRackRuns", spec := "fnRackRuns", plainKeys := false, apart := false }
def FnRackRunsSaid : Prop := fnRackRunsRow.holds Try.pinned (OpenSpec.ofChange fnRackRunsSpec)

/-- ITS FALSE NEIGHBOUR: 'it returns false'. Refute it at one input. -/
def fnRackRunsWrong : ChangeSpec := { name := "fnRackRuns", fn := fun _ => fun
  | [d] => { results := [.lit (.bool false)], args := [d] }
  | _ => none }
def FnRackRunsWrongFalsely : Prop := fnRackRunsRow.holds Try.pinned (OpenSpec.ofChange fnRackRunsWrong)

/- THE SECOND FORM. 'bulk': how many values and letters a reading holds, each counted each time it is reached (what is shared counts as often as it is met; a slice's spare places count too). A statement '..UptoSaid' is the law's where the arguments, and the package variables that the reading takes, are together of bulk at most 1048576: NARROWER than '..Said'. Prove '..Said' where nothing that the law and all that it calls make is longer than what came in: it says more and counts as full. Else prove '..UptoSaid'. A law counts once. -/
mutual
def uptoBulk {H : Type} : DataW H → Nat
  | .lit (.string bytes) => bytes.length + 1
  | .lit _ => 1
  | .nil => 1
  | .ptr d => uptoBulk d + 1
  | .slice elems spare => uptoBulkAll elems + uptoBulkAll spare + 1
  | .agg parts => uptoBulkAll parts + 1
  | .iface _ d => uptoBulk d + 1
  | .map entries => uptoBulkEntries entries + 1
  | .held _ => 1
def uptoBulkAll {H : Type} : List (DataW H) → Nat
  | [] => 0
  | d :: r => uptoBulk d + uptoBulkAll r
def uptoBulkEntries {H : Type} : List (Lit × DataW H) → Nat
  | [] => 0
  | x :: r => uptoBulkEntry x + uptoBulkEntries r
def uptoBulkEntry {H : Type} : Lit × DataW H → Nat
  | (.string bytes, d) => bytes.length + uptoBulk d + 1
  | (_, d) => uptoBulk d + 1
 end
def uptoSmall : (H : Type) → List (DataW H) → Bool := fun _ ds => decide (uptoBulkAll ds ≤ 1048576)
def OpenSpec.upto (s : _root_.Go.ChangeSpec) : _root_.Go.OpenSpec := { _root_.Go.OpenSpec.ofChange s with cond := some uptoSmall }

/-- 'laws.FnExactValidRack', WHERE WHAT IT READS IS OF BULK AT MOST 1048576: true; the input reads as it did. -/
def fnExactValidRackUptoRow : OpenClaim := { program := "ytipakagmbppagaa", sum := "cbed59632e0eead2bb90eca673a41e261dceb625c1f12ccd10b3cea9fd6eeefe", func := "loop.example/g00921/laws.FnExactValidRack", spec := "fnExactValidRack", plainKeys := false, apart := false, narrowed := true }
def FnExactValidRackUptoSaid : Prop := fnExactValidRackUptoRow.holds Try.pinned (OpenSpec.upto fnExactValidRackSpec)

/-- 'laws.FnRackStates', WHERE WHAT IT READS IS OF BULK AT MOST 1048576: true; the input reads as it did. -/
def fnRackStatesUptoRow : OpenClaim := { program := "ytipakagmbppagaa", sum := "cbed59632e0eead2bb90eca673a41e261dceb625c1f12ccd10b3cea9fd6eeefe", func := "loop.example/g00921/laws.FnRackStates", spec := "fnRackStates", plainKeys := false, apart := false, narrowed := true }
def FnRackStatesUptoSaid : Prop := fnRackStatesUptoRow.holds Try.pinned (OpenSpec.upto fnRackStatesSpec)

/-- 'laws.FnExactSnailHour', WHERE WHAT IT READS IS OF BULK AT MOST 1048576: true; the input reads as it did. -/
def fnExactSnailHourUptoRow : OpenClaim := { program := "ytipakagmbppagaa", sum := "cbed59632e0eead2bb90eca673a41e261dceb625c1f12ccd10b3cea9fd6eeefe", func := "loop.example/g00921/laws.FnExactSnailHour", spec := "fnExactSnailHour", plainKeys := false, apart := false, narrowed := true }
def FnExactSnailHourUptoSaid : Prop := fnExactSnailHourUptoRow.holds Try.pinned (OpenSpec.upto fnExactSnailHourSpec)

/-- 'laws.FnExactValidRackState', WHERE WHAT IT READS IS OF BULK AT MOST 1048576: true; the input reads as it did. -/
def fnExactValidRackStateUptoRow : OpenClaim := { program := "ytipakagmbppagaa", sum := "cbed59632e0eead2bb90eca673a41e261dceb625c1f12ccd10b3cea9fd6eeefe", func := "loop.example/g00921/laws.FnExactValidRackState", spec := "fnExactValidRackState", plainKeys := false, apart := false, narrowed := true }
def FnExactValidRackStateUptoSaid : Prop := fnExactValidRackStateUptoRow.holds Try.pinned (OpenSpec.upto fnExactValidRackStateSpec)

/-- 'laws.FnExactPullCord', WHERE WHAT IT READS IS OF BULK AT MOST 1048576: true; the input reads as it did. -/
def fnExactPullCordUptoRow : OpenClaim := { program := "ytipakagmbppagaa", sum := "cbed59632e0eead2bb90eca673a41e261dceb625c1f12ccd10b3cea9fd6eeefe", func := "loop.example/g00921/laws.FnExactPullCord", spec := "fnExactPullCord", plainKeys := false, apart := false, narrowed := true }
def FnExactPullCordUptoSaid : Prop := fnExactPullCordUptoRow.holds Try.pinned (OpenSpec.upto fnExactPullCordSpec)

/-- 'laws.FnRackFollows', WHERE WHAT IT READS IS OF BULK AT MOST 1048576: true; the input reads as it did. -/
def fnRackFollowsUptoRow : OpenClaim := { program := "ytipakagmbppagaa", sum := "cbed59632e0eead2bb90eca673a41e261dceb625c1f12ccd10b3cea9fd6eeefe", func := "loop.example/g00921/laws.FnRackFollows", spec := "fnRackFollows", plainKeys := false, apart := false, narrowed := true }
def FnRackFollowsUptoSaid : Prop := fnRackFollowsUptoRow.holds Try.pinned (OpenSpec.upto fnRackFollowsSpec)

/-- 'laws.FnExactTickRack', WHERE WHAT IT READS IS OF BULK AT MOST 1048576: true; the input reads as it did. -/
def fnExactTickRackUptoRow : OpenClaim := { program := "ytipakagmbppagaa", sum := "cbed59632e0eead2bb90eca673a41e261dceb625c1f12ccd10b3cea9fd6eeefe", func := "loop.example/g00921/laws.FnExactTickRack", spec := "fnExactTickRack", plainKeys := false, apart := false, narrowed := true }
def FnExactTickRackUptoSaid : Prop := fnExactTickRackUptoRow.holds Try.pinned (OpenSpec.upto fnExactTickRackSpec)

/-- 'laws.FnExactNextStrike', WHERE WHAT IT READS IS OF BULK AT MOST 1048576: true; the input reads as it did. -/
def fnExactNextStrikeUptoRow : OpenClaim := { program := "ytipakagmbppagaa", sum := "cbed59632e0eead2bb90eca673a41e261dceb625c1f12ccd10b3cea9fd6eeefe", func := "loop.example/g00921/laws.FnExactNextStrike", spec := "fnExactNextStrike", plainKeys := false, apart := false, narrowed := true }
def FnExactNextStrikeUptoSaid : Prop := fnExactNextStrikeUptoRow.holds Try.pinned (OpenSpec.upto fnExactNextStrikeSpec)

/-- 'laws.FnExactBackHands', WHERE WHAT IT READS IS OF BULK AT MOST 1048576: true; the input reads as it did. -/
def fnExactBackHandsUptoRow : OpenClaim := { program := "ytipakagmbppagaa", sum := "cbed59632e0eead2bb90eca673a41e261dceb625c1f12ccd10b3cea9fd6eeefe", func := "loop.example/g00921/laws.FnExactBackHands", spec := "fnExactBackHands", plainKeys := false, apart := false, narrowed := true }
def FnExactBackHandsUptoSaid : Prop := fnExactBackHandsUptoRow.holds Try.pinned (OpenSpec.upto fnExactBackHandsSpec)

/-- 'laws.FnExactRackWheel', WHERE WHAT IT READS IS OF BULK AT MOST 1048576: true; the input reads as it did. -/
def fnExactRackWheelUptoRow : OpenClaim := { program := "ytipakagmbppagaa", sum := "cbed59632e0eead2bb90eca673a41e261dceb625c1f12ccd10b3cea9fd6eeefe", func := "loop.example/g00921/laws.FnExactRackWheel", spec := "fnExactRackWheel", plainKeys := false, apart := false, narrowed := true }
def FnExactRackWheelUptoSaid : Prop := fnExactRackWheelUptoRow.holds Try.pinned (OpenSpec.upto fnExactRackWheelSpec)

/-- 'laws.FnExactCopyWheel', WHERE WHAT IT READS IS OF BULK AT MOST 1048576: true; the input reads as it did. -/
def fnExactCopyWheelUptoRow : OpenClaim := { program := "ytipakagmbppagaa", sum := "cbed59632e0eead2bb90eca673a41e261dceb625c1f12ccd10b3cea9fd6eeefe", func := "loop.example/g00921/laws.FnExactCopyWheel", spec := "fnExactCopyWheel", plainKeys := false, apart := false, narrowed := true }
def FnExactCopyWheelUptoSaid : Prop := fnExactCopyWheelUptoRow.holds Try.pinned (OpenSpec.upto fnExactCopyWheelSpec)

/-- 'laws.FnExactRackStates', WHERE WHAT IT READS IS OF BULK AT MOST 1048576: true; the input reads as it did. -/
def fnExactRackStatesUptoRow : OpenClaim := { program := "ytipakagmbppagaa", sum := "cbed59632e0eead2bb90eca673a41e261dceb625c1f12ccd10b3cea9fd6eeefe", func := "loop.example/g00921/laws.FnExactRackStates", spec := "fnExactRackStates", plainKeys := false, apart := false, narrowed := true }
def FnExactRackStatesUptoSaid : Prop := fnExactRackStatesUptoRow.holds Try.pinned (OpenSpec.upto fnExactRackStatesSpec)

/-- 'laws.FnExactRunRack', WHERE WHAT IT READS IS OF BULK AT MOST 1048576: true; the input reads as it did. -/
def fnExactRunRackUptoRow : OpenClaim := { program := "ytipakagmbppagaa", sum := "cbed59632e0eead2bb90eca673a41e261dceb625c1f12ccd10b3cea9fd6eeefe", func := "loop.example/g00921/laws.FnExactRunRack", spec := "fnExactRunRack", plainKeys := false, apart := false, narrowed := true }
def FnExactRunRackUptoSaid : Prop := fnExactRunRackUptoRow.holds Try.pinned (OpenSpec.upto fnExactRunRackSpec)

/-- 'laws.FnNextStrikes', WHERE WHAT IT READS IS OF BULK AT MOST 1048576: true; the input reads as it did. -/
def fnNextStrikesUptoRow : OpenClaim := { program := "ytipakagmbppagaa", sum := "cbed59632e0eead2bb90eca673a41e261dceb625c1f12ccd10b3cea9fd6eeefe", func := "loop.example/g00921/laws.FnNextStrikes", spec := "fnNextStrikes", plainKeys := false, apart := false, narrowed := true }
def FnNextStrikesUptoSaid : Prop := fnNextStrikesUptoRow.holds Try.pinned (OpenSpec.upto fnNextStrikesSpec)

/-- 'laws.FnCopiedWheels', WHERE WHAT IT READS IS OF BULK AT MOST 1048576: true; the input reads as it did. -/
def fnCopiedWheelsUptoRow : OpenClaim := { program := "ytipakagmbppagaa", sum := "cbed59632e0eead2bb90eca673a41e261dceb625c1f12ccd10b3cea9fd6eeefe", func := "loop.example/g00921/laws.FnCopiedWheels", spec := "fnCopiedWheels", plainKeys := false, apart := false, narrowed := true }
def FnCopiedWheelsUptoSaid : Prop := fnCopiedWheelsUptoRow.holds Try.pinned (OpenSpec.upto fnCopiedWheelsSpec)

/-- 'laws.FnRackRuns', WHERE WHAT IT READS IS OF BULK AT MOST 1048576: true; the input reads as it did. -/
def fnRackRunsUptoRow : OpenClaim := { program := "ytipakagmbppagaa", sum := "cbed59632e0eead2bb90eca673a41e261dceb625c1f12ccd10b3cea9fd6eeefe", func := "loop.example/g00921/laws.FnRackRuns", spec := "fnRackRuns", plainKeys := false, apart := false, narrowed := true }
def FnRackRunsUptoSaid : Prop := fnRackRunsUptoRow.holds Try.pinned (OpenSpec.upto fnRackRunsSpec)

end Rows
end Go.Proofs.Ytipakagmbppagaa
