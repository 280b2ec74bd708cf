/-
  NARROWER THAN 'FOR EVERY INPUT', by the rows' own cells (each row's printed sentence says how): FnExactMoveHands: laid · FnExactHandsBetween: laid · FnExactPathToRight: laid · FnExactPathToWrong: laid · FnMovedHands: laid · FnRightStates: laid · FnHandPaths: laid · FnExactReachableHands: laid · FnReachableHands: laid.
  DERIVED. THE GIVEN ROWS OF THIS SEAT. 9 by the template 'for every input the law returns true; each argument reads behind the call as it read before'; 0 by the template 'total and deterministic' (their statements: YtfddibdncniekaaDoorTotals.lean).
  GIVEN WITH THE SEED: the statements are not yours to turn. If you find one false, say at which input.
  Laid BY PROGRAM, IN A SANDBOX (cutbox-rows.mjs): the forced cells as the released guide's own fill.sh prints them over the translation 1dac0496c0fd732d… (all of the seat's roots in one cut). By AI agents, Wed Nov 11 2026. No macro, syntax, notation, axiom, sorry.
-/
import Derived.Test.YtfddibdncniekaaDoorChecked
import GoSem.PinnedTables
import GoSem.Claim
import GoSem.ClaimJoined
import GoSem.ClaimMapViews
import Derived.JoinedTies
import Derived.KernelRfl
namespace Go.Proofs.YtfddibdncniekaaDoor
/- THE CELL 'sum', in the pinned program and in every row, IS THE sha256 OF THE DUMP (.gsa) THAT YtfddibdncniekaaDoorProg.lean LOADS. Nothing in Lean hashes anything: it is a label: what it is worth is what the hold of that sum in a sandbox is worth. -/
noncomputable def Tryd.pinned : Pinned := { name := "ytfddibdncniekaadoor", sum := "1dac0496c0fd732d7fb8f9676e00b0cdc55e5302490dd53acb3ec8b134e5c455", checked := Tryd.checked }
namespace Rows
def none {H : Type} : Left H := { results := [], args := [] }

/- WHAT THE LISTED PACKAGE-LEVEL VARIABLES READ AS WHEN THE CALL BEGINS. Each datum BY PROGRAM (the guide's laid-datum.mjs) off the statement by which the dump's own 'gosem.cut.vars' lays the variable. In a bare row this is a premise. The card (YtfddibdncniekaaDoorCards.lean) ties it to the program's text. -/
def laid_unicode_utf8_acceptRanges {H : Type} : DataW H := .agg [.agg [.lit (.int .u8 128), .lit (.int .u8 191)], .agg [.lit (.int .u8 160), .lit (.int .u8 191)], .agg [.lit (.int .u8 128), .lit (.int .u8 159)], .agg [.lit (.int .u8 144), .lit (.int .u8 191)], .agg [.lit (.int .u8 128), .lit (.int .u8 143)], .agg [.lit (.int .u8 0), .lit (.int .u8 0)], .agg [.lit (.int .u8 0), .lit (.int .u8 0)], .agg [.lit (.int .u8 0), .lit (.int .u8 0)], .agg [.lit (.int .u8 0), .lit (.int .u8 0)], .agg [.lit (.int .u8 0), .lit (.int .u8 0)], .agg [.lit (.int .u8 0), .lit (.int .u8 0)], .agg [.lit (.int .u8 0), .lit (.int .u8 0)], .agg [.lit (.int .u8 0), .lit (.int .u8 0)], .agg [.lit (.int .u8 0), .lit (.int .u8 0)], .agg [.lit (.int .u8 0), .lit (.int .u8 0)], .agg [.lit (.int .u8 0), .lit (.int .u8 0)]]
/-- One of Go's own tables, pinned by name: the form's constant. -/
def laid_unicode_utf8_first : DataW Unit := Go.Pinned.utf8First

/-- 'laws.FnExactMoveHands': WHATEVER THE INPUT: true; the input reads as it did. -/
def fnExactMoveHandsSpec : ChangeSpec := { name := "fnExactMoveHands", fn := fun _ => fun
  | [d1, d2, d3] => { results := [.lit (.bool true)], args := [d1, d2, d3] }
  | _ => none }
def fnExactMoveHandsRow : OpenClaim := { program := "ytfddibdncniekaadoor", sum := "1dac0496c0fd732d7fb8f9676e00b0cdc55e5302490dd53acb3ec8b134e5c455", func := "loop.example/g00921/laws.FnExactMoveHands", spec := "fnExactMoveHands", inPlace := ["internal/bytealg.IndexByteString", "internal/bytealg.IndexString"], named := ["unicode/utf8.first", "unicode/utf8.acceptRanges", "internal/bytealg.MaxLen"], plainKeys := false, apart := false, laid := [("unicode/utf8.acceptRanges", laid_unicode_utf8_acceptRanges), ("unicode/utf8.first", laid_unicode_utf8_first)] }
def FnExactMoveHandsSaid : Prop := fnExactMoveHandsRow.holds Tryd.pinned (OpenSpec.ofChange fnExactMoveHandsSpec)

/-- ITS FALSE NEIGHBOUR: 'it returns false'. Refute it at one input. -/
def fnExactMoveHandsWrong : ChangeSpec := { name := "fnExactMoveHands", fn := fun _ => fun
  | [d1, d2, d3] => { results := [.lit (.bool false)], args := [d1, d2, d3] }
  | _ => none }
def FnExactMoveHandsWrongFalsely : Prop := fnExactMoveHandsRow.holds Tryd.pinned (OpenSpec.ofChange fnExactMoveHandsWrong)

/-- 'laws.FnExactHandsBetween': WHATEVER THE INPUT: true; the input reads as it did. -/
def fnExactHandsBetweenSpec : ChangeSpec := { name := "fnExactHandsBetween", fn := fun _ => fun
  | [d1, d2, d3, d4] => { results := [.lit (.bool true)], args := [d1, d2, d3, d4] }
  | _ => none }
def fnExactHandsBetweenRow : OpenClaim := { program := "ytfddibdncniekaadoor", sum := "1dac0496c0fd732d7fb8f9676e00b0cdc55e5302490dd53acb3ec8b134e5c455", func := "loop.example/g00921/laws.FnExactHandsBetween", spec := "fnExactHandsBetween", inPlace := ["internal/bytealg.IndexByteString", "internal/bytealg.IndexString"], unfollowed := true, recurses := true, named := ["unicode/utf8.first", "unicode/utf8.acceptRanges", "internal/bytealg.MaxLen"], plainKeys := false, apart := false, laid := [("unicode/utf8.acceptRanges", laid_unicode_utf8_acceptRanges), ("unicode/utf8.first", laid_unicode_utf8_first)] }
def FnExactHandsBetweenSaid : Prop := fnExactHandsBetweenRow.holds Tryd.pinned (OpenSpec.ofChange fnExactHandsBetweenSpec)

/-- ITS FALSE NEIGHBOUR: 'it returns false'. Refute it at one input. -/
def fnExactHandsBetweenWrong : ChangeSpec := { name := "fnExactHandsBetween", fn := fun _ => fun
  | [d1, d2, d3, d4] => { results := [.lit (.bool false)], args := [d1, d2, d3, d4] }
  | _ => none }
def FnExactHandsBetweenWrongFalsely : Prop := fnExactHandsBetweenRow.holds Tryd.pinned (OpenSpec.ofChange fnExactHandsBetweenWrong)

/-- 'laws.FnExactPathToRight': WHATEVER THE INPUT: true; the input reads as it did. -/
def fnExactPathToRightSpec : ChangeSpec := { name := "fnExactPathToRight", fn := fun _ => fun
  | [d1, d2, d3] => { results := [.lit (.bool true)], args := [d1, d2, d3] }
  | _ => none }
def fnExactPathToRightRow : OpenClaim := { program := "ytfddibdncniekaadoor", sum := "1dac0496c0fd732d7fb8f9676e00b0cdc55e5302490dd53acb3ec8b134e5c455", func := "loop.example/g00921/laws.FnExactPathToRight", spec := "fnExactPathToRight", inPlace := ["internal/bytealg.IndexByteString", "internal/bytealg.IndexString"], unfollowed := true, recurses := true, named := ["unicode/utf8.first", "unicode/utf8.acceptRanges", "internal/bytealg.MaxLen"], plainKeys := false, apart := false, laid := [("unicode/utf8.acceptRanges", laid_unicode_utf8_acceptRanges), ("unicode/utf8.first", laid_unicode_utf8_first)] }
def FnExactPathToRightSaid : Prop := fnExactPathToRightRow.holds Tryd.pinned (OpenSpec.ofChange fnExactPathToRightSpec)

/-- ITS FALSE NEIGHBOUR: 'it returns false'. Refute it at one input. -/
def fnExactPathToRightWrong : ChangeSpec := { name := "fnExactPathToRight", fn := fun _ => fun
  | [d1, d2, d3] => { results := [.lit (.bool false)], args := [d1, d2, d3] }
  | _ => none }
def FnExactPathToRightWrongFalsely : Prop := fnExactPathToRightRow.holds Tryd.pinned (OpenSpec.ofChange fnExactPathToRightWrong)

/-- 'laws.FnExactPathToWrong': WHATEVER THE INPUT: true; the input reads as it did. -/
def fnExactPathToWrongSpec : ChangeSpec := { name := "fnExactPathToWrong", fn := fun _ => fun
  | [d1, d2, d3] => { results := [.lit (.bool true)], args := [d1, d2, d3] }
  | _ => none }
def fnExactPathToWrongRow : OpenClaim := { program := "ytfddibdncniekaadoor", sum := "1dac0496c0fd732d7fb8f9676e00b0cdc55e5302490dd53acb3ec8b134e5c455", func := "loop.example/g00921/laws.FnExactPathToWrong", spec := "fnExactPathToWrong", inPlace := ["internal/bytealg.IndexByteString", "internal/bytealg.IndexString"], unfollowed := true, recurses := true, named := ["unicode/utf8.first", "unicode/utf8.acceptRanges", "internal/bytealg.MaxLen"], plainKeys := false, apart := false, laid := [("unicode/utf8.acceptRanges", laid_unicode_utf8_acceptRanges), ("unicode/utf8.first", laid_unicode_utf8_first)] }
def FnExactPathToWrongSaid : Prop := fnExactPathToWrongRow.holds Tryd.pinned (OpenSpec.ofChange fnExactPathToWrongSpec)

/-- ITS FALSE NEIGHBOUR: 'it returns false'. Refute it at one input. -/
def fnExactPathToWrongWrong : ChangeSpec := { name := "fnExactPathToWrong", fn := fun _ => fun
  | [d1, d2, d3] => { results := [.lit (.bool false)], args := [d1, d2, d3] }
  | _ => none }
def FnExactPathToWrongWrongFalsely : Prop := fnExactPathToWrongRow.holds Tryd.pinned (OpenSpec.ofChange fnExactPathToWrongWrong)

/-- 'laws.FnMovedHands': WHATEVER THE INPUT: true; the input reads as it did. -/
def fnMovedHandsSpec : ChangeSpec := { name := "fnMovedHands", fn := fun _ => fun
  | [d] => { results := [.lit (.bool true)], args := [d] }
  | _ => none }
def fnMovedHandsRow : OpenClaim := { program := "ytfddibdncniekaadoor", sum := "1dac0496c0fd732d7fb8f9676e00b0cdc55e5302490dd53acb3ec8b134e5c455", func := "loop.example/g00921/laws.FnMovedHands", spec := "fnMovedHands", inPlace := ["internal/bytealg.IndexByteString", "internal/bytealg.IndexString"], named := ["unicode/utf8.first", "unicode/utf8.acceptRanges", "internal/bytealg.MaxLen"], plainKeys := false, apart := false, laid := [("unicode/utf8.acceptRanges", laid_unicode_utf8_acceptRanges), ("unicode/utf8.first", laid_unicode_utf8_first)] }
def FnMovedHandsSaid : Prop := fnMovedHandsRow.holds Tryd.pinned (OpenSpec.ofChange fnMovedHandsSpec)

/-- ITS FALSE NEIGHBOUR: 'it returns false'. Refute it at one input. -/
def fnMovedHandsWrong : ChangeSpec := { name := "fnMovedHands", fn := fun _ => fun
  | [d] => { results := [.lit (.bool false)], args := [d] }
  | _ => none }
def FnMovedHandsWrongFalsely : Prop := fnMovedHandsRow.holds Tryd.pinned (OpenSpec.ofChange fnMovedHandsWrong)

/-- 'laws.FnRightStates': WHATEVER THE INPUT: true; the input reads as it did. -/
def fnRightStatesSpec : ChangeSpec := { name := "fnRightStates", fn := fun _ => fun
  | [d] => { results := [.lit (.bool true)], args := [d] }
  | _ => none }
def fnRightStatesRow : OpenClaim := { program := "ytfddibdncniekaadoor", sum := "1dac0496c0fd732d7fb8f9676e00b0cdc55e5302490dd53acb3ec8b134e5c455", func := "loop.example/g00921/laws.FnRightStates", spec := "fnRightStates", inPlace := ["internal/bytealg.IndexByteString", "internal/bytealg.IndexString"], named := ["unicode/utf8.first", "unicode/utf8.acceptRanges", "internal/bytealg.MaxLen"], plainKeys := false, apart := false, laid := [("unicode/utf8.acceptRanges", laid_unicode_utf8_acceptRanges), ("unicode/utf8.first", laid_unicode_utf8_first)] }
def FnRightStatesSaid : Prop := fnRightStatesRow.holds Tryd.pinned (OpenSpec.ofChange fnRightStatesSpec)

/-- ITS FALSE NEIGHBOUR: 'it returns false'. Refute it at one input. -/
def fnRightStatesWrong : ChangeSpec := { name := "fnRightStates", fn := fun _ => fun
  | [d] => { results := [.lit (.bool false)], args := [d] }
  | _ => none }
def FnRightStatesWrongFalsely : Prop := fnRightStatesRow.holds Tryd.pinned (OpenSpec.ofChange fnRightStatesWrong)

/-- 'laws.FnHandPaths': WHATEVER THE INPUT: true; the input reads as it did. -/
def fnHandPathsSpec : ChangeSpec := { name := "fnHandPaths", fn := fun _ => fun
  | [d] => { results := [.lit (.bool true)], args := [d] }
  | _ => none }
def fnHandPathsRow : OpenClaim := { program := "ytfddibdncniekaadoor", sum := "1dac0496c0fd732d7fb8f9676e00b0cdc55e5302490dd53acb3ec8b134e5c455", func := "loop.example/g00921/laws.FnHandPaths", spec := "fnHandPaths", inPlace := ["internal/bytealg.IndexByteString", "internal/bytealg.IndexString"], unfollowed := true, recurses := true, named := ["unicode/utf8.first", "unicode/utf8.acceptRanges", "internal/bytealg.MaxLen"], plainKeys := false, apart := false, laid := [("unicode/utf8.acceptRanges", laid_unicode_utf8_acceptRanges), ("unicode/utf8.first", laid_unicode_utf8_first)] }
def FnHandPathsSaid : Prop := fnHandPathsRow.holds Tryd.pinned (OpenSpec.ofChange fnHandPathsSpec)

/-- ITS FALSE NEIGHBOUR: 'it returns false'. Refute it at one input. -/
def fnHandPathsWrong : ChangeSpec := { name := "fnHandPaths", fn := fun _ => fun
  | [d] => { results := [.lit (.bool false)], args := [d] }
  | _ => none }
def FnHandPathsWrongFalsely : Prop := fnHandPathsRow.holds Tryd.pinned (OpenSpec.ofChange fnHandPathsWrong)

/-- 'laws.FnExactReachableHands': WHATEVER THE INPUT: true; the input reads as it did. -/
def fnExactReachableHandsSpec : ChangeSpec := { name := "fnExactReachableHands", fn := fun _ => fun
  | [d1, d2, d3] => { results := [.lit (.bool true)], args := [d1, d2, d3] }
  | _ => none }
def fnExactReachableHandsRow : OpenClaim := { program := "ytfddibdncniekaadoor", sum := "1dac0496c0fd732d7fb8f9676e00b0cdc55e5302490dd53acb3ec8b134e5c455", func := "loop.example/g00921/laws.FnExactReachableHands", spec := "fnExactReachableHands", inPlace := ["internal/bytealg.IndexByteString", "internal/bytealg.IndexString"], unfollowed := true, recurses := true, named := ["unicode/utf8.first", "unicode/utf8.acceptRanges", "internal/bytealg.MaxLen"], plainKeys := false, apart := false, laid := [("unicode/utf8.acceptRanges", laid_unicode_utf8_acceptRanges), ("unicode/utf8.first", laid_unicode_utf8_first)] }
def FnExactReachableHandsSaid : Prop := fnExactReachableHandsRow.holds Tryd.pinned (OpenSpec.ofChange fnExactReachableHandsSpec)

/-- ITS FALSE NEIGHBOUR: 'it returns false'. Refute it at one input. -/
def fnExactReachableHandsWrong : ChangeSpec := { name := "fnExactReachableHands", fn := fun _ => fun
  | [d1, d2, d3] => { results := [.lit (.bool false)], args := [d1, d2, d3] }
  | _ => none }
def FnExactReachableHandsWrongFalsely : Prop := fnExactReachableHandsRow.holds Tryd.pinned (OpenSpec.ofChange fnExactReachableHandsWrong)

/-- 'laws.FnReachableHands': WHATEVER THE INPUT: true; the input reads as it did. -/
def fnReachableHandsSpec : ChangeSpec := { name := "fnReachableHands", fn := fun _ => fun
  | [d] => { results := [.lit (.bool true)], args := [d] }
  | _ => none }
def fnReachableHandsRow : OpenClaim := { program := "ytfddibdncniekaadoor", sum := "1dac0496c0fd732d7fb8f9676e00b0cdc55e5302490dd53acb3ec8b134e5c455", func := "loop.example/g00921/laws.FnReachableHands", spec := "fnReachableHands", inPlace := ["internal/bytealg.IndexByteString", "internal/bytealg.IndexString"], unfollowed := true, recurses := true, named := ["unicode/utf8.first", "unicode/utf8.acceptRanges", "internal/bytealg.MaxLen"], plainKeys := false, apart := false, laid := [("unicode/utf8.acceptRanges", laid_unicode_utf8_acceptRanges), ("unicode/utf8.first", laid_unicode_utf8_first)] }
def FnReachableHandsSaid : Prop := fnReachableHandsRow.holds Tryd.pinned (OpenSpec.ofChange fnReachableHandsSpec)

/-- ITS FALSE NEIGHBOUR: 'it returns false'. Refute it at one input. -/
def fnReachableHandsWrong : ChangeSpec := { name := "fnReachableHands", fn := fun _ => fun
  | [d] => { results := [.lit (.bool false)], args := [d] }
  | _ => none }
def FnReachableHandsWrongFalsely : Prop := fnReachableHandsRow.holds Tryd.pinned (OpenSpec.ofChange fnReachableHandsWrong)

/- THE SECOND FORM. 'bulk': how many values and letters a reading holds, each counted each time it is reached (what is shared counts as often as it is met; a slice's spare places count too). A statement '..UptoSaid' is the law's where the arguments, and the package variables that the reading takes, are together of bulk at most 1048576: NARROWER than '..Said'. Prove '..Said' where nothing that the law and all that it calls make is longer than what came in: it says more and counts as full. Else prove '..UptoSaid'. A law counts once. -/
mutual
def uptoBulk {H : Type} : DataW H → Nat
  | .lit (.string bytes) => bytes.length + 1
  | .lit _ => 1
  | .nil => 1
  | .ptr d => uptoBulk d + 1
  | .slice elems spare => uptoBulkAll elems + uptoBulkAll spare + 1
  | .agg parts => uptoBulkAll parts + 1
  | .iface _ d => uptoBulk d + 1
  | .map entries => uptoBulkEntries entries + 1
  | .held _ => 1
def uptoBulkAll {H : Type} : List (DataW H) → Nat
  | [] => 0
  | d :: r => uptoBulk d + uptoBulkAll r
def uptoBulkEntries {H : Type} : List (Lit × DataW H) → Nat
  | [] => 0
  | x :: r => uptoBulkEntry x + uptoBulkEntries r
def uptoBulkEntry {H : Type} : Lit × DataW H → Nat
  | (.string bytes, d) => bytes.length + uptoBulk d + 1
  | (_, d) => uptoBulk d + 1
 end
def uptoSmall : (H : Type) → List (DataW H) → Bool := fun _ ds => decide (uptoBulkAll ds ≤ 1048576)
def OpenSpec.upto (s : _root_.Go.ChangeSpec) : _root_.Go.OpenSpec := { _root_.Go.OpenSpec.ofChange s with cond := some uptoSmall }

/-- 'laws.FnExactMoveHands', WHERE WHAT IT READS IS OF BULK AT MOST 1048576: true; the input reads as it did. -/
def fnExactMoveHandsUptoRow : OpenClaim := { program := "ytfddibdncniekaadoor", sum := "1dac0496c0fd732d7fb8f9676e00b0cdc55e5302490dd53acb3ec8b134e5c455", func := "loop.example/g00921/laws.FnExactMoveHands", spec := "fnExactMoveHands", inPlace := ["internal/bytealg.IndexByteString", "internal/bytealg.IndexString"], named := ["unicode/utf8.first", "unicode/utf8.acceptRanges", "internal/bytealg.MaxLen"], plainKeys := false, apart := false, laid := [("unicode/utf8.acceptRanges", laid_unicode_utf8_acceptRanges), ("unicode/utf8.first", laid_unicode_utf8_first)], narrowed := true }
def FnExactMoveHandsUptoSaid : Prop := fnExactMoveHandsUptoRow.holds Tryd.pinned (OpenSpec.upto fnExactMoveHandsSpec)

/-- 'laws.FnExactHandsBetween', WHERE WHAT IT READS IS OF BULK AT MOST 1048576: true; the input reads as it did. -/
def fnExactHandsBetweenUptoRow : OpenClaim := { program := "ytfddibdncniekaadoor", sum := "1dac0496c0fd732d7fb8f9676e00b0cdc55e5302490dd53acb3ec8b134e5c455", func := "loop.example/g00921/laws.FnExactHandsBetween", spec := "fnExactHandsBetween", inPlace := ["internal/bytealg.IndexByteString", "internal/bytealg.IndexString"], unfollowed := true, recurses := true, named := ["unicode/utf8.first", "unicode/utf8.acceptRanges", "internal/bytealg.MaxLen"], plainKeys := false, apart := false, laid := [("unicode/utf8.acceptRanges", laid_unicode_utf8_acceptRanges), ("unicode/utf8.first", laid_unicode_utf8_first)], narrowed := true }
def FnExactHandsBetweenUptoSaid : Prop := fnExactHandsBetweenUptoRow.holds Tryd.pinned (OpenSpec.upto fnExactHandsBetweenSpec)

/-- 'laws.FnExactPathToRight', WHERE WHAT IT READS IS OF BULK AT MOST 1048576: true; the input reads as it did. -/
def fnExactPathToRightUptoRow : OpenClaim := { program := "ytfddibdncniekaadoor", sum := "1dac0496c0fd732d7fb8f9676e00b0cdc55e5302490dd53acb3ec8b134e5c455", func := "loop.example/g00921/laws.FnExactPathToRight", spec := "fnExactPathToRight", inPlace := ["internal/bytealg.IndexByteString", "internal/bytealg.IndexString"], unfollowed := true, recurses := true, named := ["unicode/utf8.first", "unicode/utf8.acceptRanges", "internal/bytealg.MaxLen"], plainKeys := false, apart := false, laid := [("unicode/utf8.acceptRanges", laid_unicode_utf8_acceptRanges), ("unicode/utf8.first", laid_unicode_utf8_first)], narrowed := true }
def FnExactPathToRightUptoSaid : Prop := fnExactPathToRightUptoRow.holds Tryd.pinned (OpenSpec.upto fnExactPathToRightSpec)

/-- 'laws.FnExactPathToWrong', WHERE WHAT IT READS IS OF BULK AT MOST 1048576: true; the input reads as it did. -/
def fnExactPathToWrongUptoRow : OpenClaim := { program := "ytfddibdncniekaadoor", sum := "1dac0496c0fd732d7fb8f9676e00b0cdc55e5302490dd53acb3ec8b134e5c455", func := "loop.example/g00921/laws.FnExactPathToWrong", spec := "fnExactPathToWrong", inPlace := ["internal/bytealg.IndexByteString", "internal/bytealg.IndexString"], unfollowed := true, recurses := true, named := ["unicode/utf8.first", "unicode/utf8.acceptRanges", "internal/bytealg.MaxLen"], plainKeys := false, apart := false, laid := [("unicode/utf8.acceptRanges", laid_unicode_utf8_acceptRanges), ("unicode/utf8.first", laid_unicode_utf8_first)], narrowed := true }
def FnExactPathToWrongUptoSaid : Prop := fnExactPathToWrongUptoRow.holds Tryd.pinned (OpenSpec.upto fnExactPathToWrongSpec)

/-- 'laws.FnMovedHands', WHERE WHAT IT READS IS OF BULK AT MOST 1048576: true; the input reads as it did. -/
def fnMovedHandsUptoRow : OpenClaim := { program := "ytfddibdncniekaadoor", sum := "1dac0496c0fd732d7fb8f9676e00b0cdc55e5302490dd53acb3ec8b134e5c455", func := "loop.example/g00921/laws.FnMovedHands", spec := "fnMovedHands", inPlace := ["internal/bytealg.IndexByteString", "internal/bytealg.IndexString"], named := ["unicode/utf8.first", "unicode/utf8.acceptRanges", "internal/bytealg.MaxLen"], plainKeys := false, apart := false, laid := [("unicode/utf8.acceptRanges", laid_unicode_utf8_acceptRanges), ("unicode/utf8.first", laid_unicode_utf8_first)], narrowed := true }
def FnMovedHandsUptoSaid : Prop := fnMovedHandsUptoRow.holds Tryd.pinned (OpenSpec.upto fnMovedHandsSpec)

/-- 'laws.FnRightStates', WHERE WHAT IT READS IS OF BULK AT MOST 1048576: true; the input reads as it did. -/
def fnRightStatesUptoRow : OpenClaim := { program := "ytfddibdncniekaadoor", sum := "1dac0496c0fd732d7fb8f9676e00b0cdc55e5302490dd53acb3ec8b134e5c455", func := "loop.example/g00921/laws.FnRightStates", spec := "fnRightStates", inPlace := ["internal/bytealg.IndexByteString", "internal/bytealg.IndexString"], named := ["unicode/utf8.first", "unicode/utf8.acceptRanges", "internal/bytealg.MaxLen"], plainKeys := false, apart := false, laid := [("unicode/utf8.acceptRanges", laid_unicode_utf8_acceptRanges), ("unicode/utf8.first", laid_unicode_utf8_first)], narrowed := true }
def FnRightStatesUptoSaid : Prop := fnRightStatesUptoRow.holds Tryd.pinned (OpenSpec.upto fnRightStatesSpec)

/-- 'laws.FnHandPaths', WHERE WHAT IT READS IS OF BULK AT MOST 1048576: true; the input reads as it did. -/
def fnHandPathsUptoRow : OpenClaim := { program := "ytfddibdncniekaadoor", sum := "1dac0496c0fd732d7fb8f9676e00b0cdc55e5302490dd53acb3ec8b134e5c455", func := "loop.example/g00921/laws.FnHandPaths", spec := "fnHandPaths", inPlace := ["internal/bytealg.IndexByteString", "internal/bytealg.IndexString"], unfollowed := true, recurses := true, named := ["unicode/utf8.first", "unicode/utf8.acceptRanges", "internal/bytealg.MaxLen"], plainKeys := false, apart := false, laid := [("unicode/utf8.acceptRanges", laid_unicode_utf8_acceptRanges), ("unicode/utf8.first", laid_unicode_utf8_first)], narrowed := true }
def FnHandPathsUptoSaid : Prop := fnHandPathsUptoRow.holds Tryd.pinned (OpenSpec.upto fnHandPathsSpec)

/-- 'laws.FnExactReachableHands', WHERE WHAT IT READS IS OF BULK AT MOST 1048576: true; the input reads as it did. -/
def fnExactReachableHandsUptoRow : OpenClaim := { program := "ytfddibdncniekaadoor", sum := "1dac0496c0fd732d7fb8f9676e00b0cdc55e5302490dd53acb3ec8b134e5c455", func := "loop.example/g00921/laws.FnExactReachableHands", spec := "fnExactReachableHands", inPlace := ["internal/bytealg.IndexByteString", "internal/bytealg.IndexString"], unfollowed := true, recurses := true, named := ["unicode/utf8.first", "unicode/utf8.acceptRanges", "internal/bytealg.MaxLen"], plainKeys := false, apart := false, laid := [("unicode/utf8.acceptRanges", laid_unicode_utf8_acceptRanges), ("unicode/utf8.first", laid_unicode_utf8_first)], narrowed := true }
def FnExactReachableHandsUptoSaid : Prop := fnExactReachableHandsUptoRow.holds Tryd.pinned (OpenSpec.upto fnExactReachableHandsSpec)

/-- 'laws.FnReachableHands', WHERE WHAT IT READS IS OF BULK AT MOST 1048576: true; the input reads as it did. -/
def fnReachableHandsUptoRow : OpenClaim := { program := "ytfddibdncniekaadoor", sum := "1dac0496c0fd732d7fb8f9676e00b0cdc55e5302490dd53acb3ec8b134e5c455", func := "loop.example/g00921/laws.FnReachableHands", spec := "fnReachableHands", inPlace := ["internal/bytealg.IndexByteString", "internal/bytealg.IndexString"], unfollowed := true, recurses := true, named := ["unicode/utf8.first", "unicode/utf8.acceptRanges", "internal/bytealg.MaxLen"], plainKeys := false, apart := false, laid := [("unicode/utf8.acceptRanges", laid_unicode_utf8_acceptRanges), ("unicode/utf8.first", laid_unicode_utf8_first)], narrowed := true }
def FnReachableHandsUptoSaid : Prop := fnReachableHandsUptoRow.holds Tryd.pinned (OpenSpec.upto fnReachableHandsSpec)

end Rows
end Go.Proofs.YtfddibdncniekaaDoor
