/-
  No cell of these rows narrows 'for every input' (looked for: loops, veiled, ifaces, maps, wideKeys, modest, calm, conditions, laid).
  DERIVED. THE GIVEN ROWS OF THIS SEAT. 4 by the template 'for every input the law returns true; each argument reads behind the call as it read before'; 0 by the template 'total and deterministic' (their statements: YtcffmkdjameokaaTotals.lean).
  GIVEN WITH THE SEED: the statements are not yours to turn. If you find one false, say at which input.
  Laid BY PROGRAM, IN A SANDBOX (cutbox-rows.mjs): the forced cells as the released guide's own fill.sh prints them over the translation fae76acf01690ea5… (all of the seat's roots in one cut). By AI agents, Wed Nov 11 2026. No macro, syntax, notation, axiom, sorry.
-/
import Derived.Test.YtcffmkdjameokaaChecked
import GoSem.Claim
import GoSem.ClaimJoined
import GoSem.ClaimMapViews
import Derived.JoinedTies
import Derived.KernelRfl
namespace Go.Proofs.Ytcffmkdjameokaa
/- THE CELL 'sum', in the pinned program and in every row, IS THE sha256 OF THE DUMP (.gsa) THAT YtcffmkdjameokaaProg.lean LOADS. Nothing in Lean hashes anything: it is a label: what it is worth is what the hold of that sum in a sandbox is worth. -/
noncomputable def Try.pinned : Pinned := { name := "ytcffmkdjameokaa", sum := "fae76acf01690ea5440e2570c2dbe84a057f93731c01f426161950509a7c126c", checked := Try.checked }
namespace Rows
def none {H : Type} : Left H := { results := [], args := [] }

/-- 'laws.FnExactValidHands': WHATEVER THE INPUT: true; the input reads as it did. -/
def fnExactValidHandsSpec : ChangeSpec := { name := "fnExactValidHands", fn := fun _ => fun
  | [d1, d2] => { results := [.lit (.bool true)], args := [d1, d2] }
  | _ => none }
def fnExactValidHandsRow : OpenClaim := { program := "ytcffmkdjameokaa", sum := "fae76acf01690ea5440e2570c2dbe84a057f93731c01f426161950509a7c126c", func := "loop.example/g00921/laws.FnExactValidHands", spec := "fnExactValidHands", apart := false }
def FnExactValidHandsSaid : Prop := fnExactValidHandsRow.holds Try.pinned (OpenSpec.ofChange fnExactValidHandsSpec)

/-- ITS FALSE NEIGHBOUR: 'it returns false'. Refute it at one input. -/
def fnExactValidHandsWrong : ChangeSpec := { name := "fnExactValidHands", fn := fun _ => fun
  | [d1, d2] => { results := [.lit (.bool false)], args := [d1, d2] }
  | _ => none }
def FnExactValidHandsWrongFalsely : Prop := fnExactValidHandsRow.holds Try.pinned (OpenSpec.ofChange fnExactValidHandsWrong)

/-- 'laws.FnExactStrikesRight': WHATEVER THE INPUT: true; the input reads as it did. -/
def fnExactStrikesRightSpec : ChangeSpec := { name := "fnExactStrikesRight", fn := fun _ => fun
  | [d1, d2] => { results := [.lit (.bool true)], args := [d1, d2] }
  | _ => none }
def fnExactStrikesRightRow : OpenClaim := { program := "ytcffmkdjameokaa", sum := "fae76acf01690ea5440e2570c2dbe84a057f93731c01f426161950509a7c126c", func := "loop.example/g00921/laws.FnExactStrikesRight", spec := "fnExactStrikesRight", apart := false }
def FnExactStrikesRightSaid : Prop := fnExactStrikesRightRow.holds Try.pinned (OpenSpec.ofChange fnExactStrikesRightSpec)

/-- ITS FALSE NEIGHBOUR: 'it returns false'. Refute it at one input. -/
def fnExactStrikesRightWrong : ChangeSpec := { name := "fnExactStrikesRight", fn := fun _ => fun
  | [d1, d2] => { results := [.lit (.bool false)], args := [d1, d2] }
  | _ => none }
def FnExactStrikesRightWrongFalsely : Prop := fnExactStrikesRightRow.holds Try.pinned (OpenSpec.ofChange fnExactStrikesRightWrong)

/-- 'laws.FnExactLiftsToRight': WHATEVER THE INPUT: true; the input reads as it did. -/
def fnExactLiftsToRightSpec : ChangeSpec := { name := "fnExactLiftsToRight", fn := fun _ => fun
  | [d1, d2] => { results := [.lit (.bool true)], args := [d1, d2] }
  | _ => none }
def fnExactLiftsToRightRow : OpenClaim := { program := "ytcffmkdjameokaa", sum := "fae76acf01690ea5440e2570c2dbe84a057f93731c01f426161950509a7c126c", func := "loop.example/g00921/laws.FnExactLiftsToRight", spec := "fnExactLiftsToRight", apart := false }
def FnExactLiftsToRightSaid : Prop := fnExactLiftsToRightRow.holds Try.pinned (OpenSpec.ofChange fnExactLiftsToRightSpec)

/-- ITS FALSE NEIGHBOUR: 'it returns false'. Refute it at one input. -/
def fnExactLiftsToRightWrong : ChangeSpec := { name := "fnExactLiftsToRight", fn := fun _ => fun
  | [d1, d2] => { results := [.lit (.bool false)], args := [d1, d2] }
  | _ => none }
def FnExactLiftsToRightWrongFalsely : Prop := fnExactLiftsToRightRow.holds Try.pinned (OpenSpec.ofChange fnExactLiftsToRightWrong)

/-- 'laws.FnExactRightStates': WHATEVER THE INPUT: true; the input reads as it did. -/
def fnExactRightStatesSpec : ChangeSpec := { name := "fnExactRightStates", fn := fun _ => fun
  | [d] => { results := [.lit (.bool true)], args := [d] }
  | _ => none }
def fnExactRightStatesRow : OpenClaim := { program := "ytcffmkdjameokaa", sum := "fae76acf01690ea5440e2570c2dbe84a057f93731c01f426161950509a7c126c", func := "loop.example/g00921/laws.FnExactRightStates", spec := "fnExactRightStates", apart := false }
def FnExactRightStatesSaid : Prop := fnExactRightStatesRow.holds Try.pinned (OpenSpec.ofChange fnExactRightStatesSpec)

/-- ITS FALSE NEIGHBOUR: 'it returns false'. Refute it at one input. -/
def fnExactRightStatesWrong : ChangeSpec := { name := "fnExactRightStates", fn := fun _ => fun
  | [d] => { results := [.lit (.bool false)], args := [d] }
  | _ => none }
def FnExactRightStatesWrongFalsely : Prop := fnExactRightStatesRow.holds Try.pinned (OpenSpec.ofChange fnExactRightStatesWrong)

/- THE SECOND FORM. 'bulk': how many values and letters a reading holds, each counted each time it is reached (what is shared counts as often as it is met; a slice's spare places count too). A statement '..UptoSaid' is the law's where the arguments, and the package variables that the reading takes, are together of bulk at most 1048576: NARROWER than '..Said'. Prove '..Said' where nothing that the law and all that it calls make is longer than what came in: it says more and counts as full. Else prove '..UptoSaid'. A law counts once. -/
mutual
def uptoBulk {H : Type} : DataW H → Nat
  | .lit (.string bytes) => bytes.length + 1
  | .lit _ => 1
  | .nil => 1
  | .ptr d => uptoBulk d + 1
  | .slice elems spare => uptoBulkAll elems + uptoBulkAll spare + 1
  | .agg parts => uptoBulkAll parts + 1
  | .iface _ d => uptoBulk d + 1
  | .map entries => uptoBulkEntries entries + 1
  | .held _ => 1
def uptoBulkAll {H : Type} : List (DataW H) → Nat
  | [] => 0
  | d :: r => uptoBulk d + uptoBulkAll r
def uptoBulkEntries {H : Type} : List (Lit × DataW H) → Nat
  | [] => 0
  | x :: r => uptoBulkEntry x + uptoBulkEntries r
def uptoBulkEntry {H : Type} : Lit × DataW H → Nat
  | (.string bytes, d) => bytes.length + uptoBulk d + 1
  | (_, d) => uptoBulk d + 1
 end
def uptoSmall : (H : Type) → List (DataW H) → Bool := fun _ ds => decide (uptoBulkAll ds ≤ 1048576)
def OpenSpec.upto (s : _root_.Go.ChangeSpec) : _root_.Go.OpenSpec := { _root_.Go.OpenSpec.ofChange s with cond := some uptoSmall }

/-- 'laws.FnExactValidHands', WHERE WHAT IT READS IS OF BULK AT MOST 1048576: true; the input reads as it did. -/
def fnExactValidHandsUptoRow : OpenClaim := { program := "ytcffmkdjameokaa", sum := "fae76acf01690ea5440e2570c2dbe84a057f93731c01f426161950509a7c126c", func := "loop.example/g00921/laws.FnExactValidHands", spec := "fnExactValidHands", apart := false, narrowed := true }
def FnExactValidHandsUptoSaid : Prop := fnExactValidHandsUptoRow.holds Try.pinned (OpenSpec.upto fnExactValidHandsSpec)

/-- 'laws.FnExactStrikesRight', WHERE WHAT IT READS IS OF BULK AT MOST 1048576: true; the input reads as it did. -/
def fnExactStrikesRightUptoRow : OpenClaim := { program := "ytcffmkdjameokaa", sum := "fae76acf01690ea5440e2570c2dbe84a057f93731c01f426161950509a7c126c", func := "loop.example/g00921/laws.FnExactStrikesRight", spec := "fnExactStrikesRight", apart := false, narrowed := true }
def FnExactStrikesRightUptoSaid : Prop := fnExactStrikesRightUptoRow.holds Try.pinned (OpenSpec.upto fnExactStrikesRightSpec)

/-- 'laws.FnExactLiftsToRight', WHERE WHAT IT READS IS OF BULK AT MOST 1048576: true; the input reads as it did. -/
def fnExactLiftsToRightUptoRow : OpenClaim := { program := "ytcffmkdjameokaa", sum := "fae76acf01690ea5440e2570c2dbe84a057f93731c01f426161950509a7c126c", func := "loop.example/g00921/laws.FnExactLiftsToRight", spec := "fnExactLiftsToRight", apart := false, narrowed := true }
def FnExactLiftsToRightUptoSaid : Prop := fnExactLiftsToRightUptoRow.holds Try.pinned (OpenSpec.upto fnExactLiftsToRightSpec)

/-- 'laws.FnExactRightStates', WHERE WHAT IT READS IS OF BULK AT MOST 1048576: true; the input reads as it did. -/
def fnExactRightStatesUptoRow : OpenClaim := { program := "ytcffmkdjameokaa", sum := "fae76acf01690ea5440e2570c2dbe84a057f93731c01f426161950509a7c126c", func := "loop.example/g00921/laws.FnExactRightStates", spec := "fnExactRightStates", apart := false, narrowed := true }
def FnExactRightStatesUptoSaid : Prop := fnExactRightStatesUptoRow.holds Try.pinned (OpenSpec.upto fnExactRightStatesSpec)

end Rows
end Go.Proofs.Ytcffmkdjameokaa
