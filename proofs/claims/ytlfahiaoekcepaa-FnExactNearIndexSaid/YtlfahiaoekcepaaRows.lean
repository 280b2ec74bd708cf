/-
  No cell of these rows narrows 'for every input' (looked for: loops, veiled, ifaces, maps, wideKeys, modest, calm, conditions, laid).
  DERIVED. THE GIVEN ROWS OF THIS SEAT. 8 by the template 'for every input the law returns true; each argument reads behind the call as it read before'; 0 by the template 'total and deterministic' (their statements: YtlfahiaoekcepaaTotals.lean).
  GIVEN WITH THE SEED: the statements are not yours to turn. If you find one false, say at which input.
  Laid BY PROGRAM, IN A SANDBOX (cutbox-rows.mjs): the forced cells as the released guide's own fill.sh prints them over the translation e1b52b8c9a67dbca… (all of the seat's roots in one cut). By AI agents, Wed Nov 11 2026. No macro, syntax, notation, axiom, sorry.
-/
import Derived.Test.YtlfahiaoekcepaaChecked
import GoSem.Claim
import GoSem.ClaimJoined
import GoSem.ClaimMapViews
import Derived.JoinedTies
import Derived.KernelRfl
namespace Go.Proofs.Ytlfahiaoekcepaa
/- THE CELL 'sum', in the pinned program and in every row, IS THE sha256 OF THE DUMP (.gsa) THAT YtlfahiaoekcepaaProg.lean LOADS. Nothing in Lean hashes anything: it is a label: what it is worth is what the hold of that sum in a sandbox is worth. -/
noncomputable def Try.pinned : Pinned := { name := "ytlfahiaoekcepaa", sum := "e1b52b8c9a67dbcacc598ff0598ca90b0f0a71d1c3dc7705dfb89f5e6ba4062d", checked := Try.checked }
namespace Rows
def none {H : Type} : Left H := { results := [], args := [] }

/-- 'laws.FnExactValidDivider': WHATEVER THE INPUT: true; the input reads as it did. -/
def fnExactValidDividerSpec : ChangeSpec := { name := "fnExactValidDivider", fn := fun _ => fun
  | [d] => { results := [.lit (.bool true)], args := [d] }
  | _ => none }
def fnExactValidDividerRow : OpenClaim := { program := "ytlfahiaoekcepaa", sum := "e1b52b8c9a67dbcacc598ff0598ca90b0f0a71d1c3dc7705dfb89f5e6ba4062d", func := "loop.example/g00921/laws.FnExactValidDivider", spec := "fnExactValidDivider", apart := false }
def FnExactValidDividerSaid : Prop := fnExactValidDividerRow.holds Try.pinned (OpenSpec.ofChange fnExactValidDividerSpec)

/-- ITS FALSE NEIGHBOUR: 'it returns false'. Refute it at one input. -/
def fnExactValidDividerWrong : ChangeSpec := { name := "fnExactValidDivider", fn := fun _ => fun
  | [d] => { results := [.lit (.bool false)], args := [d] }
  | _ => none }
def FnExactValidDividerWrongFalsely : Prop := fnExactValidDividerRow.holds Try.pinned (OpenSpec.ofChange fnExactValidDividerWrong)

/-- 'laws.FnExactValidIndex': WHATEVER THE INPUT: true; the input reads as it did. -/
def fnExactValidIndexSpec : ChangeSpec := { name := "fnExactValidIndex", fn := fun _ => fun
  | [d1, d2] => { results := [.lit (.bool true)], args := [d1, d2] }
  | _ => none }
def fnExactValidIndexRow : OpenClaim := { program := "ytlfahiaoekcepaa", sum := "e1b52b8c9a67dbcacc598ff0598ca90b0f0a71d1c3dc7705dfb89f5e6ba4062d", func := "loop.example/g00921/laws.FnExactValidIndex", spec := "fnExactValidIndex", apart := false }
def FnExactValidIndexSaid : Prop := fnExactValidIndexRow.holds Try.pinned (OpenSpec.ofChange fnExactValidIndexSpec)

/-- ITS FALSE NEIGHBOUR: 'it returns false'. Refute it at one input. -/
def fnExactValidIndexWrong : ChangeSpec := { name := "fnExactValidIndex", fn := fun _ => fun
  | [d1, d2] => { results := [.lit (.bool false)], args := [d1, d2] }
  | _ => none }
def FnExactValidIndexWrongFalsely : Prop := fnExactValidIndexRow.holds Try.pinned (OpenSpec.ofChange fnExactValidIndexWrong)

/-- 'laws.FnExactHolesAfter': WHATEVER THE INPUT: true; the input reads as it did. -/
def fnExactHolesAfterSpec : ChangeSpec := { name := "fnExactHolesAfter", fn := fun _ => fun
  | [d1, d2, d3] => { results := [.lit (.bool true)], args := [d1, d2, d3] }
  | _ => none }
def fnExactHolesAfterRow : OpenClaim := { program := "ytlfahiaoekcepaa", sum := "e1b52b8c9a67dbcacc598ff0598ca90b0f0a71d1c3dc7705dfb89f5e6ba4062d", func := "loop.example/g00921/laws.FnExactHolesAfter", spec := "fnExactHolesAfter", apart := false }
def FnExactHolesAfterSaid : Prop := fnExactHolesAfterRow.holds Try.pinned (OpenSpec.ofChange fnExactHolesAfterSpec)

/-- ITS FALSE NEIGHBOUR: 'it returns false'. Refute it at one input. -/
def fnExactHolesAfterWrong : ChangeSpec := { name := "fnExactHolesAfter", fn := fun _ => fun
  | [d1, d2, d3] => { results := [.lit (.bool false)], args := [d1, d2, d3] }
  | _ => none }
def FnExactHolesAfterWrongFalsely : Prop := fnExactHolesAfterRow.holds Try.pinned (OpenSpec.ofChange fnExactHolesAfterWrong)

/-- 'laws.FnExactExactIndex': WHATEVER THE INPUT: true; the input reads as it did. -/
def fnExactExactIndexSpec : ChangeSpec := { name := "fnExactExactIndex", fn := fun _ => fun
  | [d1, d2] => { results := [.lit (.bool true)], args := [d1, d2] }
  | _ => none }
def fnExactExactIndexRow : OpenClaim := { program := "ytlfahiaoekcepaa", sum := "e1b52b8c9a67dbcacc598ff0598ca90b0f0a71d1c3dc7705dfb89f5e6ba4062d", func := "loop.example/g00921/laws.FnExactExactIndex", spec := "fnExactExactIndex", apart := false }
def FnExactExactIndexSaid : Prop := fnExactExactIndexRow.holds Try.pinned (OpenSpec.ofChange fnExactExactIndexSpec)

/-- ITS FALSE NEIGHBOUR: 'it returns false'. Refute it at one input. -/
def fnExactExactIndexWrong : ChangeSpec := { name := "fnExactExactIndex", fn := fun _ => fun
  | [d1, d2] => { results := [.lit (.bool false)], args := [d1, d2] }
  | _ => none }
def FnExactExactIndexWrongFalsely : Prop := fnExactExactIndexRow.holds Try.pinned (OpenSpec.ofChange fnExactExactIndexWrong)

/-- 'laws.FnExactClosesAfter': WHATEVER THE INPUT: true; the input reads as it did. -/
def fnExactClosesAfterSpec : ChangeSpec := { name := "fnExactClosesAfter", fn := fun _ => fun
  | [d1, d2] => { results := [.lit (.bool true)], args := [d1, d2] }
  | _ => none }
def fnExactClosesAfterRow : OpenClaim := { program := "ytlfahiaoekcepaa", sum := "e1b52b8c9a67dbcacc598ff0598ca90b0f0a71d1c3dc7705dfb89f5e6ba4062d", func := "loop.example/g00921/laws.FnExactClosesAfter", spec := "fnExactClosesAfter", apart := false }
def FnExactClosesAfterSaid : Prop := fnExactClosesAfterRow.holds Try.pinned (OpenSpec.ofChange fnExactClosesAfterSpec)

/-- ITS FALSE NEIGHBOUR: 'it returns false'. Refute it at one input. -/
def fnExactClosesAfterWrong : ChangeSpec := { name := "fnExactClosesAfter", fn := fun _ => fun
  | [d1, d2] => { results := [.lit (.bool false)], args := [d1, d2] }
  | _ => none }
def FnExactClosesAfterWrongFalsely : Prop := fnExactClosesAfterRow.holds Try.pinned (OpenSpec.ofChange fnExactClosesAfterWrong)

/-- 'laws.FnExactExactDivisions': WHATEVER THE INPUT: true; the input reads as it did. -/
def fnExactExactDivisionsSpec : ChangeSpec := { name := "fnExactExactDivisions", fn := fun _ => fun
  | [d1, d2] => { results := [.lit (.bool true)], args := [d1, d2] }
  | _ => none }
def fnExactExactDivisionsRow : OpenClaim := { program := "ytlfahiaoekcepaa", sum := "e1b52b8c9a67dbcacc598ff0598ca90b0f0a71d1c3dc7705dfb89f5e6ba4062d", func := "loop.example/g00921/laws.FnExactExactDivisions", spec := "fnExactExactDivisions", apart := false }
def FnExactExactDivisionsSaid : Prop := fnExactExactDivisionsRow.holds Try.pinned (OpenSpec.ofChange fnExactExactDivisionsSpec)

/-- ITS FALSE NEIGHBOUR: 'it returns false'. Refute it at one input. -/
def fnExactExactDivisionsWrong : ChangeSpec := { name := "fnExactExactDivisions", fn := fun _ => fun
  | [d1, d2] => { results := [.lit (.bool false)], args := [d1, d2] }
  | _ => none }
def FnExactExactDivisionsWrongFalsely : Prop := fnExactExactDivisionsRow.holds Try.pinned (OpenSpec.ofChange fnExactExactDivisionsWrong)

/-- 'laws.FnExactSpreadHoles': WHATEVER THE INPUT: true; the input reads as it did. -/
def fnExactSpreadHolesSpec : ChangeSpec := { name := "fnExactSpreadHoles", fn := fun _ => fun
  | [d1, d2, d3] => { results := [.lit (.bool true)], args := [d1, d2, d3] }
  | _ => none }
def fnExactSpreadHolesRow : OpenClaim := { program := "ytlfahiaoekcepaa", sum := "e1b52b8c9a67dbcacc598ff0598ca90b0f0a71d1c3dc7705dfb89f5e6ba4062d", func := "loop.example/g00921/laws.FnExactSpreadHoles", spec := "fnExactSpreadHoles", apart := false }
def FnExactSpreadHolesSaid : Prop := fnExactSpreadHolesRow.holds Try.pinned (OpenSpec.ofChange fnExactSpreadHolesSpec)

/-- ITS FALSE NEIGHBOUR: 'it returns false'. Refute it at one input. -/
def fnExactSpreadHolesWrong : ChangeSpec := { name := "fnExactSpreadHoles", fn := fun _ => fun
  | [d1, d2, d3] => { results := [.lit (.bool false)], args := [d1, d2, d3] }
  | _ => none }
def FnExactSpreadHolesWrongFalsely : Prop := fnExactSpreadHolesRow.holds Try.pinned (OpenSpec.ofChange fnExactSpreadHolesWrong)

/-- 'laws.FnExactNearIndex': WHATEVER THE INPUT: true; the input reads as it did. -/
def fnExactNearIndexSpec : ChangeSpec := { name := "fnExactNearIndex", fn := fun _ => fun
  | [d1, d2] => { results := [.lit (.bool true)], args := [d1, d2] }
  | _ => none }
def fnExactNearIndexRow : OpenClaim := { program := "ytlfahiaoekcepaa", sum := "e1b52b8c9a67dbcacc598ff0598ca90b0f0a71d1c3dc7705dfb89f5e6ba4062d", func := "loop.example/g00921/laws.FnExactNearIndex", spec := "fnExactNearIndex", apart := false }
def FnExactNearIndexSaid : Prop := fnExactNearIndexRow.holds Try.pinned (OpenSpec.ofChange fnExactNearIndexSpec)

/-- ITS FALSE NEIGHBOUR: 'it returns false'. Refute it at one input. -/
def fnExactNearIndexWrong : ChangeSpec := { name := "fnExactNearIndex", fn := fun _ => fun
  | [d1, d2] => { results := [.lit (.bool false)], args := [d1, d2] }
  | _ => none }
def FnExactNearIndexWrongFalsely : Prop := fnExactNearIndexRow.holds Try.pinned (OpenSpec.ofChange fnExactNearIndexWrong)

/- THE SECOND FORM. 'bulk': how many values and letters a reading holds, each counted each time it is reached (what is shared counts as often as it is met; a slice's spare places count too). A statement '..UptoSaid' is the law's where the arguments, and the package variables that the reading takes, are together of bulk at most 1048576: NARROWER than '..Said'. Prove '..Said' where nothing that the law and all that it calls make is longer than what came in: it says more and counts as full. Else prove '..UptoSaid'. A law counts once. -/
mutual
def uptoBulk {H : Type} : DataW H → Nat
  | .lit (.string bytes) => bytes.length + 1
  | .lit _ => 1
  | .nil => 1
  | .ptr d => uptoBulk d + 1
  | .slice elems spare => uptoBulkAll elems + uptoBulkAll spare + 1
  | .agg parts => uptoBulkAll parts + 1
  | .iface _ d => uptoBulk d + 1
  | .map entries => uptoBulkEntries entries + 1
  | .held _ => 1
def uptoBulkAll {H : Type} : List (DataW H) → Nat
  | [] => 0
  | d :: r => uptoBulk d + uptoBulkAll r
def uptoBulkEntries {H : Type} : List (Lit × DataW H) → Nat
  | [] => 0
  | x :: r => uptoBulkEntry x + uptoBulkEntries r
def uptoBulkEntry {H : Type} : Lit × DataW H → Nat
  | (.string bytes, d) => bytes.length + uptoBulk d + 1
  | (_, d) => uptoBulk d + 1
 end
def uptoSmall : (H : Type) → List (DataW H) → Bool := fun _ ds => decide (uptoBulkAll ds ≤ 1048576)
def OpenSpec.upto (s : _root_.Go.ChangeSpec) : _root_.Go.OpenSpec := { _root_.Go.OpenSpec.ofChange s with cond := some uptoSmall }

/-- 'laws.FnExactValidDivider', WHERE WHAT IT READS IS OF BULK AT MOST 1048576: true; the input reads as it did. -/
def fnExactValidDividerUptoRow : OpenClaim := { program := "ytlfahiaoekcepaa", sum := "e1b52b8c9a67dbcacc598ff0598ca90b0f0a71d1c3dc7705dfb89f5e6ba4062d", func := "loop.example/g00921/laws.FnExactValidDivider", spec := "fnExactValidDivider", apart := false, narrowed := true }
def FnExactValidDividerUptoSaid : Prop := fnExactValidDividerUptoRow.holds Try.pinned (OpenSpec.upto fnExactValidDividerSpec)

/-- 'laws.FnExactValidIndex', WHERE WHAT IT READS IS OF BULK AT MOST 1048576: true; the input reads as it did. -/
def fnExactValidIndexUptoRow : OpenClaim := { program := "ytlfahiaoekcepaa", sum := "e1b52b8c9a67dbcacc598ff0598ca90b0f0a71d1c3dc7705dfb89f5e6ba4062d", func := "loop.example/g00921/laws.FnExactValidIndex", spec := "fnExactValidIndex", apart := false, narrowed := true }
def FnExactValidIndexUptoSaid : Prop := fnExactValidIndexUptoRow.holds Try.pinned (OpenSpec.upto fnExactValidIndexSpec)

/-- 'laws.FnExactHolesAfter', WHERE WHAT IT READS IS OF BULK AT MOST 1048576: true; the input reads as it did. -/
def fnExactHolesAfterUptoRow : OpenClaim := { program := "ytlfahiaoekcepaa", sum := "e1b52b8c9a67dbcacc598ff0598ca90b0f0a71d1c3dc7705dfb89f5e6ba4062d", func := "loop.example/g00921/laws.FnExactHolesAfter", spec := "fnExactHolesAfter", apart := false, narrowed := true }
def FnExactHolesAfterUptoSaid : Prop := fnExactHolesAfterUptoRow.holds Try.pinned (OpenSpec.upto fnExactHolesAfterSpec)

/-- 'laws.FnExactExactIndex', WHERE WHAT IT READS IS OF BULK AT MOST 1048576: true; the input reads as it did. -/
def fnExactExactIndexUptoRow : OpenClaim := { program := "ytlfahiaoekcepaa", sum := "e1b52b8c9a67dbcacc598ff0598ca90b0f0a71d1c3dc7705dfb89f5e6ba4062d", func := "loop.example/g00921/laws.FnExactExactIndex", spec := "fnExactExactIndex", apart := false, narrowed := true }
def FnExactExactIndexUptoSaid : Prop := fnExactExactIndexUptoRow.holds Try.pinned (OpenSpec.upto fnExactExactIndexSpec)

/-- 'laws.FnExactClosesAfter', WHERE WHAT IT READS IS OF BULK AT MOST 1048576: true; the input reads as it did. -/
def fnExactClosesAfterUptoRow : OpenClaim := { program := "ytlfahiaoekcepaa", sum := "e1b52b8c9a67dbcacc598ff0598ca90b0f0a71d1c3dc7705dfb89f5e6ba4062d", func := "loop.example/g00921/laws.FnExactClosesAfter", spec := "fnExactClosesAfter", apart := false, narrowed := true }
def FnExactClosesAfterUptoSaid : Prop := fnExactClosesAfterUptoRow.holds Try.pinned (OpenSpec.upto fnExactClosesAfterSpec)

/-- 'laws.FnExactExactDivisions', WHERE WHAT IT READS IS OF BULK AT MOST 1048576: true; the input reads as it did. -/
def fnExactExactDivisionsUptoRow : OpenClaim := { program := "ytlfahiaoekcepaa", sum := "e1b52b8c9a67dbcacc598ff0598ca90b0f0a71d1c3dc7705dfb89f5e6ba4062d", func := "loop.example/g00921/laws.FnExactExactDivisions", spec := "fnExactExactDivisions", apart := false, narrowed := true }
def FnExactExactDivisionsUptoSaid : Prop := fnExactExactDivisionsUptoRow.holds Try.pinned (OpenSpec.upto fnExactExactDivisionsSpec)

/-- 'laws.FnExactSpreadHoles', WHERE WHAT IT READS IS OF BULK AT MOST 1048576: true; the input reads as it did. -/
def fnExactSpreadHolesUptoRow : OpenClaim := { program := "ytlfahiaoekcepaa", sum := "e1b52b8c9a67dbcacc598ff0598ca90b0f0a71d1c3dc7705dfb89f5e6ba4062d", func := "loop.example/g00921/laws.FnExactSpreadHoles", spec := "fnExactSpreadHoles", apart := false, narrowed := true }
def FnExactSpreadHolesUptoSaid : Prop := fnExactSpreadHolesUptoRow.holds Try.pinned (OpenSpec.upto fnExactSpreadHolesSpec)

/-- 'laws.FnExactNearIndex', WHERE WHAT IT READS IS OF BULK AT MOST 1048576: true; the input reads as it did. -/
def fnExactNearIndexUptoRow : OpenClaim := { program := "ytlfahiaoekcepaa", sum := "e1b52b8c9a67dbcacc598ff0598ca90b0f0a71d1c3dc7705dfb89f5e6ba4062d", func := "loop.example/g00921/laws.FnExactNearIndex", spec := "fnExactNearIndex", apart := false, narrowed := true }
def FnExactNearIndexUptoSaid : Prop := fnExactNearIndexUptoRow.holds Try.pinned (OpenSpec.upto fnExactNearIndexSpec)

end Rows
end Go.Proofs.Ytlfahiaoekcepaa
