/-
  No cell of these rows narrows 'for every input' (looked for: loops, veiled, ifaces, maps, wideKeys, modest, calm, conditions, laid).
  DERIVED. THE GIVEN ROWS OF THIS SEAT. 9 by the template 'for every input the law returns true; each argument reads behind the call as it read before'; 0 by the template 'total and deterministic' (their statements: YtmjpjechmojkeaaTotals.lean).
  GIVEN WITH THE SEED: the statements are not yours to turn. If you find one false, say at which input.
  Laid BY PROGRAM, IN A SANDBOX (cutbox-rows.mjs): the forced cells as the released guide's own fill.sh prints them over the translation 658fcda3334e2da5… (all of the seat's roots in one cut). By AI agents, Wed Nov 11 2026. No macro, syntax, notation, axiom, sorry.
-/
import Derived.Test.YtmjpjechmojkeaaChecked
import GoSem.Claim
import GoSem.ClaimJoined
import GoSem.ClaimMapViews
import Derived.JoinedTies
import Derived.KernelRfl
namespace Go.Proofs.Ytmjpjechmojkeaa
/- THE CELL 'sum', in the pinned program and in every row, IS THE sha256 OF THE DUMP (.gsa) THAT YtmjpjechmojkeaaProg.lean LOADS. Nothing in Lean hashes anything: it is a label: what it is worth is what the hold of that sum in a sandbox is worth. -/
noncomputable def Try.pinned : Pinned := { name := "ytmjpjechmojkeaa", sum := "658fcda3334e2da5d964fa88e0a5e95761c44f8c03261750250537b2a91e6d8a", checked := Try.checked }
namespace Rows
def none {H : Type} : Left H := { results := [], args := [] }

/-- 'laws.FnExactQuarterStep': WHATEVER THE INPUT: true; the input reads as it did. -/
def fnExactQuarterStepSpec : ChangeSpec := { name := "fnExactQuarterStep", fn := fun _ => fun
  | [d1, d2] => { results := [.lit (.bool true)], args := [d1, d2] }
  | _ => none }
def fnExactQuarterStepRow : OpenClaim := { program := "ytmjpjechmojkeaa", sum := "658fcda3334e2da5d964fa88e0a5e95761c44f8c03261750250537b2a91e6d8a", func := "loop.example/g00921/laws.FnExactQuarterStep", spec := "fnExactQuarterStep", apart := false }
def FnExactQuarterStepSaid : Prop := fnExactQuarterStepRow.holds Try.pinned (OpenSpec.ofChange fnExactQuarterStepSpec)

/-- ITS FALSE NEIGHBOUR: 'it returns false'. Refute it at one input. -/
def fnExactQuarterStepWrong : ChangeSpec := { name := "fnExactQuarterStep", fn := fun _ => fun
  | [d1, d2] => { results := [.lit (.bool false)], args := [d1, d2] }
  | _ => none }
def FnExactQuarterStepWrongFalsely : Prop := fnExactQuarterStepRow.holds Try.pinned (OpenSpec.ofChange fnExactQuarterStepWrong)

/-- 'laws.FnExactQuartersWrong': WHATEVER THE INPUT: true; the input reads as it did. -/
def fnExactQuartersWrongSpec : ChangeSpec := { name := "fnExactQuartersWrong", fn := fun _ => fun
  | [d1, d2] => { results := [.lit (.bool true)], args := [d1, d2] }
  | _ => none }
def fnExactQuartersWrongRow : OpenClaim := { program := "ytmjpjechmojkeaa", sum := "658fcda3334e2da5d964fa88e0a5e95761c44f8c03261750250537b2a91e6d8a", func := "loop.example/g00921/laws.FnExactQuartersWrong", spec := "fnExactQuartersWrong", apart := false }
def FnExactQuartersWrongSaid : Prop := fnExactQuartersWrongRow.holds Try.pinned (OpenSpec.ofChange fnExactQuartersWrongSpec)

/-- ITS FALSE NEIGHBOUR: 'it returns false'. Refute it at one input. -/
def fnExactQuartersWrongWrong : ChangeSpec := { name := "fnExactQuartersWrong", fn := fun _ => fun
  | [d1, d2] => { results := [.lit (.bool false)], args := [d1, d2] }
  | _ => none }
def FnExactQuartersWrongWrongFalsely : Prop := fnExactQuartersWrongRow.holds Try.pinned (OpenSpec.ofChange fnExactQuartersWrongWrong)

/-- 'laws.FnExactQuarterRun': WHATEVER THE INPUT: true; the input reads as it did. -/
def fnExactQuarterRunSpec : ChangeSpec := { name := "fnExactQuarterRun", fn := fun _ => fun
  | [d1, d2, d3] => { results := [.lit (.bool true)], args := [d1, d2, d3] }
  | _ => none }
def fnExactQuarterRunRow : OpenClaim := { program := "ytmjpjechmojkeaa", sum := "658fcda3334e2da5d964fa88e0a5e95761c44f8c03261750250537b2a91e6d8a", func := "loop.example/g00921/laws.FnExactQuarterRun", spec := "fnExactQuarterRun", apart := false }
def FnExactQuarterRunSaid : Prop := fnExactQuarterRunRow.holds Try.pinned (OpenSpec.ofChange fnExactQuarterRunSpec)

/-- ITS FALSE NEIGHBOUR: 'it returns false'. Refute it at one input. -/
def fnExactQuarterRunWrong : ChangeSpec := { name := "fnExactQuarterRun", fn := fun _ => fun
  | [d1, d2, d3] => { results := [.lit (.bool false)], args := [d1, d2, d3] }
  | _ => none }
def FnExactQuarterRunWrongFalsely : Prop := fnExactQuarterRunRow.holds Try.pinned (OpenSpec.ofChange fnExactQuarterRunWrong)

/-- 'laws.FnQuarters': WHATEVER THE INPUT: true; the input reads as it did. -/
def fnQuartersSpec : ChangeSpec := { name := "fnQuarters", fn := fun _ => fun
  | [d] => { results := [.lit (.bool true)], args := [d] }
  | _ => none }
def fnQuartersRow : OpenClaim := { program := "ytmjpjechmojkeaa", sum := "658fcda3334e2da5d964fa88e0a5e95761c44f8c03261750250537b2a91e6d8a", func := "loop.example/g00921/laws.FnQuarters", spec := "fnQuarters", apart := false }
def FnQuartersSaid : Prop := fnQuartersRow.holds Try.pinned (OpenSpec.ofChange fnQuartersSpec)

/-- ITS FALSE NEIGHBOUR: 'it returns false'. Refute it at one input. -/
def fnQuartersWrong : ChangeSpec := { name := "fnQuarters", fn := fun _ => fun
  | [d] => { results := [.lit (.bool false)], args := [d] }
  | _ => none }
def FnQuartersWrongFalsely : Prop := fnQuartersRow.holds Try.pinned (OpenSpec.ofChange fnQuartersWrong)

/-- 'laws.FnExactSameBarrel': WHATEVER THE INPUT: true; the input reads as it did. -/
def fnExactSameBarrelSpec : ChangeSpec := { name := "fnExactSameBarrel", fn := fun _ => fun
  | [d1, d2] => { results := [.lit (.bool true)], args := [d1, d2] }
  | _ => none }
def fnExactSameBarrelRow : OpenClaim := { program := "ytmjpjechmojkeaa", sum := "658fcda3334e2da5d964fa88e0a5e95761c44f8c03261750250537b2a91e6d8a", func := "loop.example/g00921/laws.FnExactSameBarrel", spec := "fnExactSameBarrel", apart := false }
def FnExactSameBarrelSaid : Prop := fnExactSameBarrelRow.holds Try.pinned (OpenSpec.ofChange fnExactSameBarrelSpec)

/-- ITS FALSE NEIGHBOUR: 'it returns false'. Refute it at one input. -/
def fnExactSameBarrelWrong : ChangeSpec := { name := "fnExactSameBarrel", fn := fun _ => fun
  | [d1, d2] => { results := [.lit (.bool false)], args := [d1, d2] }
  | _ => none }
def FnExactSameBarrelWrongFalsely : Prop := fnExactSameBarrelRow.holds Try.pinned (OpenSpec.ofChange fnExactSameBarrelWrong)

/-- 'laws.FnExactPlainHunt': WHATEVER THE INPUT: true; the input reads as it did. -/
def fnExactPlainHuntSpec : ChangeSpec := { name := "fnExactPlainHunt", fn := fun _ => fun
  | [d] => { results := [.lit (.bool true)], args := [d] }
  | _ => none }
def fnExactPlainHuntRow : OpenClaim := { program := "ytmjpjechmojkeaa", sum := "658fcda3334e2da5d964fa88e0a5e95761c44f8c03261750250537b2a91e6d8a", func := "loop.example/g00921/laws.FnExactPlainHunt", spec := "fnExactPlainHunt", apart := false }
def FnExactPlainHuntSaid : Prop := fnExactPlainHuntRow.holds Try.pinned (OpenSpec.ofChange fnExactPlainHuntSpec)

/-- ITS FALSE NEIGHBOUR: 'it returns false'. Refute it at one input. -/
def fnExactPlainHuntWrong : ChangeSpec := { name := "fnExactPlainHunt", fn := fun _ => fun
  | [d] => { results := [.lit (.bool false)], args := [d] }
  | _ => none }
def FnExactPlainHuntWrongFalsely : Prop := fnExactPlainHuntRow.holds Try.pinned (OpenSpec.ofChange fnExactPlainHuntWrong)

/-- 'laws.FnExactValidBarrel': WHATEVER THE INPUT: true; the input reads as it did. -/
def fnExactValidBarrelSpec : ChangeSpec := { name := "fnExactValidBarrel", fn := fun _ => fun
  | [d] => { results := [.lit (.bool true)], args := [d] }
  | _ => none }
def fnExactValidBarrelRow : OpenClaim := { program := "ytmjpjechmojkeaa", sum := "658fcda3334e2da5d964fa88e0a5e95761c44f8c03261750250537b2a91e6d8a", func := "loop.example/g00921/laws.FnExactValidBarrel", spec := "fnExactValidBarrel", apart := false }
def FnExactValidBarrelSaid : Prop := fnExactValidBarrelRow.holds Try.pinned (OpenSpec.ofChange fnExactValidBarrelSpec)

/-- ITS FALSE NEIGHBOUR: 'it returns false'. Refute it at one input. -/
def fnExactValidBarrelWrong : ChangeSpec := { name := "fnExactValidBarrel", fn := fun _ => fun
  | [d] => { results := [.lit (.bool false)], args := [d] }
  | _ => none }
def FnExactValidBarrelWrongFalsely : Prop := fnExactValidBarrelRow.holds Try.pinned (OpenSpec.ofChange fnExactValidBarrelWrong)

/-- 'laws.FnExactClosestPins': WHATEVER THE INPUT: true; the input reads as it did. -/
def fnExactClosestPinsSpec : ChangeSpec := { name := "fnExactClosestPins", fn := fun _ => fun
  | [d] => { results := [.lit (.bool true)], args := [d] }
  | _ => none }
def fnExactClosestPinsRow : OpenClaim := { program := "ytmjpjechmojkeaa", sum := "658fcda3334e2da5d964fa88e0a5e95761c44f8c03261750250537b2a91e6d8a", func := "loop.example/g00921/laws.FnExactClosestPins", spec := "fnExactClosestPins", apart := false }
def FnExactClosestPinsSaid : Prop := fnExactClosestPinsRow.holds Try.pinned (OpenSpec.ofChange fnExactClosestPinsSpec)

/-- ITS FALSE NEIGHBOUR: 'it returns false'. Refute it at one input. -/
def fnExactClosestPinsWrong : ChangeSpec := { name := "fnExactClosestPins", fn := fun _ => fun
  | [d] => { results := [.lit (.bool false)], args := [d] }
  | _ => none }
def FnExactClosestPinsWrongFalsely : Prop := fnExactClosestPinsRow.holds Try.pinned (OpenSpec.ofChange fnExactClosestPinsWrong)

/-- 'laws.FnExactPlayBarrel': WHATEVER THE INPUT: true; the input reads as it did. -/
def fnExactPlayBarrelSpec : ChangeSpec := { name := "fnExactPlayBarrel", fn := fun _ => fun
  | [d1, d2, d3] => { results := [.lit (.bool true)], args := [d1, d2, d3] }
  | _ => none }
def fnExactPlayBarrelRow : OpenClaim := { program := "ytmjpjechmojkeaa", sum := "658fcda3334e2da5d964fa88e0a5e95761c44f8c03261750250537b2a91e6d8a", func := "loop.example/g00921/laws.FnExactPlayBarrel", spec := "fnExactPlayBarrel", apart := false }
def FnExactPlayBarrelSaid : Prop := fnExactPlayBarrelRow.holds Try.pinned (OpenSpec.ofChange fnExactPlayBarrelSpec)

/-- ITS FALSE NEIGHBOUR: 'it returns false'. Refute it at one input. -/
def fnExactPlayBarrelWrong : ChangeSpec := { name := "fnExactPlayBarrel", fn := fun _ => fun
  | [d1, d2, d3] => { results := [.lit (.bool false)], args := [d1, d2, d3] }
  | _ => none }
def FnExactPlayBarrelWrongFalsely : Prop := fnExactPlayBarrelRow.holds Try.pinned (OpenSpec.ofChange fnExactPlayBarrelWrong)

/- THE SECOND FORM. 'bulk': how many values and letters a reading holds, each counted each time it is reached (what is shared counts as often as it is met; a slice's spare places count too). A statement '..UptoSaid' is the law's where the arguments, and the package variables that the reading takes, are together of bulk at most 1048576: NARROWER than '..Said'. Prove '..Said' where nothing that the law and all that it calls make is longer than what came in: it says more and counts as full. Else prove '..UptoSaid'. A law counts once. -/
mutual
def uptoBulk {H : Type} : DataW H → Nat
  | .lit (.string bytes) => bytes.length + 1
  | .lit _ => 1
  | .nil => 1
  | .ptr d => uptoBulk d + 1
  | .slice elems spare => uptoBulkAll elems + uptoBulkAll spare + 1
  | .agg parts => uptoBulkAll parts + 1
  | .iface _ d => uptoBulk d + 1
  | .map entries => uptoBulkEntries entries + 1
  | .held _ => 1
def uptoBulkAll {H : Type} : List (DataW H) → Nat
  | [] => 0
  | d :: r => uptoBulk d + uptoBulkAll r
def uptoBulkEntries {H : Type} : List (Lit × DataW H) → Nat
  | [] => 0
  | x :: r => uptoBulkEntry x + uptoBulkEntries r
def uptoBulkEntry {H : Type} : Lit × DataW H → Nat
  | (.string bytes, d) => bytes.length + uptoBulk d + 1
  | (_, d) => uptoBulk d + 1
 end
def uptoSmall : (H : Type) → List (DataW H) → Bool := fun _ ds => decide (uptoBulkAll ds ≤ 1048576)
def OpenSpec.upto (s : _root_.Go.ChangeSpec) : _root_.Go.OpenSpec := { _root_.Go.OpenSpec.ofChange s with cond := some uptoSmall }

/-- 'laws.FnExactQuarterStep', WHERE WHAT IT READS IS OF BULK AT MOST 1048576: true; the input reads as it did. -/
def fnExactQuarterStepUptoRow : OpenClaim := { program := "ytmjpjechmojkeaa", sum := "658fcda3334e2da5d964fa88e0a5e95761c44f8c03261750250537b2a91e6d8a", func := "loop.example/g00921/laws.FnExactQuarterStep", spec := "fnExactQuarterStep", apart := false, narrowed := true }
def FnExactQuarterStepUptoSaid : Prop := fnExactQuarterStepUptoRow.holds Try.pinned (OpenSpec.upto fnExactQuarterStepSpec)

/-- 'laws.FnExactQuartersWrong', WHERE WHAT IT READS IS OF BULK AT MOST 1048576: true; the input reads as it did. -/
def fnExactQuartersWrongUptoRow : OpenClaim := { program := "ytmjpjechmojkeaa", sum := "658fcda3334e2da5d964fa88e0a5e95761c44f8c03261750250537b2a91e6d8a", func := "loop.example/g00921/laws.FnExactQuartersWrong", spec := "fnExactQuartersWrong", apart := false, narrowed := true }
def FnExactQuartersWrongUptoSaid : Prop := fnExactQuartersWrongUptoRow.holds Try.pinned (OpenSpec.upto fnExactQuartersWrongSpec)

/-- 'laws.FnExactQuarterRun', WHERE WHAT IT READS IS OF BULK AT MOST 1048576: true; the input reads as it did. -/
def fnExactQuarterRunUptoRow : OpenClaim := { program := "ytmjpjechmojkeaa", sum := "658fcda3334e2da5d964fa88e0a5e95761c44f8c03261750250537b2a91e6d8a", func := "loop.example/g00921/laws.FnExactQuarterRun", spec := "fnExactQuarterRun", apart := false, narrowed := true }
def FnExactQuarterRunUptoSaid : Prop := fnExactQuarterRunUptoRow.holds Try.pinned (OpenSpec.upto fnExactQuarterRunSpec)

/-- 'laws.FnQuarters', WHERE WHAT IT READS IS OF BULK AT MOST 1048576: true; the input reads as it did. -/
def fnQuartersUptoRow : OpenClaim := { program := "ytmjpjechmojkeaa", sum := "658fcda3334e2da5d964fa88e0a5e95761c44f8c03261750250537b2a91e6d8a", func := "loop.example/g00921/laws.FnQuarters", spec := "fnQuarters", apart := false, narrowed := true }
def FnQuartersUptoSaid : Prop := fnQuartersUptoRow.holds Try.pinned (OpenSpec.upto fnQuartersSpec)

/-- 'laws.FnExactSameBarrel', WHERE WHAT IT READS IS OF BULK AT MOST 1048576: true; the input reads as it did. -/
def fnExactSameBarrelUptoRow : OpenClaim := { program := "ytmjpjechmojkeaa", sum := "658fcda3334e2da5d964fa88e0a5e95761c44f8c03261750250537b2a91e6d8a", func := "loop.example/g00921/laws.FnExactSameBarrel", spec := "fnExactSameBarrel", apart := false, narrowed := true }
def FnExactSameBarrelUptoSaid : Prop := fnExactSameBarrelUptoRow.holds Try.pinned (OpenSpec.upto fnExactSameBarrelSpec)

/-- 'laws.FnExactPlainHunt', WHERE WHAT IT READS IS OF BULK AT MOST 1048576: true; the input reads as it did. -/
def fnExactPlainHuntUptoRow : OpenClaim := { program := "ytmjpjechmojkeaa", sum := "658fcda3334e2da5d964fa88e0a5e95761c44f8c03261750250537b2a91e6d8a", func := "loop.example/g00921/laws.FnExactPlainHunt", spec := "fnExactPlainHunt", apart := false, narrowed := true }
def FnExactPlainHuntUptoSaid : Prop := fnExactPlainHuntUptoRow.holds Try.pinned (OpenSpec.upto fnExactPlainHuntSpec)

/-- 'laws.FnExactValidBarrel', WHERE WHAT IT READS IS OF BULK AT MOST 1048576: true; the input reads as it did. -/
def fnExactValidBarrelUptoRow : OpenClaim := { program := "ytmjpjechmojkeaa", sum := "658fcda3334e2da5d964fa88e0a5e95761c44f8c03261750250537b2a91e6d8a", func := "loop.example/g00921/laws.FnExactValidBarrel", spec := "fnExactValidBarrel", apart := false, narrowed := true }
def FnExactValidBarrelUptoSaid : Prop := fnExactValidBarrelUptoRow.holds Try.pinned (OpenSpec.upto fnExactValidBarrelSpec)

/-- 'laws.FnExactClosestPins', WHERE WHAT IT READS IS OF BULK AT MOST 1048576: true; the input reads as it did. -/
def fnExactClosestPinsUptoRow : OpenClaim := { program := "ytmjpjechmojkeaa", sum := "658fcda3334e2da5d964fa88e0a5e95761c44f8c03261750250537b2a91e6d8a", func := "loop.example/g00921/laws.FnExactClosestPins", spec := "fnExactClosestPins", apart := false, narrowed := true }
def FnExactClosestPinsUptoSaid : Prop := fnExactClosestPinsUptoRow.holds Try.pinned (OpenSpec.upto fnExactClosestPinsSpec)

/-- 'laws.FnExactPlayBarrel', WHERE WHAT IT READS IS OF BULK AT MOST 1048576: true; the input reads as it did. -/
def fnExactPlayBarrelUptoRow : OpenClaim := { program := "ytmjpjechmojkeaa", sum := "658fcda3334e2da5d964fa88e0a5e95761c44f8c03261750250537b2a91e6d8a", func := "loop.example/g00921/laws.FnExactPlayBarrel", spec := "fnExactPlayBarrel", apart := false, narrowed := true }
def FnExactPlayBarrelUptoSaid : Prop := fnExactPlayBarrelUptoRow.holds Try.pinned (OpenSpec.upto fnExactPlayBarrelSpec)

end Rows
end Go.Proofs.Ytmjpjechmojkeaa
