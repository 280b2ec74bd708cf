/-
  No cell of these rows narrows 'for every input' (looked for: loops, veiled, ifaces, maps, wideKeys, modest, calm, conditions, laid).
  DERIVED. THE GIVEN ROWS OF THIS SEAT. 6 by the template 'for every input the law returns true; each argument reads behind the call as it read before'; 0 by the template 'total and deterministic' (their statements: YtgaohmbgjjhdbaaTotals.lean).
  GIVEN WITH THE SEED: the statements are not yours to turn. If you find one false, say at which input.
  Laid BY PROGRAM, IN A SANDBOX (cutbox-rows.mjs): the forced cells as the released guide's own fill.sh prints them over the translation 70796a212d2948c3… (all of the seat's roots in one cut). By AI agents, Wed Nov 11 2026. No macro, syntax, notation, axiom, sorry.
-/
import Derived.Test.YtgaohmbgjjhdbaaChecked
import GoSem.Claim
import GoSem.ClaimJoined
import GoSem.ClaimMapViews
import Derived.JoinedTies
import Derived.KernelRfl
namespace Go.Proofs.Ytgaohmbgjjhdbaa
/- THE CELL 'sum', in the pinned program and in every row, IS THE sha256 OF THE DUMP (.gsa) THAT YtgaohmbgjjhdbaaProg.lean LOADS. Nothing in Lean hashes anything: it is a label: what it is worth is what the hold of that sum in a sandbox is worth. -/
noncomputable def Try.pinned : Pinned := { name := "ytgaohmbgjjhdbaa", sum := "70796a212d2948c385ca5a9152f4c50d10b1492fe826d98a3fa9210023209289", checked := Try.checked }
namespace Rows
def none {H : Type} : Left H := { results := [], args := [] }

/-- 'laws.FnExactTrueRows': WHATEVER THE INPUT: true; the input reads as it did. -/
def fnExactTrueRowsSpec : ChangeSpec := { name := "fnExactTrueRows", fn := fun _ => fun
  | [d] => { results := [.lit (.bool true)], args := [d] }
  | _ => none }
def fnExactTrueRowsRow : OpenClaim := { program := "ytgaohmbgjjhdbaa", sum := "70796a212d2948c385ca5a9152f4c50d10b1492fe826d98a3fa9210023209289", func := "loop.example/g00921/laws.FnExactTrueRows", spec := "fnExactTrueRows", recurses := true, apart := false }
def FnExactTrueRowsSaid : Prop := fnExactTrueRowsRow.holds Try.pinned (OpenSpec.ofChange fnExactTrueRowsSpec)

/-- ITS FALSE NEIGHBOUR: 'it returns false'. Refute it at one input. -/
def fnExactTrueRowsWrong : ChangeSpec := { name := "fnExactTrueRows", fn := fun _ => fun
  | [d] => { results := [.lit (.bool false)], args := [d] }
  | _ => none }
def FnExactTrueRowsWrongFalsely : Prop := fnExactTrueRowsRow.holds Try.pinned (OpenSpec.ofChange fnExactTrueRowsWrong)

/-- 'laws.FnExactTurnBarrel': WHATEVER THE INPUT: true; the input reads as it did. -/
def fnExactTurnBarrelSpec : ChangeSpec := { name := "fnExactTurnBarrel", fn := fun _ => fun
  | [d1, d2] => { results := [.lit (.bool true)], args := [d1, d2] }
  | _ => none }
def fnExactTurnBarrelRow : OpenClaim := { program := "ytgaohmbgjjhdbaa", sum := "70796a212d2948c385ca5a9152f4c50d10b1492fe826d98a3fa9210023209289", func := "loop.example/g00921/laws.FnExactTurnBarrel", spec := "fnExactTurnBarrel", unfollowed := true, recurses := true, apart := false }
def FnExactTurnBarrelSaid : Prop := fnExactTurnBarrelRow.holds Try.pinned (OpenSpec.ofChange fnExactTurnBarrelSpec)

/-- ITS FALSE NEIGHBOUR: 'it returns false'. Refute it at one input. -/
def fnExactTurnBarrelWrong : ChangeSpec := { name := "fnExactTurnBarrel", fn := fun _ => fun
  | [d1, d2] => { results := [.lit (.bool false)], args := [d1, d2] }
  | _ => none }
def FnExactTurnBarrelWrongFalsely : Prop := fnExactTurnBarrelRow.holds Try.pinned (OpenSpec.ofChange fnExactTurnBarrelWrong)

/-- 'laws.FnExactRowsBarrel': WHATEVER THE INPUT: true; the input reads as it did. -/
def fnExactRowsBarrelSpec : ChangeSpec := { name := "fnExactRowsBarrel", fn := fun _ => fun
  | [d] => { results := [.lit (.bool true)], args := [d] }
  | _ => none }
def fnExactRowsBarrelRow : OpenClaim := { program := "ytgaohmbgjjhdbaa", sum := "70796a212d2948c385ca5a9152f4c50d10b1492fe826d98a3fa9210023209289", func := "loop.example/g00921/laws.FnExactRowsBarrel", spec := "fnExactRowsBarrel", recurses := true, apart := false }
def FnExactRowsBarrelSaid : Prop := fnExactRowsBarrelRow.holds Try.pinned (OpenSpec.ofChange fnExactRowsBarrelSpec)

/-- ITS FALSE NEIGHBOUR: 'it returns false'. Refute it at one input. -/
def fnExactRowsBarrelWrong : ChangeSpec := { name := "fnExactRowsBarrel", fn := fun _ => fun
  | [d] => { results := [.lit (.bool false)], args := [d] }
  | _ => none }
def FnExactRowsBarrelWrongFalsely : Prop := fnExactRowsBarrelRow.holds Try.pinned (OpenSpec.ofChange fnExactRowsBarrelWrong)

/-- 'laws.FnBarrels': WHATEVER THE INPUT: true; the input reads as it did. -/
def fnBarrelsSpec : ChangeSpec := { name := "fnBarrels", fn := fun _ => fun
  | [d] => { results := [.lit (.bool true)], args := [d] }
  | _ => none }
def fnBarrelsRow : OpenClaim := { program := "ytgaohmbgjjhdbaa", sum := "70796a212d2948c385ca5a9152f4c50d10b1492fe826d98a3fa9210023209289", func := "loop.example/g00921/laws.FnBarrels", spec := "fnBarrels", unfollowed := true, recurses := true, apart := false }
def FnBarrelsSaid : Prop := fnBarrelsRow.holds Try.pinned (OpenSpec.ofChange fnBarrelsSpec)

/-- ITS FALSE NEIGHBOUR: 'it returns false'. Refute it at one input. -/
def fnBarrelsWrong : ChangeSpec := { name := "fnBarrels", fn := fun _ => fun
  | [d] => { results := [.lit (.bool false)], args := [d] }
  | _ => none }
def FnBarrelsWrongFalsely : Prop := fnBarrelsRow.holds Try.pinned (OpenSpec.ofChange fnBarrelsWrong)

/-- 'laws.FnHunts': WHATEVER THE INPUT: true; the input reads as it did. -/
def fnHuntsSpec : ChangeSpec := { name := "fnHunts", fn := fun _ => fun
  | [d] => { results := [.lit (.bool true)], args := [d] }
  | _ => none }
def fnHuntsRow : OpenClaim := { program := "ytgaohmbgjjhdbaa", sum := "70796a212d2948c385ca5a9152f4c50d10b1492fe826d98a3fa9210023209289", func := "loop.example/g00921/laws.FnHunts", spec := "fnHunts", recurses := true, apart := false }
def FnHuntsSaid : Prop := fnHuntsRow.holds Try.pinned (OpenSpec.ofChange fnHuntsSpec)

/-- ITS FALSE NEIGHBOUR: 'it returns false'. Refute it at one input. -/
def fnHuntsWrong : ChangeSpec := { name := "fnHunts", fn := fun _ => fun
  | [d] => { results := [.lit (.bool false)], args := [d] }
  | _ => none }
def FnHuntsWrongFalsely : Prop := fnHuntsRow.holds Try.pinned (OpenSpec.ofChange fnHuntsWrong)

/-- 'laws.FnExactSwapBells': WHATEVER THE INPUT: true; the input reads as it did. -/
def fnExactSwapBellsSpec : ChangeSpec := { name := "fnExactSwapBells", fn := fun _ => fun
  | [d1, d2] => { results := [.lit (.bool true)], args := [d1, d2] }
  | _ => none }
def fnExactSwapBellsRow : OpenClaim := { program := "ytgaohmbgjjhdbaa", sum := "70796a212d2948c385ca5a9152f4c50d10b1492fe826d98a3fa9210023209289", func := "loop.example/g00921/laws.FnExactSwapBells", spec := "fnExactSwapBells", unfollowed := true, recurses := true, apart := false }
def FnExactSwapBellsSaid : Prop := fnExactSwapBellsRow.holds Try.pinned (OpenSpec.ofChange fnExactSwapBellsSpec)

/-- ITS FALSE NEIGHBOUR: 'it returns false'. Refute it at one input. -/
def fnExactSwapBellsWrong : ChangeSpec := { name := "fnExactSwapBells", fn := fun _ => fun
  | [d1, d2] => { results := [.lit (.bool false)], args := [d1, d2] }
  | _ => none }
def FnExactSwapBellsWrongFalsely : Prop := fnExactSwapBellsRow.holds Try.pinned (OpenSpec.ofChange fnExactSwapBellsWrong)

/- THE SECOND FORM. 'bulk': how many values and letters a reading holds, each counted each time it is reached (what is shared counts as often as it is met; a slice's spare places count too). A statement '..UptoSaid' is the law's where the arguments, and the package variables that the reading takes, are together of bulk at most 1048576: NARROWER than '..Said'. Prove '..Said' where nothing that the law and all that it calls make is longer than what came in: it says more and counts as full. Else prove '..UptoSaid'. A law counts once. -/
mutual
def uptoBulk {H : Type} : DataW H → Nat
  | .lit (.string bytes) => bytes.length + 1
  | .lit _ => 1
  | .nil => 1
  | .ptr d => uptoBulk d + 1
  | .slice elems spare => uptoBulkAll elems + uptoBulkAll spare + 1
  | .agg parts => uptoBulkAll parts + 1
  | .iface _ d => uptoBulk d + 1
  | .map entries => uptoBulkEntries entries + 1
  | .held _ => 1
def uptoBulkAll {H : Type} : List (DataW H) → Nat
  | [] => 0
  | d :: r => uptoBulk d + uptoBulkAll r
def uptoBulkEntries {H : Type} : List (Lit × DataW H) → Nat
  | [] => 0
  | x :: r => uptoBulkEntry x + uptoBulkEntries r
def uptoBulkEntry {H : Type} : Lit × DataW H → Nat
  | (.string bytes, d) => bytes.length + uptoBulk d + 1
  | (_, d) => uptoBulk d + 1
 end
def uptoSmall : (H : Type) → List (DataW H) → Bool := fun _ ds => decide (uptoBulkAll ds ≤ 1048576)
def OpenSpec.upto (s : _root_.Go.ChangeSpec) : _root_.Go.OpenSpec := { _root_.Go.OpenSpec.ofChange s with cond := some uptoSmall }

/-- 'laws.FnExactTrueRows', WHERE WHAT IT READS IS OF BULK AT MOST 1048576: true; the input reads as it did. -/
def fnExactTrueRowsUptoRow : OpenClaim := { program := "ytgaohmbgjjhdbaa", sum := "70796a212d2948c385ca5a9152f4c50d10b1492fe826d98a3fa9210023209289", func := "loop.example/g00921/laws.FnExactTrueRows", spec := "fnExactTrueRows", recurses := true, apart := false, narrowed := true }
def FnExactTrueRowsUptoSaid : Prop := fnExactTrueRowsUptoRow.holds Try.pinned (OpenSpec.upto fnExactTrueRowsSpec)

/-- 'laws.FnExactTurnBarrel', WHERE WHAT IT READS IS OF BULK AT MOST 1048576: true; the input reads as it did. -/
def fnExactTurnBarrelUptoRow : OpenClaim := { program := "ytgaohmbgjjhdbaa", sum := "70796a212d2948c385ca5a9152f4c50d10b1492fe826d98a3fa9210023209289", func := "loop.example/g00921/laws.FnExactTurnBarrel", spec := "fnExactTurnBarrel", unfollowed := true, recurses := true, apart := false, narrowed := true }
def FnExactTurnBarrelUptoSaid : Prop := fnExactTurnBarrelUptoRow.holds Try.pinned (OpenSpec.upto fnExactTurnBarrelSpec)

/-- 'laws.FnExactRowsBarrel', WHERE WHAT IT READS IS OF BULK AT MOST 1048576: true; the input reads as it did. -/
def fnExactRowsBarrelUptoRow : OpenClaim := { program := "ytgaohmbgjjhdbaa", sum := "70796a212d2948c385ca5a9152f4c50d10b1492fe826d98a3fa9210023209289", func := "loop.example/g00921/laws.FnExactRowsBarrel", spec := "fnExactRowsBarrel", recurses := true, apart := false, narrowed := true }
def FnExactRowsBarrelUptoSaid : Prop := fnExactRowsBarrelUptoRow.holds Try.pinned (OpenSpec.upto fnExactRowsBarrelSpec)

/-- 'laws.FnBarrels', WHERE WHAT IT READS IS OF BULK AT MOST 1048576: true; the input reads as it did. -/
def fnBarrelsUptoRow : OpenClaim := { program := "ytgaohmbgjjhdbaa", sum := "70796a212d2948c385ca5a9152f4c50d10b1492fe826d98a3fa9210023209289", func := "loop.example/g00921/laws.FnBarrels", spec := "fnBarrels", unfollowed := true, recurses := true, apart := false, narrowed := true }
def FnBarrelsUptoSaid : Prop := fnBarrelsUptoRow.holds Try.pinned (OpenSpec.upto fnBarrelsSpec)

/-- 'laws.FnHunts', WHERE WHAT IT READS IS OF BULK AT MOST 1048576: true; the input reads as it did. -/
def fnHuntsUptoRow : OpenClaim := { program := "ytgaohmbgjjhdbaa", sum := "70796a212d2948c385ca5a9152f4c50d10b1492fe826d98a3fa9210023209289", func := "loop.example/g00921/laws.FnHunts", spec := "fnHunts", recurses := true, apart := false, narrowed := true }
def FnHuntsUptoSaid : Prop := fnHuntsUptoRow.holds Try.pinned (OpenSpec.upto fnHuntsSpec)

/-- 'laws.FnExactSwapBells', WHERE WHAT IT READS IS OF BULK AT MOST 1048576: true; the input reads as it did. -/
def fnExactSwapBellsUptoRow : OpenClaim := { program := "ytgaohmbgjjhdbaa", sum := "70796a212d2948c385ca5a9152f4c50d10b1492fe826d98a3fa9210023209289", func := "loop.example/g00921/laws.FnExactSwapBells", spec := "fnExactSwapBells", unfollowed := true, recurses := true, apart := false, narrowed := true }
def FnExactSwapBellsUptoSaid : Prop := fnExactSwapBellsUptoRow.holds Try.pinned (OpenSpec.upto fnExactSwapBellsSpec)

end Rows
end Go.Proofs.Ytgaohmbgjjhdbaa
