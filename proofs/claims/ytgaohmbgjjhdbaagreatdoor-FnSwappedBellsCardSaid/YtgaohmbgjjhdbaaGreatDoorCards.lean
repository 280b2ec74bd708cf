/-
  DERIVED. GIVEN WITH THE SEED: THE CARDS: each row of YtgaohmbgjjhdbaaGreatDoorRows.lean that lists a variable, with what it lists TIED to the program's text (the seventh form; the later family's looks); each row that meets fmt, with fmt's text TOLD by the authors' own Lean function (tested against real Go, not proved from fmt's source: count such statements apart). THE CARD IS WHAT COUNTS. Prove the row's statement (the work); the ties are given (YtgaohmbgjjhdbaaGreatDoorTie.lean); close each card by the builder's one call (the guide's Derived/Test/ToyasCard.lean, 'card_holds'). Laid BY PROGRAM, IN A SANDBOX (cutbox-door.mjs). By AI agents, Wed Nov 11 2026. No macro, syntax, notation, axiom, sorry.
-/
import Derived.Test.YtgaohmbgjjhdbaaGreatDoorRows
import GoSem.ClaimSeven
namespace Go.Proofs.YtgaohmbgjjhdbaaGreatDoor
namespace Rows

/-- THE TIED CARD OF 'laws.FnSwappedBells'. -/
def fnSwappedBellsCard : Claim7 := { stood := { row := fnSwappedBellsRow, standIns := [], harness := (true, "8d4c5725a3cb365903b971ac4db321a0cc25f6424161114ae16964b2d126d7fa"), looks := true }, kinds := [], alts := [], laidByText := true, laidKinds := [.data, .data, .data, .data, .sentinel, .sentinel, .pinned], laidTests := true, laidLooks := .later }
def FnSwappedBellsCardSaid : Prop := Claim7.holds Tryz.pinned (.plain (OpenSpec.ofChange fnSwappedBellsSpec)) fnSwappedBellsCard

/-- THE SECOND FORM's CARD OF 'laws.FnSwappedBells'. -/
def fnSwappedBellsUptoCard : Claim7 := { stood := { row := fnSwappedBellsUptoRow, standIns := [], harness := (true, "8d4c5725a3cb365903b971ac4db321a0cc25f6424161114ae16964b2d126d7fa"), looks := true }, kinds := [], alts := [], laidByText := true, laidKinds := [.data, .data, .data, .data, .sentinel, .sentinel, .pinned], laidTests := true, laidLooks := .later }
def FnSwappedBellsUptoCardSaid : Prop := Claim7.holds Tryz.pinned (.plain (OpenSpec.upto fnSwappedBellsSpec)) fnSwappedBellsUptoCard
end Rows
end Go.Proofs.YtgaohmbgjjhdbaaGreatDoor
