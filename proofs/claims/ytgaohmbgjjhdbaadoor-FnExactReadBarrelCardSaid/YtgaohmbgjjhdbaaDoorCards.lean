/-
  DERIVED. GIVEN WITH THE SEED: THE CARDS: each row of YtgaohmbgjjhdbaaDoorRows.lean that lists a variable, with what it lists TIED to the program's text (the seventh form; the later family's looks); each row that meets fmt, with fmt's text TOLD by the authors' own Lean function (tested against real Go, not proved from fmt's source: count such statements apart). THE CARD IS WHAT COUNTS. Prove the row's statement (the work); the ties are given (YtgaohmbgjjhdbaaDoorTie.lean); close each card by the builder's one call (the guide's Derived/Test/ToyasCard.lean, 'card_holds'). Laid BY PROGRAM, IN A SANDBOX (cutbox-door.mjs). By AI agents, Wed Nov 11 2026. No macro, syntax, notation, axiom, sorry.
-/
import Derived.Test.YtgaohmbgjjhdbaaDoorRows
import GoSem.ClaimSeven
namespace Go.Proofs.YtgaohmbgjjhdbaaDoor
namespace Rows

/-- THE TIED CARD OF 'laws.FnExactBarrelText'. -/
def fnExactBarrelTextCard : Claim7 := { stood := { row := fnExactBarrelTextRow, standIns := [], harness := (true, "f27ecd39ed133c962278263fd27f76e77daf2a5ed1baddb80973286dff2dc112"), looks := true }, kinds := [], alts := [], laidByText := true, laidKinds := [.data, .data, .data], laidTests := true, laidLooks := .later }
def FnExactBarrelTextCardSaid : Prop := Claim7.holds Tryd.pinned (.plain (OpenSpec.ofChange fnExactBarrelTextSpec)) fnExactBarrelTextCard

/-- THE TIED CARD OF 'laws.FnExactReadBarrel'. -/
def fnExactReadBarrelCard : Claim7 := { stood := { row := fnExactReadBarrelRow, standIns := [], harness := (true, "f27ecd39ed133c962278263fd27f76e77daf2a5ed1baddb80973286dff2dc112"), looks := true }, kinds := [], alts := [], laidByText := true, laidKinds := [.data, .data, .data, .data, .sentinel, .sentinel, .pinned], laidTests := true, laidLooks := .later }
def FnExactReadBarrelCardSaid : Prop := Claim7.holds Tryd.pinned (.plain (OpenSpec.ofChange fnExactReadBarrelSpec)) fnExactReadBarrelCard

/-- THE SECOND FORM's CARD OF 'laws.FnExactBarrelText'. -/
def fnExactBarrelTextUptoCard : Claim7 := { stood := { row := fnExactBarrelTextUptoRow, standIns := [], harness := (true, "f27ecd39ed133c962278263fd27f76e77daf2a5ed1baddb80973286dff2dc112"), looks := true }, kinds := [], alts := [], laidByText := true, laidKinds := [.data, .data, .data], laidTests := true, laidLooks := .later }
def FnExactBarrelTextUptoCardSaid : Prop := Claim7.holds Tryd.pinned (.plain (OpenSpec.upto fnExactBarrelTextSpec)) fnExactBarrelTextUptoCard

/-- THE SECOND FORM's CARD OF 'laws.FnExactReadBarrel'. -/
def fnExactReadBarrelUptoCard : Claim7 := { stood := { row := fnExactReadBarrelUptoRow, standIns := [], harness := (true, "f27ecd39ed133c962278263fd27f76e77daf2a5ed1baddb80973286dff2dc112"), looks := true }, kinds := [], alts := [], laidByText := true, laidKinds := [.data, .data, .data, .data, .sentinel, .sentinel, .pinned], laidTests := true, laidLooks := .later }
def FnExactReadBarrelUptoCardSaid : Prop := Claim7.holds Tryd.pinned (.plain (OpenSpec.upto fnExactReadBarrelSpec)) fnExactReadBarrelUptoCard
end Rows
end Go.Proofs.YtgaohmbgjjhdbaaDoor
