/-
  DERIVED. GIVEN WITH THE SEED: THE CARDS: each row of YtfddibdncniekaaDoorRows.lean that lists a variable, with what it lists TIED to the program's text (the seventh form; the later family's looks); each row that meets fmt, with fmt's text TOLD by the authors' own Lean function (tested against real Go, not proved from fmt's source: count such statements apart). THE CARD IS WHAT COUNTS. Prove the row's statement (the work); the ties are given (YtfddibdncniekaaDoorTie.lean); close each card by the builder's one call (the guide's Derived/Test/ToyasCard.lean, 'card_holds'). Laid BY PROGRAM, IN A SANDBOX (cutbox-door.mjs). By AI agents, Wed Nov 11 2026. No macro, syntax, notation, axiom, sorry.
-/
import Derived.Test.YtfddibdncniekaaDoorRows
import GoSem.ClaimSeven
namespace Go.Proofs.YtfddibdncniekaaDoor
namespace Rows

/-- THE TIED CARD OF 'laws.FnExactMoveHands'. -/
def fnExactMoveHandsCard : Claim7 := { stood := { row := fnExactMoveHandsRow, standIns := [], harness := (true, "a60b9ccea365084ae19031547614f694475d4502188d491dabf98e0fff8eab37"), looks := false }, kinds := [], alts := [], laidByText := true, laidKinds := [.data, .pinned], laidTests := true, laidLooks := .later }
def FnExactMoveHandsCardSaid : Prop := Claim7.holds Tryd.pinned (.plain (OpenSpec.ofChange fnExactMoveHandsSpec)) fnExactMoveHandsCard

/-- THE TIED CARD OF 'laws.FnExactHandsBetween'. -/
def fnExactHandsBetweenCard : Claim7 := { stood := { row := fnExactHandsBetweenRow, standIns := [], harness := (true, "a60b9ccea365084ae19031547614f694475d4502188d491dabf98e0fff8eab37"), looks := false }, kinds := [], alts := [], laidByText := true, laidKinds := [.data, .pinned], laidTests := true, laidLooks := .later }
def FnExactHandsBetweenCardSaid : Prop := Claim7.holds Tryd.pinned (.plain (OpenSpec.ofChange fnExactHandsBetweenSpec)) fnExactHandsBetweenCard

/-- THE TIED CARD OF 'laws.FnExactPathToRight'. -/
def fnExactPathToRightCard : Claim7 := { stood := { row := fnExactPathToRightRow, standIns := [], harness := (true, "a60b9ccea365084ae19031547614f694475d4502188d491dabf98e0fff8eab37"), looks := false }, kinds := [], alts := [], laidByText := true, laidKinds := [.data, .pinned], laidTests := true, laidLooks := .later }
def FnExactPathToRightCardSaid : Prop := Claim7.holds Tryd.pinned (.plain (OpenSpec.ofChange fnExactPathToRightSpec)) fnExactPathToRightCard

/-- THE TIED CARD OF 'laws.FnExactPathToWrong'. -/
def fnExactPathToWrongCard : Claim7 := { stood := { row := fnExactPathToWrongRow, standIns := [], harness := (true, "a60b9ccea365084ae19031547614f694475d4502188d491dabf98e0fff8eab37"), looks := false }, kinds := [], alts := [], laidByText := true, laidKinds := [.data, .pinned], laidTests := true, laidLooks := .later }
def FnExactPathToWrongCardSaid : Prop := Claim7.holds Tryd.pinned (.plain (OpenSpec.ofChange fnExactPathToWrongSpec)) fnExactPathToWrongCard

/-- THE TIED CARD OF 'laws.FnMovedHands'. -/
def fnMovedHandsCard : Claim7 := { stood := { row := fnMovedHandsRow, standIns := [], harness := (true, "a60b9ccea365084ae19031547614f694475d4502188d491dabf98e0fff8eab37"), looks := false }, kinds := [], alts := [], laidByText := true, laidKinds := [.data, .pinned], laidTests := true, laidLooks := .later }
def FnMovedHandsCardSaid : Prop := Claim7.holds Tryd.pinned (.plain (OpenSpec.ofChange fnMovedHandsSpec)) fnMovedHandsCard

/-- THE TIED CARD OF 'laws.FnRightStates'. -/
def fnRightStatesCard : Claim7 := { stood := { row := fnRightStatesRow, standIns := [], harness := (true, "a60b9ccea365084ae19031547614f694475d4502188d491dabf98e0fff8eab37"), looks := false }, kinds := [], alts := [], laidByText := true, laidKinds := [.data, .pinned], laidTests := true, laidLooks := .later }
def FnRightStatesCardSaid : Prop := Claim7.holds Tryd.pinned (.plain (OpenSpec.ofChange fnRightStatesSpec)) fnRightStatesCard

/-- THE TIED CARD OF 'laws.FnHandPaths'. -/
def fnHandPathsCard : Claim7 := { stood := { row := fnHandPathsRow, standIns := [], harness := (true, "a60b9ccea365084ae19031547614f694475d4502188d491dabf98e0fff8eab37"), looks := false }, kinds := [], alts := [], laidByText := true, laidKinds := [.data, .pinned], laidTests := true, laidLooks := .later }
def FnHandPathsCardSaid : Prop := Claim7.holds Tryd.pinned (.plain (OpenSpec.ofChange fnHandPathsSpec)) fnHandPathsCard

/-- THE TIED CARD OF 'laws.FnExactReachableHands'. -/
def fnExactReachableHandsCard : Claim7 := { stood := { row := fnExactReachableHandsRow, standIns := [], harness := (true, "a60b9ccea365084ae19031547614f694475d4502188d491dabf98e0fff8eab37"), looks := false }, kinds := [], alts := [], laidByText := true, laidKinds := [.data, .pinned], laidTests := true, laidLooks := .later }
def FnExactReachableHandsCardSaid : Prop := Claim7.holds Tryd.pinned (.plain (OpenSpec.ofChange fnExactReachableHandsSpec)) fnExactReachableHandsCard

/-- THE TIED CARD OF 'laws.FnReachableHands'. -/
def fnReachableHandsCard : Claim7 := { stood := { row := fnReachableHandsRow, standIns := [], harness := (true, "a60b9ccea365084ae19031547614f694475d4502188d491dabf98e0fff8eab37"), looks := false }, kinds := [], alts := [], laidByText := true, laidKinds := [.data, .pinned], laidTests := true, laidLooks := .later }
def FnReachableHandsCardSaid : Prop := Claim7.holds Tryd.pinned (.plain (OpenSpec.ofChange fnReachableHandsSpec)) fnReachableHandsCard

/-- THE SECOND FORM's CARD OF 'laws.FnExactMoveHands'. -/
def fnExactMoveHandsUptoCard : Claim7 := { stood := { row := fnExactMoveHandsUptoRow, standIns := [], harness := (true, "a60b9ccea365084ae19031547614f694475d4502188d491dabf98e0fff8eab37"), looks := false }, kinds := [], alts := [], laidByText := true, laidKinds := [.data, .pinned], laidTests := true, laidLooks := .later }
def FnExactMoveHandsUptoCardSaid : Prop := Claim7.holds Tryd.pinned (.plain (OpenSpec.upto fnExactMoveHandsSpec)) fnExactMoveHandsUptoCard

/-- THE SECOND FORM's CARD OF 'laws.FnExactHandsBetween'. -/
def fnExactHandsBetweenUptoCard : Claim7 := { stood := { row := fnExactHandsBetweenUptoRow, standIns := [], harness := (true, "a60b9ccea365084ae19031547614f694475d4502188d491dabf98e0fff8eab37"), looks := false }, kinds := [], alts := [], laidByText := true, laidKinds := [.data, .pinned], laidTests := true, laidLooks := .later }
def FnExactHandsBetweenUptoCardSaid : Prop := Claim7.holds Tryd.pinned (.plain (OpenSpec.upto fnExactHandsBetweenSpec)) fnExactHandsBetweenUptoCard

/-- THE SECOND FORM's CARD OF 'laws.FnExactPathToRight'. -/
def fnExactPathToRightUptoCard : Claim7 := { stood := { row := fnExactPathToRightUptoRow, standIns := [], harness := (true, "a60b9ccea365084ae19031547614f694475d4502188d491dabf98e0fff8eab37"), looks := false }, kinds := [], alts := [], laidByText := true, laidKinds := [.data, .pinned], laidTests := true, laidLooks := .later }
def FnExactPathToRightUptoCardSaid : Prop := Claim7.holds Tryd.pinned (.plain (OpenSpec.upto fnExactPathToRightSpec)) fnExactPathToRightUptoCard

/-- THE SECOND FORM's CARD OF 'laws.FnExactPathToWrong'. -/
def fnExactPathToWrongUptoCard : Claim7 := { stood := { row := fnExactPathToWrongUptoRow, standIns := [], harness := (true, "a60b9ccea365084ae19031547614f694475d4502188d491dabf98e0fff8eab37"), looks := false }, kinds := [], alts := [], laidByText := true, laidKinds := [.data, .pinned], laidTests := true, laidLooks := .later }
def FnExactPathToWrongUptoCardSaid : Prop := Claim7.holds Tryd.pinned (.plain (OpenSpec.upto fnExactPathToWrongSpec)) fnExactPathToWrongUptoCard

/-- THE SECOND FORM's CARD OF 'laws.FnMovedHands'. -/
def fnMovedHandsUptoCard : Claim7 := { stood := { row := fnMovedHandsUptoRow, standIns := [], harness := (true, "a60b9ccea365084ae19031547614f694475d4502188d491dabf98e0fff8eab37"), looks := false }, kinds := [], alts := [], laidByText := true, laidKinds := [.data, .pinned], laidTests := true, laidLooks := .later }
def FnMovedHandsUptoCardSaid : Prop := Claim7.holds Tryd.pinned (.plain (OpenSpec.upto fnMovedHandsSpec)) fnMovedHandsUptoCard

/-- THE SECOND FORM's CARD OF 'laws.FnRightStates'. -/
def fnRightStatesUptoCard : Claim7 := { stood := { row := fnRightStatesUptoRow, standIns := [], harness := (true, "a60b9ccea365084ae19031547614f694475d4502188d491dabf98e0fff8eab37"), looks := false }, kinds := [], alts := [], laidByText := true, laidKinds := [.data, .pinned], laidTests := true, laidLooks := .later }
def FnRightStatesUptoCardSaid : Prop := Claim7.holds Tryd.pinned (.plain (OpenSpec.upto fnRightStatesSpec)) fnRightStatesUptoCard

/-- THE SECOND FORM's CARD OF 'laws.FnHandPaths'. -/
def fnHandPathsUptoCard : Claim7 := { stood := { row := fnHandPathsUptoRow, standIns := [], harness := (true, "a60b9ccea365084ae19031547614f694475d4502188d491dabf98e0fff8eab37"), looks := false }, kinds := [], alts := [], laidByText := true, laidKinds := [.data, .pinned], laidTests := true, laidLooks := .later }
def FnHandPathsUptoCardSaid : Prop := Claim7.holds Tryd.pinned (.plain (OpenSpec.upto fnHandPathsSpec)) fnHandPathsUptoCard

/-- THE SECOND FORM's CARD OF 'laws.FnExactReachableHands'. -/
def fnExactReachableHandsUptoCard : Claim7 := { stood := { row := fnExactReachableHandsUptoRow, standIns := [], harness := (true, "a60b9ccea365084ae19031547614f694475d4502188d491dabf98e0fff8eab37"), looks := false }, kinds := [], alts := [], laidByText := true, laidKinds := [.data, .pinned], laidTests := true, laidLooks := .later }
def FnExactReachableHandsUptoCardSaid : Prop := Claim7.holds Tryd.pinned (.plain (OpenSpec.upto fnExactReachableHandsSpec)) fnExactReachableHandsUptoCard

/-- THE SECOND FORM's CARD OF 'laws.FnReachableHands'. -/
def fnReachableHandsUptoCard : Claim7 := { stood := { row := fnReachableHandsUptoRow, standIns := [], harness := (true, "a60b9ccea365084ae19031547614f694475d4502188d491dabf98e0fff8eab37"), looks := false }, kinds := [], alts := [], laidByText := true, laidKinds := [.data, .pinned], laidTests := true, laidLooks := .later }
def FnReachableHandsUptoCardSaid : Prop := Claim7.holds Tryd.pinned (.plain (OpenSpec.upto fnReachableHandsSpec)) fnReachableHandsUptoCard
end Rows
end Go.Proofs.YtfddibdncniekaaDoor
