/- Contracts of the laws' own helpers on a Pin: its copy, equality. -/
import Derived.Test.YtgaohmbgjjhdbaaGreatDoorAid
import Derived.Handy
namespace Go.Proofs.YtgaohmbgjjhdbaaGreatDoor
open Go.RowKit


end Go.Proofs.YtgaohmbgjjhdbaaGreatDoor
