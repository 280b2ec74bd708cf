/- Facts on the whole translation that every row of this seat asks for: each reckoned once. -/
import Derived.Test.YtgaohmbgjjhdbaaGreatDoorRow
namespace Go.Proofs.YtgaohmbgjjhdbaaGreatDoor
open Go.ChangeShapes Go.WideShapes Go.ChangeAt Go.RowKit
theorem Tryz.g2 : mapsRowed Tryz.prog = true := by kernel_rfl
theorem Tryz.g24 : Tryz.prog.stopsHeard = true := by kernel_rfl
theorem Tryz.g25 : Tryz.prog.mayEnter = true := by kernel_rfl
theorem Tryz.g26 : Tryz.prog.liftsFinal = false := by kernel_rfl
theorem Tryz.g27 : Tryz.prog.make = some .cut := by kernel_rfl
end Go.Proofs.YtgaohmbgjjhdbaaGreatDoor
