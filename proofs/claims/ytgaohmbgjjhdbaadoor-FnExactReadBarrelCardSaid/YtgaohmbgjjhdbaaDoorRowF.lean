/- Facts on the whole translation that every row of this seat asks for: each reckoned once. -/
import Derived.Test.YtgaohmbgjjhdbaaDoorRow
namespace Go.Proofs.YtgaohmbgjjhdbaaDoor
open Go.ChangeShapes Go.WideShapes Go.ChangeAt Go.RowKit
theorem Tryd.g2 : mapsRowed Tryd.prog = true := by kernel_rfl
theorem Tryd.g24 : Tryd.prog.stopsHeard = true := by kernel_rfl
theorem Tryd.g25 : Tryd.prog.mayEnter = true := by kernel_rfl
theorem Tryd.g26 : Tryd.prog.liftsFinal = false := by kernel_rfl
theorem Tryd.g27 : Tryd.prog.make = some .cut := by kernel_rfl
end Go.Proofs.YtgaohmbgjjhdbaaDoor
