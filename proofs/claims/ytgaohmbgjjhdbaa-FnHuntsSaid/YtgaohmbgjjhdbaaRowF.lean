/- Facts on the whole translation that every row of this seat asks for: each reckoned once. -/
import Derived.Test.YtgaohmbgjjhdbaaRow
namespace Go.Proofs.Ytgaohmbgjjhdbaa
open Go.ChangeShapes Go.WideShapes Go.ChangeAt Go.RowKit
theorem Try.g2 : mapsRowed Try.prog = true := by kernel_rfl
theorem Try.g24 : Try.prog.stopsHeard = true := by kernel_rfl
theorem Try.g25 : Try.prog.mayEnter = true := by kernel_rfl
theorem Try.g26 : Try.prog.liftsFinal = false := by kernel_rfl
theorem Try.g27 : Try.prog.make = some .cut := by kernel_rfl
end Go.Proofs.Ytgaohmbgjjhdbaa
