/- Contracts of the laws' own helpers on a Pin: its copy, equality. -/
import Derived.Test.YtgaohmbgjjhdbaaDoorAid
import Derived.Handy
namespace Go.Proofs.YtgaohmbgjjhdbaaDoor
open Go.RowKit
set_option maxHeartbeats 1000000 in
theorem toPin_any (x0 x1 : Int) (w : World) :
    Calls Tryd.prog 33 #[.agg #[.int .i64 x0, .int .i64 x1]] w fun e w' => e = .returned (.agg #[.int .i64 x0, .int .i64 x1]) ∧ Below w.heap.size w w' := by
  go_enter Tryd.func33, Tryd.ntmps33
  go_wp2
  try simp only [Exit.inBlock, Exit.then]
  refine bodyPost_ret (v := .agg #[.int .i64 x0, .int .i64 x1]) ?_ rfl ?_
  · simp [results, Tryd.results33, go_sem]
  exact ⟨rfl, by go_grown⟩

set_option maxHeartbeats 1000000 in
theorem eqPin_true (x0 x1 : Int) (w : World) :
    Calls Tryd.prog 40 #[.agg #[.int .i64 x0, .int .i64 x1], .agg #[.int .i64 x0, .int .i64 x1]] w fun e w' => e = .returned (.bool true) ∧ Below w.heap.size w w' := by
  go_enter Tryd.func40, Tryd.ntmps40
  go_wp2
  go_ret
  exact ⟨rfl, by go_grown⟩

end Go.Proofs.YtgaohmbgjjhdbaaDoor
