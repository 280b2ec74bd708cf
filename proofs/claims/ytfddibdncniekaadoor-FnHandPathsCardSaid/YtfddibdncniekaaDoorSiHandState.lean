/- Contracts of the laws' own helpers on a HandState: its copy, equality. -/
import Derived.Test.YtfddibdncniekaaDoorAid
import Derived.Handy
namespace Go.Proofs.YtfddibdncniekaaDoor
open Go.RowKit
set_option maxHeartbeats 1000000 in
theorem toHandState_any (x0 x1 : Int) (w : World) :
    Calls Tryd.prog 15 #[.agg #[.int .i64 x0, .int .i64 x1]] w fun e w' => e = .returned (.agg #[.int .i64 x0, .int .i64 x1]) ∧ Below w.heap.size w w' := by
  go_enter Tryd.func15, Tryd.ntmps15
  go_wp2
  try simp only [Exit.inBlock, Exit.then]
  refine bodyPost_ret (v := .agg #[.int .i64 x0, .int .i64 x1]) ?_ rfl ?_
  · simp [results, Tryd.results15, go_sem]
  exact ⟨rfl, by go_grown⟩
set_option maxHeartbeats 1000000 in
theorem eqHandState_true (x0 x1 : Int) (w : World) :
    Calls Tryd.prog 17 #[.agg #[.int .i64 x0, .int .i64 x1], .agg #[.int .i64 x0, .int .i64 x1]] w fun e w' => e = .returned (.bool true) ∧ Below w.heap.size w w' := by
  go_enter Tryd.func17, Tryd.ntmps17
  go_wp2
  go_ret
  exact ⟨rfl, by go_grown⟩
end Go.Proofs.YtfddibdncniekaaDoor
