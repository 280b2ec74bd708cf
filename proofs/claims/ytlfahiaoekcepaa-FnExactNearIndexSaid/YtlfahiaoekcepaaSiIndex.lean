/- Contracts of the laws' own helpers on a Index: its copy, equality. -/
import Derived.Test.YtlfahiaoekcepaaCpy
import Derived.Handy
namespace Go.Proofs.Ytlfahiaoekcepaa
open Go.RowKit
set_option maxHeartbeats 1000000 in
theorem toIndex_any (x0 x1 x2 : Int) (w : World) :
    Calls Try.prog 17 #[.agg #[.int .i64 x0, .int .i64 x1, .int .i64 x2]] w fun e w' => e = .returned (.agg #[.int .i64 x0, .int .i64 x1, .int .i64 x2]) ∧ Below w.heap.size w w' := by
  go_enter Try.func17, Try.ntmps17
  go_wp2
  try simp only [Exit.inBlock, Exit.then]
  refine bodyPost_ret (v := .agg #[.int .i64 x0, .int .i64 x1, .int .i64 x2]) ?_ rfl ?_
  · simp [results, Try.results17, go_sem]
  exact ⟨rfl, by go_grown⟩
set_option maxHeartbeats 1000000 in
theorem eqIndex_true (x0 x1 x2 : Int) (w : World) :
    Calls Try.prog 23 #[.agg #[.int .i64 x0, .int .i64 x1, .int .i64 x2], .agg #[.int .i64 x0, .int .i64 x1, .int .i64 x2]] w fun e w' => e = .returned (.bool true) ∧ Below w.heap.size w w' := by
  go_enter Try.func23, Try.ntmps23
  go_wp2
  go_ret
  exact ⟨rfl, by go_grown⟩
end Go.Proofs.Ytlfahiaoekcepaa
