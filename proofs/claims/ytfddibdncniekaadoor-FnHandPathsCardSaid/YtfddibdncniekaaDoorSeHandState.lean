/- '==' and '!=' on values of HandState. -/
import Derived.Test.YtfddibdncniekaaDoorProg
import Derived.Test.YtfddibdncniekaaDoorBase
import Derived.Laws.StructEq
namespace Go.Proofs.YtfddibdncniekaaDoor
open Go.RowKit

theorem eqIn_HandState (d : Nat) (a b a' b' : Int) (w : World) : (Op.equalIn (d + 2) 28 (.agg #[.int .i64 a, .int .i64 b]) (.agg #[.int .i64 a', .int .i64 b'])).run Tryd.prog w = .ok ((a == a') && (b == b')) w := by
  rw [run_equalIn_struct w (d + 1) 28 _ _ (by kernel_rfl) (by kernel_rfl)]
  simp only [Program.fieldsOf, Tryd.underlying28]
  cases e1 : (a == a') <;> cases e2 : (b == b') <;> simp [Op.eqFields, e1, e2, run_equalIn_int, Tryd.underlying2, go_sem]
theorem eqGuard_HandState (op : BinOp) (x y : Operand) (xs ys : Array Value) (w : World) : (eqGuard op 28 x y (.agg xs) (.agg ys)).run Tryd.prog w = .ok () w := run_eqGuard_agg w op _ x y xs ys (by kernel_rfl)
theorem eql_HandState (a b a' b' : Int) (w : World) : (binOp .eql 28 (.agg #[.int .i64 a, .int .i64 b]) (.agg #[.int .i64 a', .int .i64 b'])).run Tryd.prog w = .ok (.bool ((a == a') && (b == b'))) w := by
  rw [run_eql_struct, eqIn_HandState 9998]; rfl
theorem neq_HandState (a b a' b' : Int) (w : World) : (binOp .neq 28 (.agg #[.int .i64 a, .int .i64 b]) (.agg #[.int .i64 a', .int .i64 b'])).run Tryd.prog w = .ok (.bool (!((a == a') && (b == b')))) w := by
  rw [run_neq_struct, eqIn_HandState 9998]; rfl
end Go.Proofs.YtfddibdncniekaaDoor
