/- '==' and '!=' on values of Pin. -/
import Derived.Test.YtgaohmbgjjhdbaaGreatDoorProg
import Derived.Test.YtgaohmbgjjhdbaaGreatDoorBase
import Derived.Laws.StructEq
namespace Go.Proofs.YtgaohmbgjjhdbaaGreatDoor
open Go.RowKit

theorem eqIn_Pin (d : Nat) (a b a' b' : Int) (w : World) : (Op.equalIn (d + 2) 49 (.agg #[.int .i64 a, .int .i64 b]) (.agg #[.int .i64 a', .int .i64 b'])).run Tryz.prog w = .ok ((a == a') && (b == b')) w := by
  rw [run_equalIn_struct w (d + 1) 49 _ _ (by kernel_rfl) (by kernel_rfl)]
  simp only [Program.fieldsOf, Tryz.underlying49]
  cases e1 : (a == a') <;> cases e2 : (b == b') <;> simp [Op.eqFields, e1, e2, run_equalIn_int, Tryz.underlying2, go_sem]
theorem eqGuard_Pin (op : BinOp) (x y : Operand) (xs ys : Array Value) (w : World) : (eqGuard op 49 x y (.agg xs) (.agg ys)).run Tryz.prog w = .ok () w := run_eqGuard_agg w op _ x y xs ys (by kernel_rfl)
theorem eql_Pin (a b a' b' : Int) (w : World) : (binOp .eql 49 (.agg #[.int .i64 a, .int .i64 b]) (.agg #[.int .i64 a', .int .i64 b'])).run Tryz.prog w = .ok (.bool ((a == a') && (b == b'))) w := by
  rw [run_eql_struct, eqIn_Pin 9998]; rfl
theorem neq_Pin (a b a' b' : Int) (w : World) : (binOp .neq 49 (.agg #[.int .i64 a, .int .i64 b]) (.agg #[.int .i64 a', .int .i64 b'])).run Tryz.prog w = .ok (.bool (!((a == a') && (b == b')))) w := by
  rw [run_neq_struct, eqIn_Pin 9998]; rfl
end Go.Proofs.YtgaohmbgjjhdbaaGreatDoor
