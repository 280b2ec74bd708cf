/- '==' and '!=' on values of RackState. -/
import Derived.Test.YtipakagmbppagaaProg
import Derived.Test.YtipakagmbppagaaBase
import Derived.Laws.StructEq
namespace Go.Proofs.Ytipakagmbppagaa
open Go.RowKit

theorem eqIn_RackState (d : Nat) (a b a' b' : Int) (w : World) : (Op.equalIn (d + 2) 34 (.agg #[.int .i64 a, .int .i64 b]) (.agg #[.int .i64 a', .int .i64 b'])).run Try.prog w = .ok ((a == a') && (b == b')) w := by
  rw [run_equalIn_struct w (d + 1) 34 _ _ (by kernel_rfl) (by kernel_rfl)]
  simp only [Program.fieldsOf, Try.underlying34]
  cases e1 : (a == a') <;> cases e2 : (b == b') <;> simp [Op.eqFields, e1, e2, run_equalIn_int, Try.underlying2, go_sem]
theorem eqGuard_RackState (op : BinOp) (x y : Operand) (xs ys : Array Value) (w : World) : (eqGuard op 34 x y (.agg xs) (.agg ys)).run Try.prog w = .ok () w := run_eqGuard_agg w op _ x y xs ys (by kernel_rfl)
theorem eql_RackState (a b a' b' : Int) (w : World) : (binOp .eql 34 (.agg #[.int .i64 a, .int .i64 b]) (.agg #[.int .i64 a', .int .i64 b'])).run Try.prog w = .ok (.bool ((a == a') && (b == b'))) w := by
  rw [run_eql_struct, eqIn_RackState 9998]; rfl
theorem neq_RackState (a b a' b' : Int) (w : World) : (binOp .neq 34 (.agg #[.int .i64 a, .int .i64 b]) (.agg #[.int .i64 a', .int .i64 b'])).run Try.prog w = .ok (.bool (!((a == a') && (b == b')))) w := by
  rw [run_neq_struct, eqIn_RackState 9998]; rfl
end Go.Proofs.Ytipakagmbppagaa
