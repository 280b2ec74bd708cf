/- Contracts of the small helpers on slices of numbers: eqInt64S, heldInt64S, markInt64S; the two tests on bounds. -/
import Derived.Test.YtgaohmbgjjhdbaaGreatDoorProg
import Derived.Test.YtgaohmbgjjhdbaaGreatDoorBase
import Derived.BigQuiet
import Derived.Deep.QuietTactic
namespace Go.Proofs.YtgaohmbgjjhdbaaGreatDoor
open Go.RowKit

theorem int_info : (Tryz.prog.info? 2).map (fun i => (i.zero, i.size, i.bytes)) = some (some (.int .i64 0), 1, 8) := by kernel_rfl

section
variable {w : World} {ops : Array Oper} {rest : List Oper} {o : Oper} {a : Act} {Q : Exit → Act → World → Prop}
/-- 'xs = append(xs, x)' on numbers that the call owns. -/
theorem wpList_app1 (hgd : o.guard = none) (s x : Operand) (ho : o.op = .call { callee := .builtin .append, args := #[s, x], argTypes := #[27, 27] })
    (base : Nat) (v : Value) (xs : List Int) (hs : a.eval s = v) (hown : w.ownsRow base 2 1 v xs.length (I64 xs)) (n : Int)
    (hx : a.eval x = .slice (some ⟨w.heap.size, 0, none⟩) 1 1) (hn : xs.length ≤ 134217728) (hbase : base ≤ w.heap.size)
    (h : ∀ v' w', w'.ownsRow base 2 1 v' (xs ++ [n]).length (I64 (xs ++ [n])) → Below base w w' → wpList Tryz.prog ops Q rest (a.put o.dst v') w') :
    wpList Tryz.prog ops Q (o :: rest) a (w.alloc (.cells #[.int .i64 n] 2)) := by
  obtain ⟨i0, hi, hz0, hz1, hz2⟩ := info_parts int_info
  exact wpList_app hgd s x _ ho Tryz.underlying27 hi hz0 hz1 hz2 rfl (by decide) (by decide) base v xs.length (I64 xs) hs hown [.int .i64 n] rfl (by intro u hu; simp at hu; subst hu; rfl) hx hn hbase
    (fun v' w' h1 h2 _ _ => h v' w' (by simpa [I64] using h1) h2)
end

set_option maxHeartbeats 400000 in
theorem within_any (n lo hi : Int) (w : World) :
    Calls Tryz.prog 43 #[.int .i64 n, .int .i64 lo, .int .i64 hi] w fun e w' => e = .returned (.bool (inB n lo hi)) ∧ w = w' := by
  go_enter Tryz.func43, Tryz.ntmps43
  go_wp2
  all_goals go_ret
  · exact ⟨ret_b (inB_second (by assumption)).symm, rfl⟩
  · exact ⟨ret_b (inB_f1 (by assumption)).symm, rfl⟩
set_option maxHeartbeats 400000 in
theorem l00In_any (n lo hi : Int) (w : World) :
    Calls Tryz.prog 48 #[.int .i64 n, .int .i64 lo, .int .i64 hi] w fun e w' => e = .returned (.bool (inB n lo hi)) ∧ w = w' := by
  go_enter Tryz.func48, Tryz.ntmps48
  go_wp2
  all_goals go_ret
  · exact ⟨ret_b (inB_second (by assumption)).symm, rfl⟩
  · exact ⟨ret_b (inB_f1 (by assumption)).symm, rfl⟩


end Go.Proofs.YtgaohmbgjjhdbaaGreatDoor
