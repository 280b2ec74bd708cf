/- Contracts of the laws' own helpers on slices of Pin: equality, marks; append of one Pin. -/
import Derived.Test.YtgaohmbgjjhdbaaGreatDoorPxB
import Derived.Test.YtgaohmbgjjhdbaaGreatDoorBx
import Derived.Test.YtgaohmbgjjhdbaaGreatDoorSiPin
import Derived.Handy
import Derived.Deep.DrawnRows
namespace Go.Proofs.YtgaohmbgjjhdbaaGreatDoor
open Go.RowKit
attribute [local go_sem ↓] Go.wp_at_zero Go.wp_at_succ
attribute [local go_sem] cell?_grow frozen?_grow


theorem pin_info : (Tryz.prog.info? 49).map (fun i => (i.zero, i.size, i.bytes)) = some (some (.agg #[.int .i64 0, .int .i64 0]), 2, 16) := by kernel_rfl



section
variable {w : World} {ops : Array Oper} {rest : List Oper} {o : Oper} {a : Act} {Q : Exit → Act → World → Prop}
/-- 'ps = append(ps, Pin{x, y})' on what the call owns; what it leaves alone. -/
theorem wpList_appPin (hgd : o.guard = none) (s x : Operand) (ho : o.op = .call { callee := .builtin .append, args := #[s, x], argTypes := #[24, 24] })
    (base : Nat) (v : Value) (ps : List (Int × Int)) (hs : a.eval s = v) (hown : w.ownsRow base 49 2 v ps.length (P64 ps)) (m n : Int)
    (g : Nat) (hx : a.eval x = .slice (some ⟨g, 0, none⟩) 1 1) (hg : w.heap.size = g) (hn : ps.length ≤ 134217728) (hbase : base ≤ w.heap.size)
    (h : ∀ v' w', w'.ownsRow base 49 2 v' (ps ++ [(m, n)]).length (P64 (ps ++ [(m, n)])) → Below base w w' → w.grownBy w' v.ownBlock → wpList Tryz.prog ops Q rest (a.put o.dst v') w') :
    wpList Tryz.prog ops Q (o :: rest) a (w.alloc (.cells #[.int .i64 m, .int .i64 n] 49)) := by
  subst hg
  obtain ⟨i0, hi, hz0, hz1, hz2⟩ := info_parts pin_info
  exact wpList_app hgd s x _ ho Tryz.underlying24 hi hz0 hz1 hz2 rfl (by decide) (by decide) base v ps.length (P64 ps) hs hown [.int .i64 m, .int .i64 n] rfl (by intro u hu; simp at hu; rcases hu with rfl | rfl <;> rfl) hx hn hbase
    (fun v' w' h1 h2 h3 _ => h v' w' (by rw [P64_append]; simpa [P64] using h1) h2 h3)
end
end Go.Proofs.YtgaohmbgjjhdbaaGreatDoor
