/- Chimes: what DrawTurnBarrel and DrawPlayBarrel draw: some barrel and numbers. -/
import Derived.Test.YtgaohmbgjjhdbaaGreatDoorDrV
namespace Go.Proofs.YtgaohmbgjjhdbaaGreatDoor
open Go.RowKit
attribute [local go_sem ↓] Go.wp_at_zero Go.wp_at_succ

theorem below_drewB (w : World) : Below w.heap.size w w.drew := by go_grown
theorem l00From_c (v : Value) (bs : List Int) (W w : World) (hv : SlB W v bs) (hb : Below W.heap.size W w) (g : Nat) (hg : w.heap.size = g) :
    Calls Tryz.prog 16 #[v] w fun e w' => e = .returned (.pointer (some ⟨g, 0, none⟩)) ∧ Src W w' g v bs 0 ∧ Below w.heap.size w w' := by
  subst hg
  refine (l00From_any v bs w (hv.below hb)).mono fun e w' ⟨he, h1, h2, h3, a, s, ha, hs, hk⟩ => ⟨he, ⟨hv, hb.size, hb.trans (h3.mono hb.size), a, s, ha, hs, hk⟩, h3⟩
theorem cell4B {w : World} {g : Nat} {t : TypeId} {a b c d : Int} (h : Blk w g t #[.int .i64 a, .int .i64 b, .int .i64 c, .int .i64 d]) : ∀ j, j < [a, b, c, d].length → w.cell? ⟨g, j, none⟩ = some (.int .i64 (ix [a, b, c, d] j)) := by
  intro j hj
  match j, hj with
  | 0, _ => exact h.cell 0 rfl
  | 1, _ => exact h.cell 1 rfl
  | 2, _ => exact h.cell 2 rfl
  | 3, _ => exact h.cell 3 rfl
/-- What a draw of a barrel and a number leaves. -/
def TurnPost (W : World) (e : Ending) (w' : World) : Prop := ∃ (v : Value) (st bl : Int) (ps : List (Int × Int)) (x : Int), e = .returned (.tuple #[.agg #[.int .i64 st, .int .i64 bl, v], .int .i64 x]) ∧ w'.ownsRow W.heap.size 49 2 v ps.length (P64 ps) ∧ BentOk st bl ps ∧ Below W.heap.size W w'
/-- What a draw of a barrel and two numbers leaves. -/
def PlayPost (W : World) (e : Ending) (w' : World) : Prop := ∃ (v : Value) (st bl : Int) (ps : List (Int × Int)) (x y : Int), e = .returned (.tuple #[.agg #[.int .i64 st, .int .i64 bl, v], .int .i64 x, .int .i64 y]) ∧ w'.ownsRow W.heap.size 49 2 v ps.length (P64 ps) ∧ BentOk st bl ps ∧ Below W.heap.size W w'



end Go.Proofs.YtgaohmbgjjhdbaaGreatDoor
