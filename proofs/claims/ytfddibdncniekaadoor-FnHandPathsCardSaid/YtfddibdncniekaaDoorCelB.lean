/- Words on the cells of a block, whatever else is known of it. -/
import Derived.Test.YtfddibdncniekaaDoorBx
namespace Go.Proofs.YtfddibdncniekaaDoor
open Go.RowKit
/-- What the cells of a block hold. -/
def Cels (w : World) (g : Nat) (cs : Array Value) : Prop := g < w.heap.size ∧ ∀ i v, cs[i]? = some v → w.cell? ⟨g, i, none⟩ = some v
theorem Cels.lt {w : World} {g : Nat} {cs : Array Value} (h : Cels w g cs) : g < w.heap.size := h.1
theorem Cels.cell {w : World} {g : Nat} {cs : Array Value} (h : Cels w g cs) (i : Nat) {v : Value} (hv : cs[i]? = some v) : w.cell? ⟨g, i, none⟩ = some v := h.2 i v hv
theorem Cels.below {w w' : World} {g : Nat} {cs : Array Value} (h : Cels w g cs) (hb : Below w.heap.size w w') : Cels w' g cs :=
  ⟨Nat.lt_of_lt_of_le h.1 hb.size, fun i v hv => (hb.cell (p := ⟨g, i, none⟩) h.1).trans (h.2 i v hv)⟩
theorem Cels.two {w : World} {g : Nat} {a b : Value} (hl : g < w.heap.size) (h0 : w.cell? ⟨g, 0, none⟩ = some a) (h1 : w.cell? ⟨g, 1, none⟩ = some b) : Cels w g #[a, b] := ⟨hl, fun i v hv => by
  rcases (show i = 0 ∨ i = 1 ∨ 2 ≤ i by omega) with rfl | rfl | h
  · rw [h0]; exact hv
  · rw [h1]; exact hv
  · rw [Array.getElem?_eq_none (by simpa using h)] at hv; cases hv⟩
end Go.Proofs.YtfddibdncniekaaDoor
