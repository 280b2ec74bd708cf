/- Hands: the order of states, and the reference's l23Less. (Written by convert.py out of ChP.) -/
import Derived.Test.YtfddibdncniekaaDoorPxHandState
namespace Go.Proofs.YtfddibdncniekaaDoor
open Go.RowKit
attribute [local go_sem ↓] Go.wp_at_zero Go.wp_at_succ

def befP (p q : Int × Int) : Bool := decide (p.1 < q.1) || (decide (p.1 = q.1) && decide (p.2 < q.2))
set_option maxHeartbeats 4000000 in
theorem l23Less_any (p q : Int × Int) (w : World) :
    Calls Tryd.prog 97 #[.agg #[.int .i64 p.1, .int .i64 p.2], .agg #[.int .i64 q.1, .int .i64 q.2]] w fun e w' => e = .returned (.bool (befP p q)) ∧ Below w.heap.size w w' := by
  obtain ⟨a, b⟩ := p
  obtain ⟨c, d⟩ := q
  by_cases h1 : a < c
  · have HB : Hid (befP (a, b) (c, d) = true) := by show _ = _; simp [befP, h1]
    go_enter Tryd.func97, Tryd.ntmps97
    go_wp2
    go_ret
    exact ⟨ret_b HB.out.symm, by go_grown⟩
  · by_cases h2 : a = c
    · have HB : Hid (befP (a, b) (c, d) = decide (b < d)) := by show _ = _; simp [befP, h2]
      have e2 : (a == c) = true := by simp [h2]
      clear h2
      go_enter Tryd.func97, Tryd.ntmps97
      go_wp2
      go_ret
      exact ⟨ret_b HB.out.symm, by go_grown⟩
    · have HB : Hid (befP (a, b) (c, d) = false) := by show _ = _; simp [befP, h1, h2]
      have e2 : (a == c) = false := by simpa using h2
      clear h2
      go_enter Tryd.func97, Tryd.ntmps97
      go_wp2
      go_ret
      exact ⟨ret_b HB.out.symm, by go_grown⟩
theorem l23Less_r (p q : Int × Int) (b : Bool) (w : World) (h : befP p q = b) :
    Calls Tryd.prog 97 #[.agg #[.int .i64 p.1, .int .i64 p.2], .agg #[.int .i64 q.1, .int .i64 q.2]] w fun e w' => e = .returned (.bool b) ∧ Below w.heap.size w w' :=
  (l23Less_any p q w).mono fun _ _ ⟨he, hw⟩ => ⟨by rw [he, h], hw⟩

end Go.Proofs.YtfddibdncniekaaDoor
