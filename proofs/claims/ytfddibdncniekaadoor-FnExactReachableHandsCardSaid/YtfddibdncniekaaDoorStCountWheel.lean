/- Contracts of the laws' own helpers on a CountWheel: its measure, its copy, equality, marks. -/
import Derived.Test.YtfddibdncniekaaDoorCpy
import Derived.Handy
namespace Go.Proofs.YtfddibdncniekaaDoor
open Go.RowKit

set_option maxHeartbeats 400000 in
theorem szCountWheel_fits (v : Value) (xs : List Int) (left : Int) (w : World) (hv : Sl w v xs) (h : (xs.length : Int) ≤ left) (hl : left ≤ 1048576) :
    Calls Tryd.prog 12 #[.agg #[v], .int .i64 left] w fun e w' => e = .returned (.int .i64 (left - xs.length)) ∧ Below w.heap.size w w' := by
  have h1 : 0 ≤ left - xs.length := by omega
  have H1 := Lib.hid (fun o => szInt64S_fits v xs left (w.alloc o) (hv.alloc o) h hl)
  clear hv
  go_enter Tryd.func12, Tryd.ntmps12
  go_wp2_with (go_at_call 51; refine (H1.out _).mono ?_; rintro e w' ⟨rfl, rfl⟩)
  go_ret
  exact ⟨rfl, by go_grown⟩
set_option maxHeartbeats 400000 in
theorem szCountWheel_big (v : Value) (xs : List Int) (left : Int) (w : World) (hv : Sl w v xs) (h : left < (xs.length : Int)) (h0 : 0 ≤ left) :
    Calls Tryd.prog 12 #[.agg #[v], .int .i64 left] w fun e w' => e = .returned (.int .i64 (-1)) ∧ Below w.heap.size w w' := by
  have H1 := Lib.hid (fun o => szInt64S_big v xs left (w.alloc o) (hv.alloc o) h h0)
  clear hv
  go_enter Tryd.func12, Tryd.ntmps12
  go_wp2_with (go_at_call 51; refine (H1.out _).mono ?_; rintro e w' ⟨rfl, rfl⟩)
  go_ret
  exact ⟨rfl, by go_grown⟩

set_option maxHeartbeats 1000000 in
theorem toCountWheel_any (v : Value) (xs : List Int) (w : World) (hv : Sl w v xs) (hl : xs.length ≤ 1048576) :
    Calls Tryd.prog 14 #[.agg #[v]] w fun e w' => ∃ v', e = .returned (.agg #[v']) ∧ w'.ownsRow w.heap.size 2 1 v' xs.length (I64 xs) ∧ Below w.heap.size w w' := by
  have H1 := Lib.hid (fun w' (hb : Below w.heap.size w w') => toInt64S_any v xs w' (hv.below hb) hl)
  clear hv
  go_enter Tryd.func14, Tryd.ntmps14
  go_wp2_with fail
  refine (H1.out _ (by go_grown)).mono ?_
  rintro e w1 ⟨v', rfl, hown, hb⟩
  obtain ⟨A', c', rfl⟩ := own_form hown
  obtain ⟨hc, hf⟩ := bcell hb
  have hs : w.heap.size + 2 < w1.heap.size := by have := hb.size; simp at this; omega
  have HB : Below w.heap.size w w1 := Below.trans (by go_grown) (hb.mono (by simp; omega))
  have HO0 : w1.ownsRow (w.heap.size + 1 + 1 + 1) 2 1 (.slice A' xs.length c') xs.length (I64 xs) := by simpa using hown
  have HO := Lib.hid HO0
  clear hown HO0 hb
  go_wp2
  try simp only [Exit.inBlock, Exit.then]
  refine bodyPost_ret (v := .agg #[.slice A' xs.length c']) ?_ rfl ?_
  · simp [results, Tryd.results14, go_sem, hc]
  refine ⟨_, rfl, ?_, ?_⟩
  · refine own_mono (base := w.heap.size + 1 + 1 + 1) ?_ (by omega)
    repeat (with_reducible refine own_setCell ?_ (by dsimp only; omega) _)
    exact HO.out
  · go_grown

set_option maxHeartbeats 1000000 in
theorem eqCountWheel_true (v v' : Value) (xs : List Int) (w : World) (hv : Sl w v xs) (hv' : Sl w v' xs) :
    Calls Tryd.prog 19 #[.agg #[v], .agg #[v']] w fun e w' => e = .returned (.bool true) ∧ Below w.heap.size w w' := by
  have h1 := fun w' (hb : Below w.heap.size w w') => eqInt64S_any v v' xs xs w' (hv.below hb) (hv'.below hb)
  simp only [eqL_self] at h1
  have H1 := Lib.hid h1
  clear hv hv' h1
  go_enter Tryd.func19, Tryd.ntmps19
  go_wp2_with (go_at_call 18; refine (H1.out _ (by go_grown)).mono ?_; rintro e w1 ⟨rfl, k1, rfl⟩)
  go_ret
  exact ⟨rfl, below_drewN (by go_grown) _⟩

set_option maxHeartbeats 1000000 in
theorem markCountWheel_any (v : Value) (k : Int) (xs : List Int) (base : Nat) (w : World) (hv : w.ownsRow base 2 1 v xs.length (I64 xs)) (h0 : 0 ≤ k) (hk : k ≤ 4294967296) (hm : xs.length ≤ 4294967296) :
    Calls Tryd.prog 20 #[.agg #[v], .int .i64 k] w fun e w' => e = .returned (.int .i64 (k + xs.length)) ∧ w'.ownsRow base 2 1 v (runUp k xs.length).length (I64 (runUp k xs.length)) ∧ w.grownBy w' v.ownBlock := by
  have H1 := Lib.hid (fun o => markInt64S_any v k xs base (w.alloc o) (hv.alloc o) h0 hk hm)
  clear hv
  go_enter Tryd.func20, Tryd.ntmps20
  go_wp2_with (go_at_call 21; refine (H1.out _).mono ?_; rintro e w1 ⟨rfl, ho, hg⟩)
  go_ret
  exact ⟨rfl, ho, grown_trans (World.grownBy_alloc w _ _) hg⟩

end Go.Proofs.YtfddibdncniekaaDoor
