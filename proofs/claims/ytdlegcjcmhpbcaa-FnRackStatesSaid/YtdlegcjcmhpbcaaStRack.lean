/- Contracts of the laws' own helpers on a Rack: its measure, its copy, equality, marks. -/
import Derived.Test.YtdlegcjcmhpbcaaCpy
import Derived.Handy
namespace Go.Proofs.Ytdlegcjcmhpbcaa
open Go.RowKit

set_option maxHeartbeats 400000 in
theorem szRack_fits (v : Value) (xs : List Int) (a : Int) (left : Int) (w : World) (hv : Sl w v xs) (h : (xs.length : Int) ≤ left) (hl : left ≤ 1048576) :
    Calls Try.prog 12 #[.agg #[v, .int .i64 a], .int .i64 left] w fun e w' => e = .returned (.int .i64 (left - xs.length)) ∧ Below w.heap.size w w' := by
  have h1 : 0 ≤ left - xs.length := by omega
  have H1 := Lib.hid (fun o => szInt64S_fits v xs left (w.alloc o) (hv.alloc o) h hl)
  clear hv
  go_enter Try.func12, Try.ntmps12
  go_wp2_with (go_at_call 29; refine (H1.out _).mono ?_; rintro e w' ⟨rfl, rfl⟩)
  go_ret
  exact ⟨rfl, by go_grown⟩
set_option maxHeartbeats 400000 in
theorem szRack_big (v : Value) (xs : List Int) (a : Int) (left : Int) (w : World) (hv : Sl w v xs) (h : left < (xs.length : Int)) (h0 : 0 ≤ left) :
    Calls Try.prog 12 #[.agg #[v, .int .i64 a], .int .i64 left] w fun e w' => e = .returned (.int .i64 (-1)) ∧ Below w.heap.size w w' := by
  have H1 := Lib.hid (fun o => szInt64S_big v xs left (w.alloc o) (hv.alloc o) h h0)
  clear hv
  go_enter Try.func12, Try.ntmps12
  go_wp2_with (go_at_call 29; refine (H1.out _).mono ?_; rintro e w' ⟨rfl, rfl⟩)
  go_ret
  exact ⟨rfl, by go_grown⟩

set_option maxHeartbeats 1000000 in
theorem toRack_any (v : Value) (xs : List Int) (a : Int) (w : World) (hv : Sl w v xs) (hl : xs.length ≤ 1048576) :
    Calls Try.prog 13 #[.agg #[v, .int .i64 a]] w fun e w' => ∃ v', e = .returned (.agg #[v', .int .i64 a]) ∧ w'.ownsRow w.heap.size 2 1 v' xs.length (I64 xs) ∧ Below w.heap.size w w' := by
  have H1 := Lib.hid (fun w' (hb : Below w.heap.size w w') => toInt64S_any v xs w' (hv.below hb) hl)
  clear hv
  go_enter Try.func13, Try.ntmps13
  go_wp2_with fail
  refine (H1.out _ (by go_grown)).mono ?_
  rintro e w1 ⟨v', rfl, hown, hb⟩
  obtain ⟨A', c', rfl⟩ := own_form hown
  obtain ⟨hc, hf⟩ := bcell hb
  have hs : w.heap.size + 2 < w1.heap.size := by have := hb.size; simp at this; omega
  have HB : Below w.heap.size w w1 := Below.trans (by go_grown) (hb.mono (by simp; omega))
  have HO0 : w1.ownsRow (w.heap.size + 1 + 1 + 1) 2 1 (.slice A' xs.length c') xs.length (I64 xs) := by simpa using hown
  have HO := Lib.hid HO0
  clear hown HO0 hb
  go_wp2
  try simp only [Exit.inBlock, Exit.then]
  refine bodyPost_ret (v := .agg #[.slice A' xs.length c', .int .i64 a]) ?_ rfl ?_
  · simp [results, Try.results13, go_sem, hc]
  refine ⟨_, rfl, ?_, ?_⟩
  · refine own_mono (base := w.heap.size + 1 + 1 + 1) ?_ (by omega)
    repeat (with_reducible refine own_setCell ?_ (by dsimp only; omega) _)
    exact HO.out
  · go_grown

set_option maxHeartbeats 1000000 in
theorem eqRack_true (v v' : Value) (xs : List Int) (a : Int) (w : World) (hv : Sl w v xs) (hv' : Sl w v' xs) :
    Calls Try.prog 15 #[.agg #[v, .int .i64 a], .agg #[v', .int .i64 a]] w fun e w' => e = .returned (.bool true) ∧ Below w.heap.size w w' := by
  have h1 := fun w' (hb : Below w.heap.size w w') => eqInt64S_any v v' xs xs w' (hv.below hb) (hv'.below hb)
  simp only [eqL_self] at h1
  have H1 := Lib.hid h1
  clear hv hv' h1
  go_enter Try.func15, Try.ntmps15
  go_wp2_with (go_at_call 31; refine (H1.out _ (by go_grown)).mono ?_; rintro e w1 ⟨rfl, k1, rfl⟩)
  go_ret
  exact ⟨rfl, below_drewN (by go_grown) _⟩


end Go.Proofs.Ytdlegcjcmhpbcaa
