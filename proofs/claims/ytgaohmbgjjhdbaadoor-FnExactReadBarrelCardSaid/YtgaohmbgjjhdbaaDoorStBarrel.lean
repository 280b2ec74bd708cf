/- Contracts of the laws' own helpers on a Barrel: its measure, its copy, equality, marks. -/
import Derived.Test.YtgaohmbgjjhdbaaDoorCpPin
namespace Go.Proofs.YtgaohmbgjjhdbaaDoor
open Go.RowKit

set_option maxHeartbeats 400000 in
theorem szBarrel_fits (v : Value) (ps : List (Int × Int)) (a b : Int) (left : Int) (w : World) (hv : SlP w v ps) (h : (ps.length : Int) ≤ left) (hl : left ≤ 1048576) :
    Calls Tryd.prog 5 #[.agg #[.int .i64 a, .int .i64 b, v], .int .i64 left] w fun e w' => e = .returned (.int .i64 (left - ps.length)) ∧ Below w.heap.size w w' := by
  have h1 : 0 ≤ left - ps.length := by omega
  have H1 := Lib.hid (fun o => szPinS_fits v ps left (w.alloc o) (hv.alloc o) h hl)
  clear hv
  go_enter Tryd.func5, Tryd.ntmps5
  go_wp2_with (go_at_call 14; refine (H1.out _).mono ?_; rintro e w' ⟨rfl, rfl⟩)
  go_ret
  exact ⟨rfl, by go_grown⟩
set_option maxHeartbeats 400000 in
theorem szBarrel_big (v : Value) (ps : List (Int × Int)) (a b : Int) (left : Int) (w : World) (hv : SlP w v ps) (h : left < (ps.length : Int)) (h0 : 0 ≤ left) :
    Calls Tryd.prog 5 #[.agg #[.int .i64 a, .int .i64 b, v], .int .i64 left] w fun e w' => e = .returned (.int .i64 (-1)) ∧ Below w.heap.size w w' := by
  have H1 := Lib.hid (fun o => szPinS_big v ps left (w.alloc o) (hv.alloc o) h h0)
  clear hv
  go_enter Tryd.func5, Tryd.ntmps5
  go_wp2_with (go_at_call 14; refine (H1.out _).mono ?_; rintro e w' ⟨rfl, rfl⟩)
  go_ret
  exact ⟨rfl, by go_grown⟩

set_option maxHeartbeats 2000000 in
theorem toBarrel_any (v : Value) (ps : List (Int × Int)) (a b : Int) (w : World) (hv : SlP w v ps) (hl : ps.length ≤ 1048576) :
    Calls Tryd.prog 7 #[.agg #[.int .i64 a, .int .i64 b, v]] w fun e w' => ∃ v', e = .returned (.agg #[.int .i64 a, .int .i64 b, v']) ∧ w'.ownsRow w.heap.size 51 2 v' ps.length (P64 ps) ∧ Below w.heap.size w w' := by
  have H1 := Lib.hid (fun w' (hb : Below w.heap.size w w') => toPinS_any v ps w' (hv.below hb) hl)
  clear hv
  go_enter Tryd.func7, Tryd.ntmps7
  go_wp2_with fail
  refine (H1.out _ (by go_grown)).mono ?_
  rintro e w1 ⟨v', rfl, hown, hb⟩
  obtain ⟨A', c', rfl⟩ := own_form hown
  obtain ⟨hc, hf⟩ := bcell hb
  have hs : w.heap.size + 2 < w1.heap.size := by have := hb.size; simp at this; omega
  have HB : Below w.heap.size w w1 := Below.trans (by go_grown) (hb.mono (by simp; omega))
  have HO0 : w1.ownsRow (w.heap.size + 1 + 1 + 1) 51 2 (.slice A' ps.length c') ps.length (P64 ps) := by simpa using hown
  have HO := Lib.hid HO0
  clear hown HO0 hb
  go_wp2
  try simp only [Exit.inBlock, Exit.then]
  refine bodyPost_ret (v := .agg #[.int .i64 a, .int .i64 b, .slice A' ps.length c']) ?_ rfl ?_
  · simp [results, Tryd.results7, go_sem, hc]
  refine ⟨_, rfl, ?_, ?_⟩
  · refine own_mono (base := w.heap.size + 1 + 1 + 1) ?_ (by omega)
    repeat (with_reducible refine own_setCell ?_ (by dsimp only; omega) _)
    exact HO.out
  · go_grown

set_option maxHeartbeats 1000000 in
theorem eqBarrel_true (v v' : Value) (ps : List (Int × Int)) (a b : Int) (w : World) (hv : SlP w v ps) (hv' : SlP w v' ps) :
    Calls Tryd.prog 9 #[.agg #[.int .i64 a, .int .i64 b, v], .agg #[.int .i64 a, .int .i64 b, v']] w fun e w' => e = .returned (.bool true) ∧ Below w.heap.size w w' := by
  have H1 := Lib.hid (fun w' (hb : Below w.heap.size w w') => eqPinS_b v v' ps w' (hv.below hb) (hv'.below hb))
  clear hv hv'
  go_enter Tryd.func9, Tryd.ntmps9
  go_wp2_with fail
  refine (H1.out _ (by go_grown)).mono ?_
  rintro e w1 ⟨rfl, hb⟩
  go_wp2
  go_ret
  exact ⟨rfl, Below.trans (by go_grown) (hb.mono (by simp; omega))⟩

set_option maxHeartbeats 1000000 in
theorem markBarrel_any (v : Value) (k : Int) (ps : List (Int × Int)) (a b : Int) (base : Nat) (w : World) (hv : w.ownsRow base 51 2 v ps.length (P64 ps)) (h0 : 0 ≤ k) (hk : k ≤ 4294967296) (hm : ps.length ≤ 4294967296) :
    Calls Tryd.prog 12 #[.agg #[.int .i64 a, .int .i64 b, v], .int .i64 k] w fun e w' => e = .returned (.int .i64 (k + 2 * ps.length)) ∧ w'.ownsRow base 51 2 v (runP k ps.length).length (P64 (runP k ps.length)) ∧ w.grownBy w' v.ownBlock := by
  have H1 := Lib.hid (fun o => markPinS_any v k ps base (w.alloc o) (hv.alloc o) h0 hk hm)
  clear hv
  go_enter Tryd.func12, Tryd.ntmps12
  go_wp2_with (go_at_call 28; refine (H1.out _).mono ?_; rintro e w1 ⟨rfl, ho, hg⟩)
  go_ret
  exact ⟨rfl, ho, grown_trans (World.grownBy_alloc w _ _) hg⟩
set_option maxHeartbeats 1000000 in
theorem heldBarrel_any (v : Value) (k : Int) (m : Nat) (a b : Int) (w : World) (hv : SlP w v (runP k m)) (h0 : 0 ≤ k) (hk : k ≤ 4294967296) (hm : m ≤ 4294967296) :
    Calls Tryd.prog 13 #[.agg #[.int .i64 a, .int .i64 b, v], .int .i64 k] w fun e w' => e = .returned (.int .i64 (k + 2 * m)) ∧ Below w.heap.size w w' := by
  have H1 := Lib.hid (fun o => heldPinS_any v k m (w.alloc o) (hv.alloc o) h0 hk hm)
  clear hv
  go_enter Tryd.func13, Tryd.ntmps13
  go_wp2_with (go_at_call 29; refine (H1.out _).mono ?_; rintro e w' ⟨rfl, rfl⟩)
  go_ret
  exact ⟨rfl, by go_grown⟩
end Go.Proofs.YtgaohmbgjjhdbaaDoor
