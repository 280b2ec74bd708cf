/- The setting of hands: which states are valid, in the program and in the reference. -/
import Derived.Test.YtfddibdncniekaaDoorWhV
namespace Go.Proofs.YtfddibdncniekaaDoor
open Go.RowKit
attribute [local go_sem ↓] Go.wp_at_zero Go.wp_at_succ

/-- A valid wheel and a valid state of it. -/
def hsB (gs : List Int) (h q : Int) : Bool := inB h 0 11 && inB q 0 ((gs.length : Int) - 1)
def hnB (gs : List Int) (h q : Int) : Bool := whB gs && hsB gs h q
theorem hsB_iff {gs : List Int} {h q : Int} : hsB gs h q = true ↔ (0 ≤ h ∧ h ≤ 11) ∧ 0 ≤ q ∧ q ≤ (gs.length : Int) - 1 := by simp [hsB, inB_iff]
theorem hnB_iff {gs : List Int} {h q : Int} : hnB gs h q = true ↔ whB gs = true ∧ hsB gs h q = true := by simp [hnB]
theorem hn_w {gs : List Int} {h q : Int} (e : whB gs = false) : hnB gs h q = false := by simp [hnB, e]
theorem hn_s {gs : List Int} {h q : Int} (e : whB gs = true) : hnB gs h q = hsB gs h q := by simp [hnB, e]
theorem hs_h {gs : List Int} {h q : Int} (e : inB h 0 11 = false) : hsB gs h q = false := by simp [hsB, e]
theorem hs_q {gs : List Int} {h q : Int} (e : inB h 0 11 = true) : hsB gs h q = inB q 0 ((gs.length : Int) - 1) := by simp [hsB, e]

set_option maxHeartbeats 2000000 in
theorem validHands_any (v : Value) (gs : List Int) (h q : Int) (w : World) (hv : Sl w v gs) :
    Calls Tryd.prog 71 #[.agg #[v], .agg #[.int .i64 h, .int .i64 q]] w fun e w' => e = .returned (.bool (hsB gs h q)) ∧ Below w.heap.size w w' := by
  have H1 := Lib.hid (fun w' (hb : Below w.heap.size w w') => isNotch_any v gs q w' (hv.below hb))
  clear hv
  cases hh : inB h 0 11 with
  | false =>
    have HX := Lib.hid (hs_h (gs := gs) (q := q) hh)
    have HB := Lib.hid hh
    clear hh
    go_enter Tryd.func71, Tryd.ntmps71
    go_wp2_with (go_at_call 94; refine (within_any _ _ _ _).mono ?_; rintro e w' ⟨rfl, rfl⟩; rw [HB.out])
    go_ret
    exact ⟨ret_b HX.out.symm, by go_grown⟩
  | true =>
    have HX := Lib.hid (hs_q (gs := gs) (q := q) hh)
    have HB := Lib.hid hh
    clear hh
    go_enter Tryd.func71, Tryd.ntmps71
    go_wp2_with (go_at_call 94; refine (within_any _ _ _ _).mono ?_; rintro e w' ⟨rfl, rfl⟩; rw [HB.out])
    refine (H1.out _ (by go_grown)).mono ?_
    rintro e w1 ⟨rfl, hb⟩
    go_wp2
    go_ret
    exact ⟨ret_b HX.out.symm, Below.trans (by go_grown) (hb.mono (by simp; omega))⟩

set_option maxHeartbeats 2000000 in
theorem ValidHands_i (v : Value) (gs : List Int) (h q : Int) (w : World) (hv : Sl w v gs) :
    Calls Tryd.prog 32 #[.agg #[v], .agg #[.int .i64 h, .int .i64 q]] w fun e w' => e = .returned (.bool (hnB gs h q)) ∧ Below w.heap.size w w' := by
  have H1 := Lib.hid (fun w' (hb : Below w.heap.size w w') => ValidCountWheel_i v gs w' (hv.below hb))
  have H2 := Lib.hid (fun w' (hb : Below w.heap.size w w') => validHands_any v gs h q w' (hv.below hb))
  clear hv
  cases hs : whB gs with
  | false =>
    have HX := Lib.hid (hn_w (h := h) (q := q) hs)
    have HB := Lib.hid hs
    clear hs
    go_enter Tryd.func32, Tryd.ntmps32
    go_wp2_with fail
    refine (H1.out _ (by go_grown)).mono ?_
    rintro e w1 ⟨rfl, hb⟩
    rw [HB.out]
    go_wp2
    go_ret
    exact ⟨ret_b HX.out.symm, Below.trans (by go_grown) (hb.mono (by simp; omega))⟩
  | true =>
    have HX := Lib.hid (hn_s (h := h) (q := q) hs)
    have HB := Lib.hid hs
    clear hs
    go_enter Tryd.func32, Tryd.ntmps32
    obtain ⟨k0, k1⟩ := bx2 w 31 28 #[v] #[.int .i64 h, .int .i64 q]
    have HK0 := Lib.hid k0
    have HK1 := Lib.hid k1
    clear k0 k1
    go_wp2_with fail
    refine (H1.out _ (by go_grown)).mono ?_
    rintro e w1 ⟨rfl, hb1⟩
    rw [HB.out]
    have j0 := HK0.out.below hb1
    have j1 := HK1.out.below hb1
    have q0 := j0.cell 0 rfl
    have q1 := j1.cell 0 rfl
    have q2 := j1.cell 1 rfl
    have B1 : Below w.heap.size w w1 := Below.trans (by go_grown) (hb1.mono (by simp; omega))
    clear hb1 HK0 HK1 j0 j1
    go_wp2_with fail
    refine (H2.out _ B1).mono ?_
    rintro e w2 ⟨rfl, hb2⟩
    go_wp2
    go_ret
    exact ⟨ret_b HX.out.symm, B1.trans (hb2.mono B1.size)⟩

set_option maxHeartbeats 4000000 in
theorem l23Ok_s (v : Value) (gs : List Int) (h q : Int) (w : World) (hv : Sl w v gs) :
    Calls Tryd.prog 52 #[.agg #[v], .agg #[.int .i64 h, .int .i64 q]] w fun e w' => e = .returned (.bool (hnB gs h q)) ∧ Below w.heap.size w w' := by
  have H1 := Lib.hid (fun w' (hb : Below w.heap.size w w') => l20Ok_s v gs w' (hv.below hb))
  obtain ⟨A, c, rfl, hac, hac', _⟩ := hv.open_
  clear hv
  cases hs : whB gs with
  | false =>
    have HX := Lib.hid (hn_w (h := h) (q := q) hs)
    have HB := Lib.hid hs
    clear hs
    go_enter Tryd.func52, Tryd.ntmps52
    go_wp2_with fail
    refine (H1.out _ (by go_grown)).mono ?_
    rintro e w1 ⟨rfl, hb⟩
    rw [HB.out]
    go_wp2
    go_ret
    exact ⟨ret_b HX.out.symm, Below.trans (by go_grown) (hb.mono (by simp; omega))⟩
  | true =>
    have HX := Lib.hid (hn_s (h := h) (q := q) hs)
    have HB := Lib.hid hs
    clear hs
    go_enter Tryd.func52, Tryd.ntmps52
    obtain ⟨k0, k1⟩ := bx2 w 31 28 #[.slice A gs.length c] #[.int .i64 h, .int .i64 q]
    have HK0 := Lib.hid k0
    have HK1 := Lib.hid k1
    clear k0 k1
    go_wp2_with fail
    refine (H1.out _ (by go_grown)).mono ?_
    rintro e w1 ⟨rfl, hb1⟩
    rw [HB.out]
    have j0 := HK0.out.below hb1
    have j1 := HK1.out.below hb1
    have q0 := j0.cell 0 rfl
    have q1 := j1.cell 0 rfl
    have q2 := j1.cell 1 rfl
    have B1 : Below w.heap.size w w1 := Below.trans (by go_grown) (hb1.mono (by simp; omega))
    clear hb1 HK0 HK1 j0 j1
    go_wp2_with fail
    refine (l00In_any _ _ _ _).mono ?_
    rintro e w' ⟨rfl, rfl⟩
    cases hh : inB h 0 11 with
    | false =>
      have HY := Lib.hid (HX.out.trans (hs_h (gs := gs) (q := q) hh))
      clear hh
      go_wp2
      go_ret
      exact ⟨ret_b HY.out.symm, B1⟩
    | true =>
      have HY := Lib.hid (HX.out.trans (hs_q (gs := gs) (q := q) hh))
      clear hh
      go_wp2_with fail
      refine (l00In_any _ _ _ _).mono ?_
      rintro e w' ⟨rfl, rfl⟩
      go_wp2
      go_ret
      exact ⟨ret_b HY.out.symm, B1⟩
set_option maxHeartbeats 1000000 in
theorem ValidHands_s (v : Value) (gs : List Int) (h q : Int) (w : World) (hv : Sl w v gs) :
    Calls Tryd.prog 33 #[.agg #[v], .agg #[.int .i64 h, .int .i64 q]] w fun e w' => e = .returned (.bool (hnB gs h q)) ∧ Below w.heap.size w w' := by
  have H1 := Lib.hid (fun w' (hb : Below w.heap.size w w') => l23Ok_s v gs h q w' (hv.below hb))
  clear hv
  go_enter Tryd.func33, Tryd.ntmps33
  go_wp2_with fail
  refine (H1.out _ (by go_grown)).mono ?_
  rintro e w1 ⟨rfl, hb⟩
  go_wp2
  go_ret
  exact ⟨rfl, Below.trans (by go_grown) (hb.mono (by simp; omega))⟩
theorem ValidHands_both (gs : List Int) (h q : Int) : ∃ rb : Bool,
    (∀ v w, Sl w v gs → Calls Tryd.prog 32 #[.agg #[v], .agg #[.int .i64 h, .int .i64 q]] w fun e w' => e = .returned (.bool rb) ∧ Below w.heap.size w w') ∧
    (∀ v w, Sl w v gs → Calls Tryd.prog 33 #[.agg #[v], .agg #[.int .i64 h, .int .i64 q]] w fun e w' => e = .returned (.bool rb) ∧ Below w.heap.size w w') :=
  ⟨_, fun v w hv => ValidHands_i v gs h q w hv, fun v w hv => ValidHands_s v gs h q w hv⟩
end Go.Proofs.YtfddibdncniekaaDoor
