/- Chimes: the text of a barrel, the program's and the reference's side by side. -/
import Derived.Test.YtgaohmbgjjhdbaaGreatDoorTtS
namespace Go.Proofs.YtgaohmbgjjhdbaaGreatDoor
open Go.RowKit
attribute [local go_sem ↓] Go.wp_at_zero Go.wp_at_succ

set_option maxRecDepth 100000 in
set_option maxHeartbeats 4000000 in
theorem BarrelText_i1 (v : Value) (ps : List (Int × Int)) (st bl : Int) (w : World) (hv : SlP w v ps) (hs : brB st bl ps = false) :
    Calls Tryz.prog 8 #[.agg #[.int .i64 st, .int .i64 bl, v]] w fun e w' => e = .returned (.string ⟨#[]⟩) ∧ Below w.heap.size w w' := by
  obtain ⟨A, c, rfl, hac, hac', _⟩ := hv.open_
  have H1 := Lib.hid (fun w' (hb : Below w.heap.size w w') => ValidBarrel_i _ ps st bl w' (hv.below hb))
  have HB := Lib.hid hs
  clear hv hs
  go_enter Tryz.func8, Tryz.ntmps8
  have HK0 := Lib.hid (bx1 w 26 #[.int .i64 st, .int .i64 bl, .slice A ps.length c])
  go_wp2_with fail
  refine (H1.out _ (by go_grown)).mono ?_
  rintro e w1 ⟨rfl, hb1⟩
  rw [HB.out]
  have B1 := Lib.hid (show Below w.heap.size w w1 from Below.trans (by go_grown) (hb1.mono (by first | (simp; done) | (simp; omega) | omega)))
  clear hb1 HK0
  go_wp2_with fail
  go_ret
  exact ⟨rfl, B1.out⟩
set_option maxRecDepth 100000 in
set_option maxHeartbeats 4000000 in
theorem BarrelText_s1 (v : Value) (ps : List (Int × Int)) (st bl : Int) (w : World) (hv : SlP w v ps) (hs : brB st bl ps = false) :
    Calls Tryz.prog 13 #[.agg #[.int .i64 st, .int .i64 bl, v]] w fun e w' => e = .returned (.string ⟨#[]⟩) ∧ Below w.heap.size w w' := by
  obtain ⟨A, c, rfl, hac, hac', _⟩ := hv.open_
  have H1 := Lib.hid (fun w' (hb : Below w.heap.size w w') => l22Ok_s _ ps st bl w' (hv.below hb))
  have HB := Lib.hid hs
  clear hv hs
  go_enter Tryz.func13, Tryz.ntmps13
  have HK0 := Lib.hid (bx1 w 26 #[.int .i64 st, .int .i64 bl, .slice A ps.length c])
  go_wp2_with fail
  refine (H1.out _ (by go_grown)).mono ?_
  rintro e w1 ⟨rfl, hb1⟩
  rw [HB.out]
  have B1 := Lib.hid (show Below w.heap.size w w1 from Below.trans (by go_grown) (hb1.mono (by first | (simp; done) | (simp; omega) | omega)))
  clear hb1 HK0
  go_wp2_with fail
  go_ret
  exact ⟨rfl, B1.out⟩
set_option maxRecDepth 100000 in
set_option maxHeartbeats 4000000 in
theorem BarrelText_s0 (v : Value) (ps : List (Int × Int)) (S : Nat) (bl : Int) (w : World) (hv : SlP w v ps) (hs : brB (S : Int) bl ps = true) :
    Calls Tryz.prog 13 #[.agg #[.int .i64 (S : Int), .int .i64 bl, v]] w fun e w' => e = .returned (.string (bT (txL bl ps S))) ∧ Below w.heap.size w w' := by
  obtain ⟨A, c, rfl, hac, hac', _⟩ := hv.open_
  have H1 := Lib.hid (fun w' (hb : Below w.heap.size w w') => l22Ok_s _ ps (S : Int) bl w' (hv.below hb))
  have H2 := Lib.hid (fun w' (hb : Below w.heap.size w w') => l22Text_any _ ps S bl w' (hv.below hb) hs)
  have HB := Lib.hid hs
  clear hv hs
  go_enter Tryz.func13, Tryz.ntmps13
  have HK0 := Lib.hid (bx1 w 26 #[.int .i64 (S : Int), .int .i64 bl, .slice A ps.length c])
  go_wp2_with fail
  refine (H1.out _ (by go_grown)).mono ?_
  rintro e w1 ⟨rfl, hb1⟩
  rw [HB.out]
  have J0 := Lib.hid (HK0.out.below hb1)
  have q0 := J0.out.cell 0 rfl
  have q1 := J0.out.cell 1 rfl
  have q2 := J0.out.cell 2 rfl
  have B1 := Lib.hid (show Below w.heap.size w w1 from Below.trans (by go_grown) (hb1.mono (by first | (simp; done) | (simp; omega) | omega)))
  clear hb1 HK0
  go_wp2_with fail
  refine (H2.out _ B1.out).mono ?_
  rintro e w2 ⟨rfl, hb2⟩
  have B2 := Lib.hid (B1.out.trans (hb2.mono B1.out.size))
  clear hb2 H2 H1 B1
  go_wp2_with fail
  go_ret
  exact ⟨rfl, B2.out⟩
theorem BarrelText_both (st bl : Int) (ps : List (Int × Int)) : ∃ ra : ByteArray,
    (∀ v w, SlP w v ps → Calls Tryz.prog 8 #[.agg #[.int .i64 st, .int .i64 bl, v]] w fun e w' => e = .returned (.string ra) ∧ Below w.heap.size w w') ∧
    (∀ v w, SlP w v ps → Calls Tryz.prog 13 #[.agg #[.int .i64 st, .int .i64 bl, v]] w fun e w' => e = .returned (.string ra) ∧ Below w.heap.size w w') := by
  cases h : brB st bl ps with
  | false => exact ⟨_, fun v w hv => BarrelText_i1 v ps st bl w hv h, fun v w hv => BarrelText_s1 v ps st bl w hv h⟩
  | true =>
    obtain ⟨⟨s1, _⟩, _⟩ := brB_iff.1 h
    obtain ⟨S, rfl⟩ := Int.eq_ofNat_of_zero_le (show 0 ≤ st by omega)
    exact ⟨_, fun v w hv => BarrelText_i0 v ps S bl w hv h, fun v w hv => BarrelText_s0 v ps S bl w hv h⟩
end Go.Proofs.YtgaohmbgjjhdbaaGreatDoor
