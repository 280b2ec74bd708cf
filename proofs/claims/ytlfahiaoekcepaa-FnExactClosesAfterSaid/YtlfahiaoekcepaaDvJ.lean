/- Dividing heads: ValidIndex in the program and in the reference. -/
import Derived.Test.YtlfahiaoekcepaaDvI
namespace Go.Proofs.Ytlfahiaoekcepaa
open Go.RowKit
attribute [local go_sem ↓] Go.wp_at_zero Go.wp_at_succ
attribute [local go_sem] cell?_grow frozen?_grow

set_option maxHeartbeats 4000000 in
theorem ValidIndex_i1 (v : Value) (cs : List Int) (wm xt xh xc : Int) (w : World) (hv : Sl w v cs) (h1 : dvB wm cs = false) :
    Calls Try.prog 18 #[.agg #[.int .i64 wm, v], .agg #[.int .i64 xt, .int .i64 xh, .int .i64 xc]] w fun e w' => e = .returned (.bool (xiB wm cs xt xh xc)) ∧ Below w.heap.size w w' := by
  have HX := Lib.hid (xi1 h1 : xiB wm cs xt xh xc = _)
  have H1 := Lib.hid (fun w' (hb : Below w.heap.size w w') => ValidDivider_i v cs wm w' (hv.below hb))
  have HB := Lib.hid h1
  clear hv h1
  go_enter Try.func18, Try.ntmps18
  obtain ⟨k0, k1⟩ := bx2 w 27 34 #[.int .i64 wm, v] #[.int .i64 xt, .int .i64 xh, .int .i64 xc]
  have HK0 := Lib.hid k0
  have HK1 := Lib.hid k1
  clear k0 k1
  go_wp2_with fail
  refine (H1.out _ (by go_grown)).mono ?_
  rintro e w1 ⟨rfl, hb1⟩
  rw [HB.out]
  go_wp2
  go_ret
  exact ⟨ret_b HX.out.symm, Below.trans (by go_grown) (hb1.mono (by simp; omega))⟩

set_option maxHeartbeats 4000000 in
theorem l24Index_s1 (v : Value) (cs : List Int) (wm xt xh xc : Int) (w : World) (hv : Sl w v cs) (h1 : dvB wm cs = false) :
    Calls Try.prog 40 #[.agg #[.int .i64 wm, v], .agg #[.int .i64 xt, .int .i64 xh, .int .i64 xc]] w fun e w' => e = .returned (.bool (xiB wm cs xt xh xc)) ∧ Below w.heap.size w w' := by
  have HX := Lib.hid (xi1 h1 : xiB wm cs xt xh xc = _)
  have H1 := Lib.hid (fun w' (hb : Below w.heap.size w w') => l24Ok_s v cs wm w' (hv.below hb))
  have HB := Lib.hid h1
  clear hv h1
  go_enter Try.func40, Try.ntmps40
  obtain ⟨k0, k1⟩ := bx2 w 27 34 #[.int .i64 wm, v] #[.int .i64 xt, .int .i64 xh, .int .i64 xc]
  have HK0 := Lib.hid k0
  have HK1 := Lib.hid k1
  clear k0 k1
  go_wp2_with fail
  refine (H1.out _ (by go_grown)).mono ?_
  rintro e w1 ⟨rfl, hb1⟩
  rw [HB.out]
  go_wp2
  go_ret
  exact ⟨ret_b HX.out.symm, Below.trans (by go_grown) (hb1.mono (by simp; omega))⟩

set_option maxHeartbeats 4000000 in
theorem ValidIndex_i2 (v : Value) (cs : List Int) (wm xt xh xc : Int) (w : World) (hv : Sl w v cs) (h1 : dvB wm cs = true) (h2 : hasB cs xc = false) :
    Calls Try.prog 18 #[.agg #[.int .i64 wm, v], .agg #[.int .i64 xt, .int .i64 xh, .int .i64 xc]] w fun e w' => e = .returned (.bool (xiB wm cs xt xh xc)) ∧ Below w.heap.size w w' := by
  have HX := Lib.hid (xi2 h2 : xiB wm cs xt xh xc = _)
  have H1 := Lib.hid (fun w' (hb : Below w.heap.size w w') => ValidDivider_i v cs wm w' (hv.below hb))
  have H2 := Lib.hid (fun w' (hb : Below w.heap.size w w') => Contains_any v cs xc w' (hv.below hb))
  have HB := Lib.hid h1
  have HC := Lib.hid h2
  clear hv h1 h2
  go_enter Try.func18, Try.ntmps18
  obtain ⟨k0, k1⟩ := bx2 w 27 34 #[.int .i64 wm, v] #[.int .i64 xt, .int .i64 xh, .int .i64 xc]
  have HK0 := Lib.hid k0
  have HK1 := Lib.hid k1
  clear k0 k1
  go_wp2_with fail
  refine (H1.out _ (by go_grown)).mono ?_
  rintro e w1 ⟨rfl, hb1⟩
  rw [HB.out]
  have j0 := HK0.out.below hb1
  have j1 := HK1.out.below hb1
  have q0 := j0.cell 0 rfl
  have q1 := j0.cell 1 rfl
  have p0 := j1.cell 0 rfl
  have p1 := j1.cell 1 rfl
  have p2 := j1.cell 2 rfl
  have z0 := j0.lt
  have z1 := j1.lt
  have B1 : Below w.heap.size w w1 := Below.trans (by go_grown) (hb1.mono (by simp; omega))
  clear hb1 HK0 HK1 j0 j1
  go_wp2_with fail
  refine (H2.out _ B1).mono ?_
  rintro e w' ⟨rfl, rfl⟩
  rw [HC.out]
  go_wp2
  go_ret
  exact ⟨ret_b HX.out.symm, B1⟩

set_option maxHeartbeats 4000000 in
theorem l24Index_s2 (v : Value) (cs : List Int) (wm xt xh xc : Int) (w : World) (hv : Sl w v cs) (h1 : dvB wm cs = true) (h2 : hasB cs xc = false) :
    Calls Try.prog 40 #[.agg #[.int .i64 wm, v], .agg #[.int .i64 xt, .int .i64 xh, .int .i64 xc]] w fun e w' => e = .returned (.bool (xiB wm cs xt xh xc)) ∧ Below w.heap.size w w' := by
  have HX := Lib.hid (xi2 h2 : xiB wm cs xt xh xc = _)
  have H1 := Lib.hid (fun w' (hb : Below w.heap.size w w') => l24Ok_s v cs wm w' (hv.below hb))
  have H2 := Lib.hid (fun w' (hb : Below w.heap.size w w') => l00Has_any v cs xc w' (hv.below hb))
  have HB := Lib.hid h1
  have HC := Lib.hid h2
  clear hv h1 h2
  go_enter Try.func40, Try.ntmps40
  obtain ⟨k0, k1⟩ := bx2 w 27 34 #[.int .i64 wm, v] #[.int .i64 xt, .int .i64 xh, .int .i64 xc]
  have HK0 := Lib.hid k0
  have HK1 := Lib.hid k1
  clear k0 k1
  go_wp2_with fail
  refine (H1.out _ (by go_grown)).mono ?_
  rintro e w1 ⟨rfl, hb1⟩
  rw [HB.out]
  have j0 := HK0.out.below hb1
  have j1 := HK1.out.below hb1
  have q0 := j0.cell 0 rfl
  have q1 := j0.cell 1 rfl
  have p0 := j1.cell 0 rfl
  have p1 := j1.cell 1 rfl
  have p2 := j1.cell 2 rfl
  have z0 := j0.lt
  have z1 := j1.lt
  have B1 : Below w.heap.size w w1 := Below.trans (by go_grown) (hb1.mono (by simp; omega))
  clear hb1 HK0 HK1 j0 j1
  go_wp2_with fail
  refine (H2.out _ B1).mono ?_
  rintro e w' ⟨rfl, rfl⟩
  rw [HC.out]
  go_wp2
  go_ret
  exact ⟨ret_b HX.out.symm, B1⟩

set_option maxHeartbeats 4000000 in
theorem ValidIndex_i3 (v : Value) (cs : List Int) (wm xt xh xc : Int) (w : World) (hv : Sl w v cs) (h1 : dvB wm cs = true) (h2 : hasB cs xc = true) (h3 : inB xt 0 wm = false) :
    Calls Try.prog 18 #[.agg #[.int .i64 wm, v], .agg #[.int .i64 xt, .int .i64 xh, .int .i64 xc]] w fun e w' => e = .returned (.bool (xiB wm cs xt xh xc)) ∧ Below w.heap.size w w' := by
  have HX := Lib.hid (xi3 h3 : xiB wm cs xt xh xc = _)
  have H1 := Lib.hid (fun w' (hb : Below w.heap.size w w') => ValidDivider_i v cs wm w' (hv.below hb))
  have H2 := Lib.hid (fun w' (hb : Below w.heap.size w w') => Contains_any v cs xc w' (hv.below hb))
  have hc := circle_in h1 (hasB_iff.1 h2)
  have hw := (dvB_iff.1 h1).1
  have hc1 := hc.1
  have hc2 := hc.2
  have hw1 := hw.1
  have hw2 := hw.2
  have e1 : IntKind.i64.wrap (xc - 1) = xc - 1 := IntWalk.i64_in _ (by omega)
  clear hc hw
  have HB := Lib.hid h1
  have HC := Lib.hid h2
  clear hv h1 h2
  go_enter Try.func18, Try.ntmps18
  obtain ⟨k0, k1⟩ := bx2 w 27 34 #[.int .i64 wm, v] #[.int .i64 xt, .int .i64 xh, .int .i64 xc]
  have HK0 := Lib.hid k0
  have HK1 := Lib.hid k1
  clear k0 k1
  go_wp2_with fail
  refine (H1.out _ (by go_grown)).mono ?_
  rintro e w1 ⟨rfl, hb1⟩
  rw [HB.out]
  have j0 := HK0.out.below hb1
  have j1 := HK1.out.below hb1
  have q0 := j0.cell 0 rfl
  have q1 := j0.cell 1 rfl
  have p0 := j1.cell 0 rfl
  have p1 := j1.cell 1 rfl
  have p2 := j1.cell 2 rfl
  have z0 := j0.lt
  have z1 := j1.lt
  have B1 : Below w.heap.size w w1 := Below.trans (by go_grown) (hb1.mono (by simp; omega))
  clear hb1 HK0 HK1 j0 j1
  go_wp2_with fail
  refine (H2.out _ B1).mono ?_
  rintro e w' ⟨rfl, rfl⟩
  rw [HC.out]
  go_wp2_with (go_at_call 39; refine (within_any _ _ _ _).mono ?_; rintro e w' ⟨rfl, rfl⟩)
  go_ret
  exact ⟨ret_b HX.out.symm, B1⟩

set_option maxHeartbeats 4000000 in
theorem l24Index_s3 (v : Value) (cs : List Int) (wm xt xh xc : Int) (w : World) (hv : Sl w v cs) (h1 : dvB wm cs = true) (h2 : hasB cs xc = true) (h3 : inB xt 0 wm = false) :
    Calls Try.prog 40 #[.agg #[.int .i64 wm, v], .agg #[.int .i64 xt, .int .i64 xh, .int .i64 xc]] w fun e w' => e = .returned (.bool (xiB wm cs xt xh xc)) ∧ Below w.heap.size w w' := by
  have HX := Lib.hid (xi3 h3 : xiB wm cs xt xh xc = _)
  have H1 := Lib.hid (fun w' (hb : Below w.heap.size w w') => l24Ok_s v cs wm w' (hv.below hb))
  have H2 := Lib.hid (fun w' (hb : Below w.heap.size w w') => l00Has_any v cs xc w' (hv.below hb))
  have hc := circle_in h1 (hasB_iff.1 h2)
  have hw := (dvB_iff.1 h1).1
  have hc1 := hc.1
  have hc2 := hc.2
  have hw1 := hw.1
  have hw2 := hw.2
  have e1 : IntKind.i64.wrap (xc - 1) = xc - 1 := IntWalk.i64_in _ (by omega)
  clear hc hw
  have HB := Lib.hid h1
  have HC := Lib.hid h2
  clear hv h1 h2
  have H3 := Lib.hid h3
  go_enter Try.func40, Try.ntmps40
  obtain ⟨k0, k1⟩ := bx2 w 27 34 #[.int .i64 wm, v] #[.int .i64 xt, .int .i64 xh, .int .i64 xc]
  have HK0 := Lib.hid k0
  have HK1 := Lib.hid k1
  clear k0 k1
  go_wp2_with fail
  refine (H1.out _ (by go_grown)).mono ?_
  rintro e w1 ⟨rfl, hb1⟩
  rw [HB.out]
  have j0 := HK0.out.below hb1
  have j1 := HK1.out.below hb1
  have q0 := j0.cell 0 rfl
  have q1 := j0.cell 1 rfl
  have p0 := j1.cell 0 rfl
  have p1 := j1.cell 1 rfl
  have p2 := j1.cell 2 rfl
  have z0 := j0.lt
  have z1 := j1.lt
  have B1 : Below w.heap.size w w1 := Below.trans (by go_grown) (hb1.mono (by simp; omega))
  clear hb1 HK0 HK1 j0 j1
  go_wp2_with fail
  refine (H2.out _ B1).mono ?_
  rintro e w' ⟨rfl, rfl⟩
  rw [HC.out]
  go_wp2_with fail
  refine wp_region_grow (by kernel_rfl) (by kernel_rfl) ?_
  repeat (go_big_quiet_step ((first | (go_at_call 43; first | with_reducible exact grow_same (l00In_r xt 0 wm _ _ H3.out) | exact grow_same (l00In_any _ _ _ _)))))
  refine wpQuiet_nil ?_
  intro w6 hb6
  go_wp2
  go_ret
  exact ⟨ret_b HX.out.symm, B1.trans (hb6.mono B1.size)⟩

set_option maxHeartbeats 4000000 in
theorem ValidIndex_i4 (v : Value) (cs : List Int) (wm xt xh xc : Int) (w : World) (hv : Sl w v cs) (h1 : dvB wm cs = true) (h2 : hasB cs xc = true) (h3 : inB xt 0 wm = true) (h4 : inB xh 0 (xc - 1) = false) :
    Calls Try.prog 18 #[.agg #[.int .i64 wm, v], .agg #[.int .i64 xt, .int .i64 xh, .int .i64 xc]] w fun e w' => e = .returned (.bool (xiB wm cs xt xh xc)) ∧ Below w.heap.size w w' := by
  have HX := Lib.hid (xi4 h4 : xiB wm cs xt xh xc = _)
  have H1 := Lib.hid (fun w' (hb : Below w.heap.size w w') => ValidDivider_i v cs wm w' (hv.below hb))
  have H2 := Lib.hid (fun w' (hb : Below w.heap.size w w') => Contains_any v cs xc w' (hv.below hb))
  have hc := circle_in h1 (hasB_iff.1 h2)
  have hw := (dvB_iff.1 h1).1
  have hc1 := hc.1
  have hc2 := hc.2
  have hw1 := hw.1
  have hw2 := hw.2
  have e1 : IntKind.i64.wrap (xc - 1) = xc - 1 := IntWalk.i64_in _ (by omega)
  clear hc hw
  have HB := Lib.hid h1
  have HC := Lib.hid h2
  clear hv h1 h2
  go_enter Try.func18, Try.ntmps18
  obtain ⟨k0, k1⟩ := bx2 w 27 34 #[.int .i64 wm, v] #[.int .i64 xt, .int .i64 xh, .int .i64 xc]
  have HK0 := Lib.hid k0
  have HK1 := Lib.hid k1
  clear k0 k1
  go_wp2_with fail
  refine (H1.out _ (by go_grown)).mono ?_
  rintro e w1 ⟨rfl, hb1⟩
  rw [HB.out]
  have j0 := HK0.out.below hb1
  have j1 := HK1.out.below hb1
  have q0 := j0.cell 0 rfl
  have q1 := j0.cell 1 rfl
  have p0 := j1.cell 0 rfl
  have p1 := j1.cell 1 rfl
  have p2 := j1.cell 2 rfl
  have z0 := j0.lt
  have z1 := j1.lt
  have B1 : Below w.heap.size w w1 := Below.trans (by go_grown) (hb1.mono (by simp; omega))
  clear hb1 HK0 HK1 j0 j1
  go_wp2_with fail
  refine (H2.out _ B1).mono ?_
  rintro e w' ⟨rfl, rfl⟩
  rw [HC.out]
  go_wp2_with (go_at_call 39; refine (within_any _ _ _ _).mono ?_; rintro e w' ⟨rfl, rfl⟩)
  go_ret
  exact ⟨ret_b HX.out.symm, B1⟩

set_option maxHeartbeats 4000000 in
theorem l24Index_s4 (v : Value) (cs : List Int) (wm xt xh xc : Int) (w : World) (hv : Sl w v cs) (h1 : dvB wm cs = true) (h2 : hasB cs xc = true) (h3 : inB xt 0 wm = true) (h4 : inB xh 0 (xc - 1) = false) :
    Calls Try.prog 40 #[.agg #[.int .i64 wm, v], .agg #[.int .i64 xt, .int .i64 xh, .int .i64 xc]] w fun e w' => e = .returned (.bool (xiB wm cs xt xh xc)) ∧ Below w.heap.size w w' := by
  have HX := Lib.hid (xi4 h4 : xiB wm cs xt xh xc = _)
  have H1 := Lib.hid (fun w' (hb : Below w.heap.size w w') => l24Ok_s v cs wm w' (hv.below hb))
  have H2 := Lib.hid (fun w' (hb : Below w.heap.size w w') => l00Has_any v cs xc w' (hv.below hb))
  have hc := circle_in h1 (hasB_iff.1 h2)
  have hw := (dvB_iff.1 h1).1
  have hc1 := hc.1
  have hc2 := hc.2
  have hw1 := hw.1
  have hw2 := hw.2
  have e1 : IntKind.i64.wrap (xc - 1) = xc - 1 := IntWalk.i64_in _ (by omega)
  clear hc hw
  have HB := Lib.hid h1
  have HC := Lib.hid h2
  clear hv h1 h2
  have H3 := Lib.hid h3
  have H4 := Lib.hid h4
  go_enter Try.func40, Try.ntmps40
  obtain ⟨k0, k1⟩ := bx2 w 27 34 #[.int .i64 wm, v] #[.int .i64 xt, .int .i64 xh, .int .i64 xc]
  have HK0 := Lib.hid k0
  have HK1 := Lib.hid k1
  clear k0 k1
  go_wp2_with fail
  refine (H1.out _ (by go_grown)).mono ?_
  rintro e w1 ⟨rfl, hb1⟩
  rw [HB.out]
  have j0 := HK0.out.below hb1
  have j1 := HK1.out.below hb1
  have q0 := j0.cell 0 rfl
  have q1 := j0.cell 1 rfl
  have p0 := j1.cell 0 rfl
  have p1 := j1.cell 1 rfl
  have p2 := j1.cell 2 rfl
  have z0 := j0.lt
  have z1 := j1.lt
  have B1 : Below w.heap.size w w1 := Below.trans (by go_grown) (hb1.mono (by simp; omega))
  clear hb1 HK0 HK1 j0 j1
  go_wp2_with fail
  refine (H2.out _ B1).mono ?_
  rintro e w' ⟨rfl, rfl⟩
  rw [HC.out]
  go_wp2_with fail
  refine wp_region_grow (by kernel_rfl) (by kernel_rfl) ?_
  repeat (go_big_quiet_step ((first | (go_at_call 43; first | with_reducible exact grow_same (l00In_r xt 0 wm _ _ H3.out) | with_reducible exact grow_same (l00In_r xh 0 (xc - 1) _ _ H4.out) | exact grow_same (l00In_any _ _ _ _)))))
  refine wpQuiet_nil ?_
  intro w6 hb6
  go_wp2
  go_ret
  exact ⟨ret_b HX.out.symm, B1.trans (hb6.mono B1.size)⟩

set_option maxHeartbeats 4000000 in
theorem ValidIndex_i5 (v : Value) (cs : List Int) (wm xt xh xc : Int) (w : World) (hv : Sl w v cs) (h1 : dvB wm cs = true) (h2 : hasB cs xc = true) (h3 : inB xt 0 wm = true) (h4 : inB xh 0 (xc - 1) = true) :
    Calls Try.prog 18 #[.agg #[.int .i64 wm, v], .agg #[.int .i64 xt, .int .i64 xh, .int .i64 xc]] w fun e w' => e = .returned (.bool (xiB wm cs xt xh xc)) ∧ Below w.heap.size w w' := by
  have HX := Lib.hid (xi5 h1 h2 h3 h4 : xiB wm cs xt xh xc = _)
  have H1 := Lib.hid (fun w' (hb : Below w.heap.size w w') => ValidDivider_i v cs wm w' (hv.below hb))
  have H2 := Lib.hid (fun w' (hb : Below w.heap.size w w') => Contains_any v cs xc w' (hv.below hb))
  have hc := circle_in h1 (hasB_iff.1 h2)
  have hw := (dvB_iff.1 h1).1
  have hc1 := hc.1
  have hc2 := hc.2
  have hw1 := hw.1
  have hw2 := hw.2
  have e1 : IntKind.i64.wrap (xc - 1) = xc - 1 := IntWalk.i64_in _ (by omega)
  have ht := inB_iff.1 h3
  have hh := inB_iff.1 h4
  have m1 := mul_in (a := wm) (b := xc) (A := 360) (B := 200) (by omega) (by omega) (by omega) (by omega)
  have m2 := mul_in (a := xt) (b := xc) (A := 360) (B := 200) (by omega) (by omega) (by omega) (by omega)
  have m3 := m1.1
  have m4 : wm * xc ≤ 1000000000 := by omega
  have m5 := m2.1
  have m6 : xt * xc ≤ 1000000000 := by omega
  have e2 : IntKind.i64.wrap (wm * xc) = wm * xc := IntWalk.i64_in _ (by omega)
  have HS := Lib.hid (fun w' => stepOf_any xt xh xc w' m5 m6 (by omega) (by omega))
  clear m1 m2 ht hh
  clear hc hw
  have HB := Lib.hid h1
  have HC := Lib.hid h2
  clear hv h1 h2
  go_enter Try.func18, Try.ntmps18
  obtain ⟨k0, k1⟩ := bx2 w 27 34 #[.int .i64 wm, v] #[.int .i64 xt, .int .i64 xh, .int .i64 xc]
  have HK0 := Lib.hid k0
  have HK1 := Lib.hid k1
  clear k0 k1
  go_wp2_with fail
  refine (H1.out _ (by go_grown)).mono ?_
  rintro e w1 ⟨rfl, hb1⟩
  rw [HB.out]
  have j0 := HK0.out.below hb1
  have j1 := HK1.out.below hb1
  have q0 := j0.cell 0 rfl
  have q1 := j0.cell 1 rfl
  have p0 := j1.cell 0 rfl
  have p1 := j1.cell 1 rfl
  have p2 := j1.cell 2 rfl
  have z0 := j0.lt
  have z1 := j1.lt
  have B1 : Below w.heap.size w w1 := Below.trans (by go_grown) (hb1.mono (by simp; omega))
  clear hb1 HK0 HK1 j0 j1
  go_wp2_with fail
  refine (H2.out _ B1).mono ?_
  rintro e w' ⟨rfl, rfl⟩
  rw [HC.out]
  go_wp2_with (go_at_call 39; refine (within_any _ _ _ _).mono ?_; rintro e w' ⟨rfl, rfl⟩)
  refine wp_region_grow (by kernel_rfl) (by kernel_rfl) ?_
  repeat (go_big_quiet_step ((first | (go_at_call 42; exact grow_of (HS.out _)) | (go_at_call 39; exact grow_same (within_any _ _ _ _)))))
  refine wpQuiet_nil ?_
  intro w6 hb6
  go_wp2
  go_ret
  exact ⟨ret_b HX.out.symm, B1.trans (hb6.mono B1.size)⟩

set_option maxHeartbeats 4000000 in
theorem l24Index_s5 (v : Value) (cs : List Int) (wm xt xh xc : Int) (w : World) (hv : Sl w v cs) (h1 : dvB wm cs = true) (h2 : hasB cs xc = true) (h3 : inB xt 0 wm = true) (h4 : inB xh 0 (xc - 1) = true) :
    Calls Try.prog 40 #[.agg #[.int .i64 wm, v], .agg #[.int .i64 xt, .int .i64 xh, .int .i64 xc]] w fun e w' => e = .returned (.bool (xiB wm cs xt xh xc)) ∧ Below w.heap.size w w' := by
  have HX := Lib.hid (xi5 h1 h2 h3 h4 : xiB wm cs xt xh xc = _)
  have H1 := Lib.hid (fun w' (hb : Below w.heap.size w w') => l24Ok_s v cs wm w' (hv.below hb))
  have H2 := Lib.hid (fun w' (hb : Below w.heap.size w w') => l00Has_any v cs xc w' (hv.below hb))
  have hc := circle_in h1 (hasB_iff.1 h2)
  have hw := (dvB_iff.1 h1).1
  have hc1 := hc.1
  have hc2 := hc.2
  have hw1 := hw.1
  have hw2 := hw.2
  have e1 : IntKind.i64.wrap (xc - 1) = xc - 1 := IntWalk.i64_in _ (by omega)
  have ht := inB_iff.1 h3
  have hh := inB_iff.1 h4
  have m1 := mul_in (a := wm) (b := xc) (A := 360) (B := 200) (by omega) (by omega) (by omega) (by omega)
  have m2 := mul_in (a := xt) (b := xc) (A := 360) (B := 200) (by omega) (by omega) (by omega) (by omega)
  have m3 := m1.1
  have m4 : wm * xc ≤ 1000000000 := by omega
  have m5 := m2.1
  have m6 : xt * xc ≤ 1000000000 := by omega
  have e2 : IntKind.i64.wrap (wm * xc) = wm * xc := IntWalk.i64_in _ (by omega)
  have HS := Lib.hid (fun w' => l24Step_any xt xh xc w' m5 m6 (by omega) (by omega))
  clear m1 m2 ht hh
  clear hc hw
  have HB := Lib.hid h1
  have HC := Lib.hid h2
  clear hv h1 h2
  have H3 := Lib.hid h3
  have H4 := Lib.hid h4
  go_enter Try.func40, Try.ntmps40
  obtain ⟨k0, k1⟩ := bx2 w 27 34 #[.int .i64 wm, v] #[.int .i64 xt, .int .i64 xh, .int .i64 xc]
  have HK0 := Lib.hid k0
  have HK1 := Lib.hid k1
  clear k0 k1
  go_wp2_with fail
  refine (H1.out _ (by go_grown)).mono ?_
  rintro e w1 ⟨rfl, hb1⟩
  rw [HB.out]
  have j0 := HK0.out.below hb1
  have j1 := HK1.out.below hb1
  have q0 := j0.cell 0 rfl
  have q1 := j0.cell 1 rfl
  have p0 := j1.cell 0 rfl
  have p1 := j1.cell 1 rfl
  have p2 := j1.cell 2 rfl
  have z0 := j0.lt
  have z1 := j1.lt
  have B1 : Below w.heap.size w w1 := Below.trans (by go_grown) (hb1.mono (by simp; omega))
  clear hb1 HK0 HK1 j0 j1
  go_wp2_with fail
  refine (H2.out _ B1).mono ?_
  rintro e w' ⟨rfl, rfl⟩
  rw [HC.out]
  go_wp2_with fail
  refine wp_region_grow (by kernel_rfl) (by kernel_rfl) ?_
  repeat (go_big_quiet_step ((first | (go_at_call 43; first | with_reducible exact grow_same (l00In_r xt 0 wm _ _ H3.out) | with_reducible exact grow_same (l00In_r xh 0 (xc - 1) _ _ H4.out) | exact grow_same (l00In_any _ _ _ _)) | (go_at_call 44; exact grow_of (HS.out _)))))
  refine wpQuiet_nil ?_
  intro w6 hb6
  go_wp2
  go_ret
  exact ⟨ret_b HX.out.symm, B1.trans (hb6.mono B1.size)⟩

theorem ValidIndex_i (v : Value) (cs : List Int) (wm xt xh xc : Int) (w : World) (hv : Sl w v cs) :
    Calls Try.prog 18 #[.agg #[.int .i64 wm, v], .agg #[.int .i64 xt, .int .i64 xh, .int .i64 xc]] w fun e w' => e = .returned (.bool (xiB wm cs xt xh xc)) ∧ Below w.heap.size w w' := by
  cases h1 : dvB wm cs with
  | false => exact ValidIndex_i1 v cs wm xt xh xc w hv h1
  | true =>
    cases h2 : hasB cs xc with
    | false => exact ValidIndex_i2 v cs wm xt xh xc w hv h1 h2
    | true =>
      cases h3 : inB xt 0 wm with
      | false => exact ValidIndex_i3 v cs wm xt xh xc w hv h1 h2 h3
      | true =>
        cases h4 : inB xh 0 (xc - 1) with
        | false => exact ValidIndex_i4 v cs wm xt xh xc w hv h1 h2 h3 h4
        | true => exact ValidIndex_i5 v cs wm xt xh xc w hv h1 h2 h3 h4

theorem l24Index_s (v : Value) (cs : List Int) (wm xt xh xc : Int) (w : World) (hv : Sl w v cs) :
    Calls Try.prog 40 #[.agg #[.int .i64 wm, v], .agg #[.int .i64 xt, .int .i64 xh, .int .i64 xc]] w fun e w' => e = .returned (.bool (xiB wm cs xt xh xc)) ∧ Below w.heap.size w w' := by
  cases h1 : dvB wm cs with
  | false => exact l24Index_s1 v cs wm xt xh xc w hv h1
  | true =>
    cases h2 : hasB cs xc with
    | false => exact l24Index_s2 v cs wm xt xh xc w hv h1 h2
    | true =>
      cases h3 : inB xt 0 wm with
      | false => exact l24Index_s3 v cs wm xt xh xc w hv h1 h2 h3
      | true =>
        cases h4 : inB xh 0 (xc - 1) with
        | false => exact l24Index_s4 v cs wm xt xh xc w hv h1 h2 h3 h4
        | true => exact l24Index_s5 v cs wm xt xh xc w hv h1 h2 h3 h4

set_option maxHeartbeats 1000000 in
theorem ValidIndex_s (v : Value) (cs : List Int) (wm xt xh xc : Int) (w : World) (hv : Sl w v cs) :
    Calls Try.prog 16 #[.agg #[.int .i64 wm, v], .agg #[.int .i64 xt, .int .i64 xh, .int .i64 xc]] w fun e w' => e = .returned (.bool (xiB wm cs xt xh xc)) ∧ Below w.heap.size w w' := by
  have H1 := Lib.hid (fun w' (hb : Below w.heap.size w w') => l24Index_s v cs wm xt xh xc w' (hv.below hb))
  clear hv
  go_enter Try.func16, Try.ntmps16
  go_wp2_with fail
  refine (H1.out _ (by go_grown)).mono ?_
  rintro e w1 ⟨rfl, hb⟩
  go_wp2
  go_ret
  exact ⟨rfl, Below.trans (by go_grown) (hb.mono (by simp; omega))⟩
theorem ValidIndex_both (wm : Int) (cs : List Int) (xt xh xc : Int) : ∃ rb : Bool,
    (∀ v w, Sl w v cs → Calls Try.prog 18 #[.agg #[.int .i64 wm, v], .agg #[.int .i64 xt, .int .i64 xh, .int .i64 xc]] w fun e w' => e = .returned (.bool rb) ∧ Below w.heap.size w w') ∧
    (∀ v w, Sl w v cs → Calls Try.prog 16 #[.agg #[.int .i64 wm, v], .agg #[.int .i64 xt, .int .i64 xh, .int .i64 xc]] w fun e w' => e = .returned (.bool rb) ∧ Below w.heap.size w w') :=
  ⟨_, fun v w hv => ValidIndex_i v cs wm xt xh xc w hv, fun v w hv => ValidIndex_s v cs wm xt xh xc w hv⟩
end Go.Proofs.Ytlfahiaoekcepaa
