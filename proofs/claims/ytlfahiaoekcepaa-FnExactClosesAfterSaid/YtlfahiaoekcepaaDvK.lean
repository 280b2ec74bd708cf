/- Dividing heads: HolesAfter and ClosesAfter in the program and in the reference. -/
import Derived.Test.YtlfahiaoekcepaaDvJ
namespace Go.Proofs.Ytlfahiaoekcepaa
open Go.RowKit
attribute [local go_sem ↓] Go.wp_at_zero Go.wp_at_succ
attribute [local go_sem] cell?_grow frozen?_grow

theorem gcd_step {a b : Int} (ha : 0 ≤ a) (hb : 0 < b) : Int.gcd b (a % b) = Int.gcd a b := by
  obtain ⟨m, rfl⟩ := Int.eq_ofNat_of_zero_le ha
  obtain ⟨n, rfl⟩ := Int.eq_ofNat_of_zero_le (Int.le_of_lt hb)
  have e : ((m : Int) % (n : Int)) = ((m % n : Nat) : Int) := by omega
  rw [e]
  simp only [Int.gcd, Int.natAbs_natCast]
  rw [Nat.gcd_comm m n, Nat.gcd_rec n m, Nat.gcd_comm]
theorem gcd_zero_right {a : Int} (ha : 0 ≤ a) : (Int.gcd a 0 : Int) = a := by
  simp; omega

set_option maxHeartbeats 1000000 in
theorem gcd_any (a0 b0 : Int) (w : World) (ha : 0 ≤ a0) (ha2 : a0 ≤ 1000000000000) (hb : 0 ≤ b0) (hb2 : b0 ≤ 1000000000000) :
    Calls Try.prog 50 #[.int .i64 a0, .int .i64 b0] w fun e w' => e = .returned (.int .i64 (Int.gcd a0 b0)) ∧ Below w.heap.size w w' := by
  go_enter Try.func50, Try.ntmps50
  go_wp2_with fail
  go_loopw [0, 1] (fun x y wr => ∃ a b : Int, x = .int .i64 a ∧ y = .int .i64 b ∧ 0 ≤ a ∧ a ≤ 1000000000000 ∧ 0 ≤ b ∧ b ≤ 1000000000000 ∧ Int.gcd a b = Int.gcd a0 b0 ∧ ∃ n, wr = w.drewN n) (fun _ y _ => (intOf y).toNat)
  case atStart => exact ⟨_, _, rfl, rfl, ha, ha2, hb, hb2, rfl, 0, rfl⟩
  case round =>
    obtain ⟨a, b, rfl, rfl, h1, h2, h3, h4, hg, n, rfl⟩ := hrel
    have HG := Lib.hid hg
    clear hg
    by_cases h0 : b = 0
    · subst h0
      have HF := Lib.hid (gcd_zero_right h1)
      go_wp2
      go_ret
      exact ⟨ret_i (by rw [← HG.out, HF.out]), below_drewN (Below.refl _ _) _⟩
    · have hp : 0 < b := by omega
      have hbq : (b != 0) = true := by simpa using h0
      have r1 := Int.emod_nonneg a h0
      have r2 := Int.emod_lt_of_pos a hp
      have e1 : a.tmod b = a % b := IntWalk.rem_in _ _ h1
      have e2 : IntKind.i64.wrap (a % b) = a % b := IntWalk.i64_in _ (by omega)
      have n1 : (b == 0) = false := by simpa using h0
      have HS := Lib.hid (gcd_step h1 hp)
      go_wp2
      go_quiet (fail)
      clear e1 e2
      go_wp2
      go_roundw
      case rel => exact ⟨_, _, rfl, rfl, h3, h4, r1, by omega, by rw [HS.out, HG.out], by first | exact ⟨_, rfl⟩ | exact ⟨_, World.drewN_drewN _ _ _⟩⟩
      case measure => simp [intOf]; omega
set_option maxHeartbeats 1000000 in
theorem l02Gcd_any (a0 b0 : Int) (w : World) (ha : 0 ≤ a0) (ha2 : a0 ≤ 1000000000000) (hb : 0 ≤ b0) (hb2 : b0 ≤ 1000000000000) :
    Calls Try.prog 49 #[.int .i64 a0, .int .i64 b0] w fun e w' => e = .returned (.int .i64 (Int.gcd a0 b0)) ∧ Below w.heap.size w w' := by
  go_enter Try.func49, Try.ntmps49
  go_wp2_with fail
  go_loop [0, 1] (fun x y => ∃ a b : Int, x = .int .i64 a ∧ y = .int .i64 b ∧ 0 ≤ a ∧ a ≤ 1000000000000 ∧ 0 ≤ b ∧ b ≤ 1000000000000 ∧ Int.gcd a b = Int.gcd a0 b0) (fun _ y => (intOf y).toNat)
  case atStart => exact ⟨_, _, rfl, rfl, ha, ha2, hb, hb2, rfl⟩
  case round =>
    obtain ⟨a, b, rfl, rfl, h1, h2, h3, h4, hg⟩ := hrel
    have HG := Lib.hid hg
    clear hg
    by_cases h0 : b = 0
    · subst h0
      have HF := Lib.hid (gcd_zero_right h1)
      go_wp2
      go_ret
      exact ⟨ret_i (by rw [← HG.out, HF.out]), Below.refl _ _⟩
    · have hp : 0 < b := by omega
      have r1 := Int.emod_nonneg a h0
      have r2 := Int.emod_lt_of_pos a hp
      have HS := Lib.hid (gcd_step h1 hp)
      go_wp2
      go_round
      case rel => exact ⟨_, _, rfl, rfl, h3, h4, r1, by omega, by rw [HS.out, HG.out]⟩
      case measure => simp [intOf]; omega

set_option maxHeartbeats 4000000 in
theorem HolesAfter_i1 (v : Value) (cs : List Int) (wm xt xh xc nk : Int) (w : World) (hv : Sl w v cs) (hs : xiB wm cs xt xh xc = false) :
    Calls Try.prog 20 #[.agg #[.int .i64 wm, v], .agg #[.int .i64 xt, .int .i64 xh, .int .i64 xc], .int .i64 nk] w fun e w' => e = .returned (.tuple #[.int .i64 0, .int .i64 1]) ∧ Below w.heap.size w w' := by
  have H1 := Lib.hid (fun w' (hb : Below w.heap.size w w') => ValidIndex_i v cs wm xt xh xc w' (hv.below hb))
  have HB := Lib.hid hs
  clear hv hs
  go_enter Try.func20, Try.ntmps20
  obtain ⟨k0, k1⟩ := bx2 w 27 34 #[.int .i64 wm, v] #[.int .i64 xt, .int .i64 xh, .int .i64 xc]
  have HK0 := Lib.hid k0
  have HK1 := Lib.hid k1
  clear k0 k1
  go_wp2_with fail
  refine (H1.out _ (by go_grown)).mono ?_
  rintro e w1 ⟨rfl, hb1⟩
  rw [HB.out]
  go_wp2
  go_ret2
  exact ⟨rfl, Below.trans (by go_grown) (hb1.mono (by simp; omega))⟩

set_option maxHeartbeats 4000000 in
theorem HolesAfter_s1 (v : Value) (cs : List Int) (wm xt xh xc nk : Int) (w : World) (hv : Sl w v cs) (hs : xiB wm cs xt xh xc = false) :
    Calls Try.prog 19 #[.agg #[.int .i64 wm, v], .agg #[.int .i64 xt, .int .i64 xh, .int .i64 xc], .int .i64 nk] w fun e w' => e = .returned (.tuple #[.int .i64 0, .int .i64 1]) ∧ Below w.heap.size w w' := by
  have H1 := Lib.hid (fun w' (hb : Below w.heap.size w w') => l24Index_s v cs wm xt xh xc w' (hv.below hb))
  have HB := Lib.hid hs
  clear hv hs
  go_enter Try.func19, Try.ntmps19
  obtain ⟨k0, k1⟩ := bx2 w 27 34 #[.int .i64 wm, v] #[.int .i64 xt, .int .i64 xh, .int .i64 xc]
  have HK0 := Lib.hid k0
  have HK1 := Lib.hid k1
  clear k0 k1
  go_wp2_with fail
  refine (H1.out _ (by go_grown)).mono ?_
  rintro e w1 ⟨rfl, hb1⟩
  rw [HB.out]
  go_wp2
  go_ret2
  exact ⟨rfl, Below.trans (by go_grown) (hb1.mono (by simp; omega))⟩

set_option maxHeartbeats 4000000 in
theorem HolesAfter_i2 (v : Value) (cs : List Int) (wm xt xh xc nk : Int) (w : World) (hv : Sl w v cs) (hs : xiB wm cs xt xh xc = true) (hn : inB nk 0 1000000000 = false) :
    Calls Try.prog 20 #[.agg #[.int .i64 wm, v], .agg #[.int .i64 xt, .int .i64 xh, .int .i64 xc], .int .i64 nk] w fun e w' => e = .returned (.tuple #[.int .i64 0, .int .i64 2]) ∧ Below w.heap.size w w' := by
  have H1 := Lib.hid (fun w' (hb : Below w.heap.size w w') => ValidIndex_i v cs wm xt xh xc w' (hv.below hb))
  have HB := Lib.hid hs
  clear hv hs
  have e0 := hn
  clear hn
  go_enter Try.func20, Try.ntmps20
  obtain ⟨k0, k1⟩ := bx2 w 27 34 #[.int .i64 wm, v] #[.int .i64 xt, .int .i64 xh, .int .i64 xc]
  have HK0 := Lib.hid k0
  have HK1 := Lib.hid k1
  clear k0 k1
  go_wp2_with fail
  refine (H1.out _ (by go_grown)).mono ?_
  rintro e w1 ⟨rfl, hb1⟩
  rw [HB.out]
  have j0 := HK0.out.below hb1
  have j1 := HK1.out.below hb1
  have q0 := j0.cell 0 rfl
  have q1 := j0.cell 1 rfl
  have p0 := j1.cell 0 rfl
  have p1 := j1.cell 1 rfl
  have p2 := j1.cell 2 rfl
  have z0 := j0.lt
  have z1 := j1.lt
  have B1 : Below w.heap.size w w1 := Below.trans (by go_grown) (hb1.mono (by simp; omega))
  clear hb1 HK0 HK1 j0 j1
  go_wp2_with (go_at_call 39; refine (within_any _ _ _ _).mono ?_; rintro e w' ⟨rfl, rfl⟩)
  go_ret2
  exact ⟨rfl, B1⟩

set_option maxHeartbeats 4000000 in
theorem HolesAfter_s2 (v : Value) (cs : List Int) (wm xt xh xc nk : Int) (w : World) (hv : Sl w v cs) (hs : xiB wm cs xt xh xc = true) (hn : inB nk 0 1000000000 = false) :
    Calls Try.prog 19 #[.agg #[.int .i64 wm, v], .agg #[.int .i64 xt, .int .i64 xh, .int .i64 xc], .int .i64 nk] w fun e w' => e = .returned (.tuple #[.int .i64 0, .int .i64 2]) ∧ Below w.heap.size w w' := by
  have H1 := Lib.hid (fun w' (hb : Below w.heap.size w w') => l24Index_s v cs wm xt xh xc w' (hv.below hb))
  have HB := Lib.hid hs
  clear hv hs
  have e0 := hn
  clear hn
  go_enter Try.func19, Try.ntmps19
  obtain ⟨k0, k1⟩ := bx2 w 27 34 #[.int .i64 wm, v] #[.int .i64 xt, .int .i64 xh, .int .i64 xc]
  have HK0 := Lib.hid k0
  have HK1 := Lib.hid k1
  clear k0 k1
  go_wp2_with fail
  refine (H1.out _ (by go_grown)).mono ?_
  rintro e w1 ⟨rfl, hb1⟩
  rw [HB.out]
  have j0 := HK0.out.below hb1
  have j1 := HK1.out.below hb1
  have q0 := j0.cell 0 rfl
  have q1 := j0.cell 1 rfl
  have p0 := j1.cell 0 rfl
  have p1 := j1.cell 1 rfl
  have p2 := j1.cell 2 rfl
  have z0 := j0.lt
  have z1 := j1.lt
  have B1 : Below w.heap.size w w1 := Below.trans (by go_grown) (hb1.mono (by simp; omega))
  clear hb1 HK0 HK1 j0 j1
  go_wp2_with (go_at_call 43; refine (l00In_any _ _ _ _).mono ?_; rintro e w' ⟨rfl, rfl⟩)
  go_ret2
  exact ⟨rfl, B1⟩

set_option maxHeartbeats 4000000 in
theorem HolesAfter_i0 (v : Value) (cs : List Int) (wm xt xh xc nk : Int) (w : World) (hv : Sl w v cs) (hs : xiB wm cs xt xh xc = true) (hn : inB nk 0 1000000000 = true) :
    Calls Try.prog 20 #[.agg #[.int .i64 wm, v], .agg #[.int .i64 xt, .int .i64 xh, .int .i64 xc], .int .i64 nk] w fun e w' => e = .returned (.tuple #[.int .i64 (nk * (xt * xc + xh) % (wm * xc)), .int .i64 0]) ∧ Below w.heap.size w w' := by
  have H1 := Lib.hid (fun w' (hb : Below w.heap.size w w') => ValidIndex_i v cs wm xt xh xc w' (hv.below hb))
  obtain ⟨y1, y2, y3, y4, y5⟩ := xi_iff.1 hs
  have hc := circle_in y1 (hasB_iff.1 y2)
  have hw := (dvB_iff.1 y1).1
  have ht := inB_iff.1 y3
  have hh := inB_iff.1 y4
  have hst := inB_iff.1 y5
  have m1 := mul_in (a := wm) (b := xc) (A := 360) (B := 200) (by omega) (by omega) (by omega) (by omega)
  have m2 := mul_in (a := xt) (b := xc) (A := 360) (B := 200) (by omega) (by omega) (by omega) (by omega)
  have m3 : 1 ≤ wm * xc := by omega
  have m4 : wm * xc ≤ 1000000000 := by omega
  have m5 := m2.1
  have m6 : xt * xc ≤ 1000000000 := by omega
  have m7 : 1 ≤ xt * xc + xh := hst.1
  have m8 : xt * xc + xh ≤ 72000 := by omega
  have HS := Lib.hid (fun w' => stepOf_any xt xh xc w' m5 m6 (by omega) (by omega))
  have hk := inB_iff.1 hn
  have m9 := mul_in (a := nk) (b := xt * xc + xh) (A := 1000000000) (B := 72000) (by omega) (by omega) (by omega) (by omega)
  have k1 := m9.1
  have k2 := m9.2
  have e1 : IntKind.i64.wrap (nk * (xt * xc + xh)) = nk * (xt * xc + xh) := IntWalk.i64_in _ (by omega)
  have e2 : IntKind.i64.wrap (wm * xc) = wm * xc := IntWalk.i64_in _ (by omega)
  have r1 := Int.emod_nonneg (nk * (xt * xc + xh)) (show wm * xc ≠ 0 by omega)
  have r2 := Int.emod_lt_of_pos (nk * (xt * xc + xh)) (show 0 < wm * xc by omega)
  have e3 : (nk * (xt * xc + xh)).tmod (wm * xc) = nk * (xt * xc + xh) % (wm * xc) := IntWalk.rem_in _ _ k1
  have e4 : IntKind.i64.wrap (nk * (xt * xc + xh) % (wm * xc)) = nk * (xt * xc + xh) % (wm * xc) := IntWalk.i64_in _ (by omega)
  have n1 : ¬ wm * xc = 0 := by omega
  have n2 : (wm * xc == 0) = false := by simpa using n1
  clear m9 hk
  clear y1 y2 y3 y4 y5 hc hw ht hh hst m1 m2
  have HB := Lib.hid hs
  clear hv hs
  have e0 := hn
  clear hn
  go_enter Try.func20, Try.ntmps20
  obtain ⟨k0, k1⟩ := bx2 w 27 34 #[.int .i64 wm, v] #[.int .i64 xt, .int .i64 xh, .int .i64 xc]
  have HK0 := Lib.hid k0
  have HK1 := Lib.hid k1
  clear k0 k1
  go_wp2_with fail
  refine (H1.out _ (by go_grown)).mono ?_
  rintro e w1 ⟨rfl, hb1⟩
  rw [HB.out]
  have j0 := HK0.out.below hb1
  have j1 := HK1.out.below hb1
  have q0 := j0.cell 0 rfl
  have q1 := j0.cell 1 rfl
  have p0 := j1.cell 0 rfl
  have p1 := j1.cell 1 rfl
  have p2 := j1.cell 2 rfl
  have z0 := j0.lt
  have z1 := j1.lt
  have B1 : Below w.heap.size w w1 := Below.trans (by go_grown) (hb1.mono (by simp; omega))
  clear hb1 HK0 HK1 j0 j1
  go_wp2_with (go_at_call 39; refine (within_any _ _ _ _).mono ?_; rintro e w' ⟨rfl, rfl⟩)
  refine wp_region_grow (by kernel_rfl) (by kernel_rfl) ?_
  repeat (go_big_quiet_step ((go_at_call 42; exact grow_of (HS.out _))))
  refine wpQuiet_nil ?_
  intro w6 hb6
  go_wp2
  go_ret2
  exact ⟨rfl, B1.trans (hb6.mono B1.size)⟩

set_option maxHeartbeats 4000000 in
theorem HolesAfter_s0 (v : Value) (cs : List Int) (wm xt xh xc nk : Int) (w : World) (hv : Sl w v cs) (hs : xiB wm cs xt xh xc = true) (hn : inB nk 0 1000000000 = true) :
    Calls Try.prog 19 #[.agg #[.int .i64 wm, v], .agg #[.int .i64 xt, .int .i64 xh, .int .i64 xc], .int .i64 nk] w fun e w' => e = .returned (.tuple #[.int .i64 (nk * (xt * xc + xh) % (wm * xc)), .int .i64 0]) ∧ Below w.heap.size w w' := by
  have H1 := Lib.hid (fun w' (hb : Below w.heap.size w w') => l24Index_s v cs wm xt xh xc w' (hv.below hb))
  obtain ⟨y1, y2, y3, y4, y5⟩ := xi_iff.1 hs
  have hc := circle_in y1 (hasB_iff.1 y2)
  have hw := (dvB_iff.1 y1).1
  have ht := inB_iff.1 y3
  have hh := inB_iff.1 y4
  have hst := inB_iff.1 y5
  have m1 := mul_in (a := wm) (b := xc) (A := 360) (B := 200) (by omega) (by omega) (by omega) (by omega)
  have m2 := mul_in (a := xt) (b := xc) (A := 360) (B := 200) (by omega) (by omega) (by omega) (by omega)
  have m3 : 1 ≤ wm * xc := by omega
  have m4 : wm * xc ≤ 1000000000 := by omega
  have m5 := m2.1
  have m6 : xt * xc ≤ 1000000000 := by omega
  have m7 : 1 ≤ xt * xc + xh := hst.1
  have m8 : xt * xc + xh ≤ 72000 := by omega
  have HS := Lib.hid (fun w' => l24Step_any xt xh xc w' m5 m6 (by omega) (by omega))
  have hk := inB_iff.1 hn
  have m9 := mul_in (a := nk) (b := xt * xc + xh) (A := 1000000000) (B := 72000) (by omega) (by omega) (by omega) (by omega)
  have k1 := m9.1
  have k2 := m9.2
  have e1 : IntKind.i64.wrap (nk * (xt * xc + xh)) = nk * (xt * xc + xh) := IntWalk.i64_in _ (by omega)
  have e2 : IntKind.i64.wrap (wm * xc) = wm * xc := IntWalk.i64_in _ (by omega)
  have r1 := Int.emod_nonneg (nk * (xt * xc + xh)) (show wm * xc ≠ 0 by omega)
  have r2 := Int.emod_lt_of_pos (nk * (xt * xc + xh)) (show 0 < wm * xc by omega)
  have e3 : (nk * (xt * xc + xh)).tmod (wm * xc) = nk * (xt * xc + xh) % (wm * xc) := IntWalk.rem_in _ _ k1
  have e4 : IntKind.i64.wrap (nk * (xt * xc + xh) % (wm * xc)) = nk * (xt * xc + xh) % (wm * xc) := IntWalk.i64_in _ (by omega)
  have n1 : ¬ wm * xc = 0 := by omega
  have n2 : (wm * xc == 0) = false := by simpa using n1
  clear m9 hk
  clear y1 y2 y3 y4 y5 hc hw ht hh hst m1 m2
  have HB := Lib.hid hs
  clear hv hs
  have e0 := hn
  clear hn
  go_enter Try.func19, Try.ntmps19
  obtain ⟨k0, k1⟩ := bx2 w 27 34 #[.int .i64 wm, v] #[.int .i64 xt, .int .i64 xh, .int .i64 xc]
  have HK0 := Lib.hid k0
  have HK1 := Lib.hid k1
  clear k0 k1
  go_wp2_with fail
  refine (H1.out _ (by go_grown)).mono ?_
  rintro e w1 ⟨rfl, hb1⟩
  rw [HB.out]
  have j0 := HK0.out.below hb1
  have j1 := HK1.out.below hb1
  have q0 := j0.cell 0 rfl
  have q1 := j0.cell 1 rfl
  have p0 := j1.cell 0 rfl
  have p1 := j1.cell 1 rfl
  have p2 := j1.cell 2 rfl
  have z0 := j0.lt
  have z1 := j1.lt
  have B1 : Below w.heap.size w w1 := Below.trans (by go_grown) (hb1.mono (by simp; omega))
  clear hb1 HK0 HK1 j0 j1
  go_wp2_with (go_at_call 43; refine (l00In_any _ _ _ _).mono ?_; rintro e w' ⟨rfl, rfl⟩)
  refine wp_region_grow (by kernel_rfl) (by kernel_rfl) ?_
  repeat (go_big_quiet_step ((go_at_call 44; exact grow_of (HS.out _))))
  refine wpQuiet_nil ?_
  intro w6 hb6
  go_wp2
  go_ret2
  exact ⟨rfl, B1.trans (hb6.mono B1.size)⟩

set_option maxHeartbeats 4000000 in
theorem ClosesAfter_i1 (v : Value) (cs : List Int) (wm xt xh xc : Int) (w : World) (hv : Sl w v cs) (hs : xiB wm cs xt xh xc = false) :
    Calls Try.prog 25 #[.agg #[.int .i64 wm, v], .agg #[.int .i64 xt, .int .i64 xh, .int .i64 xc]] w fun e w' => e = .returned (.tuple #[.int .i64 0, .int .i64 1]) ∧ Below w.heap.size w w' := by
  have H1 := Lib.hid (fun w' (hb : Below w.heap.size w w') => ValidIndex_i v cs wm xt xh xc w' (hv.below hb))
  have HB := Lib.hid hs
  clear hv hs
  go_enter Try.func25, Try.ntmps25
  obtain ⟨k0, k1⟩ := bx2 w 27 34 #[.int .i64 wm, v] #[.int .i64 xt, .int .i64 xh, .int .i64 xc]
  have HK0 := Lib.hid k0
  have HK1 := Lib.hid k1
  clear k0 k1
  go_wp2_with fail
  refine (H1.out _ (by go_grown)).mono ?_
  rintro e w1 ⟨rfl, hb1⟩
  rw [HB.out]
  go_wp2
  go_ret2
  exact ⟨rfl, Below.trans (by go_grown) (hb1.mono (by simp; omega))⟩

set_option maxHeartbeats 4000000 in
theorem ClosesAfter_s1 (v : Value) (cs : List Int) (wm xt xh xc : Int) (w : World) (hv : Sl w v cs) (hs : xiB wm cs xt xh xc = false) :
    Calls Try.prog 24 #[.agg #[.int .i64 wm, v], .agg #[.int .i64 xt, .int .i64 xh, .int .i64 xc]] w fun e w' => e = .returned (.tuple #[.int .i64 0, .int .i64 1]) ∧ Below w.heap.size w w' := by
  have H1 := Lib.hid (fun w' (hb : Below w.heap.size w w') => l24Index_s v cs wm xt xh xc w' (hv.below hb))
  have HB := Lib.hid hs
  clear hv hs
  go_enter Try.func24, Try.ntmps24
  obtain ⟨k0, k1⟩ := bx2 w 27 34 #[.int .i64 wm, v] #[.int .i64 xt, .int .i64 xh, .int .i64 xc]
  have HK0 := Lib.hid k0
  have HK1 := Lib.hid k1
  clear k0 k1
  go_wp2_with fail
  refine (H1.out _ (by go_grown)).mono ?_
  rintro e w1 ⟨rfl, hb1⟩
  rw [HB.out]
  go_wp2
  go_ret2
  exact ⟨rfl, Below.trans (by go_grown) (hb1.mono (by simp; omega))⟩

set_option maxHeartbeats 4000000 in
theorem ClosesAfter_i0 (v : Value) (cs : List Int) (wm xt xh xc : Int) (w : World) (hv : Sl w v cs) (hs : xiB wm cs xt xh xc = true) :
    Calls Try.prog 25 #[.agg #[.int .i64 wm, v], .agg #[.int .i64 xt, .int .i64 xh, .int .i64 xc]] w fun e w' => e = .returned (.tuple #[.int .i64 (wm * xc / (Int.gcd (wm * xc) (xt * xc + xh) : Int)), .int .i64 0]) ∧ Below w.heap.size w w' := by
  have H1 := Lib.hid (fun w' (hb : Below w.heap.size w w') => ValidIndex_i v cs wm xt xh xc w' (hv.below hb))
  obtain ⟨y1, y2, y3, y4, y5⟩ := xi_iff.1 hs
  have hc := circle_in y1 (hasB_iff.1 y2)
  have hw := (dvB_iff.1 y1).1
  have ht := inB_iff.1 y3
  have hh := inB_iff.1 y4
  have hst := inB_iff.1 y5
  have m1 := mul_in (a := wm) (b := xc) (A := 360) (B := 200) (by omega) (by omega) (by omega) (by omega)
  have m2 := mul_in (a := xt) (b := xc) (A := 360) (B := 200) (by omega) (by omega) (by omega) (by omega)
  have m3 : 1 ≤ wm * xc := by omega
  have m4 : wm * xc ≤ 1000000000 := by omega
  have m5 := m2.1
  have m6 : xt * xc ≤ 1000000000 := by omega
  have m7 : 1 ≤ xt * xc + xh := hst.1
  have m8 : xt * xc + xh ≤ 72000 := by omega
  have HS := Lib.hid (fun w' => stepOf_any xt xh xc w' m5 m6 (by omega) (by omega))
  have HG := Lib.hid (fun w' => gcd_any (wm * xc) (xt * xc + xh) w' (by omega) (by omega) (by omega) (by omega))
  have gp : 0 < Int.gcd (wm * xc) (xt * xc + xh) := Nat.pos_of_ne_zero fun e => by have := (Int.gcd_eq_zero_iff.1 e).1; omega
  have g1 : (1 : Int) ≤ (Int.gcd (wm * xc) (xt * xc + xh) : Int) := by omega
  have n1 : ¬ Int.gcd (wm * xc) (xt * xc + xh) = 0 := by omega
  have n2 : ((Int.gcd (wm * xc) (xt * xc + xh) : Int) == 0) = false := by simp; omega
  clear gp
  clear y1 y2 y3 y4 y5 hc hw ht hh hst m1 m2
  have HB := Lib.hid hs
  clear hv hs
  go_enter Try.func25, Try.ntmps25
  obtain ⟨k0, k1⟩ := bx2 w 27 34 #[.int .i64 wm, v] #[.int .i64 xt, .int .i64 xh, .int .i64 xc]
  have HK0 := Lib.hid k0
  have HK1 := Lib.hid k1
  clear k0 k1
  go_wp2_with fail
  refine (H1.out _ (by go_grown)).mono ?_
  rintro e w1 ⟨rfl, hb1⟩
  rw [HB.out]
  have j0 := HK0.out.below hb1
  have j1 := HK1.out.below hb1
  have q0 := j0.cell 0 rfl
  have q1 := j0.cell 1 rfl
  have p0 := j1.cell 0 rfl
  have p1 := j1.cell 1 rfl
  have p2 := j1.cell 2 rfl
  have z0 := j0.lt
  have z1 := j1.lt
  have B1 : Below w.heap.size w w1 := Below.trans (by go_grown) (hb1.mono (by simp; omega))
  clear hb1 HK0 HK1 j0 j1
  go_wp2_with fail
  refine (HS.out _).mono ?_
  rintro e w2 ⟨rfl, hb2⟩
  go_wp2_with fail
  refine (HG.out _).mono ?_
  rintro e w3 ⟨rfl, hb3⟩
  go_wp2
  go_ret2
  exact ⟨rfl, B1.trans ((hb2.trans (hb3.mono hb2.size)).mono B1.size)⟩

set_option maxHeartbeats 4000000 in
theorem ClosesAfter_s0 (v : Value) (cs : List Int) (wm xt xh xc : Int) (w : World) (hv : Sl w v cs) (hs : xiB wm cs xt xh xc = true) :
    Calls Try.prog 24 #[.agg #[.int .i64 wm, v], .agg #[.int .i64 xt, .int .i64 xh, .int .i64 xc]] w fun e w' => e = .returned (.tuple #[.int .i64 (wm * xc / (Int.gcd (wm * xc) (xt * xc + xh) : Int)), .int .i64 0]) ∧ Below w.heap.size w w' := by
  have H1 := Lib.hid (fun w' (hb : Below w.heap.size w w') => l24Index_s v cs wm xt xh xc w' (hv.below hb))
  obtain ⟨y1, y2, y3, y4, y5⟩ := xi_iff.1 hs
  have hc := circle_in y1 (hasB_iff.1 y2)
  have hw := (dvB_iff.1 y1).1
  have ht := inB_iff.1 y3
  have hh := inB_iff.1 y4
  have hst := inB_iff.1 y5
  have m1 := mul_in (a := wm) (b := xc) (A := 360) (B := 200) (by omega) (by omega) (by omega) (by omega)
  have m2 := mul_in (a := xt) (b := xc) (A := 360) (B := 200) (by omega) (by omega) (by omega) (by omega)
  have m3 : 1 ≤ wm * xc := by omega
  have m4 : wm * xc ≤ 1000000000 := by omega
  have m5 := m2.1
  have m6 : xt * xc ≤ 1000000000 := by omega
  have m7 : 1 ≤ xt * xc + xh := hst.1
  have m8 : xt * xc + xh ≤ 72000 := by omega
  have HS := Lib.hid (fun w' => l24Step_any xt xh xc w' m5 m6 (by omega) (by omega))
  have HG := Lib.hid (fun w' => l02Gcd_any (wm * xc) (xt * xc + xh) w' (by omega) (by omega) (by omega) (by omega))
  have gp : 0 < Int.gcd (wm * xc) (xt * xc + xh) := Nat.pos_of_ne_zero fun e => by have := (Int.gcd_eq_zero_iff.1 e).1; omega
  have g1 : (1 : Int) ≤ (Int.gcd (wm * xc) (xt * xc + xh) : Int) := by omega
  have n1 : ¬ Int.gcd (wm * xc) (xt * xc + xh) = 0 := by omega
  have n2 : ((Int.gcd (wm * xc) (xt * xc + xh) : Int) == 0) = false := by simp; omega
  clear gp
  clear y1 y2 y3 y4 y5 hc hw ht hh hst m1 m2
  have HB := Lib.hid hs
  clear hv hs
  go_enter Try.func24, Try.ntmps24
  obtain ⟨k0, k1⟩ := bx2 w 27 34 #[.int .i64 wm, v] #[.int .i64 xt, .int .i64 xh, .int .i64 xc]
  have HK0 := Lib.hid k0
  have HK1 := Lib.hid k1
  clear k0 k1
  go_wp2_with fail
  refine (H1.out _ (by go_grown)).mono ?_
  rintro e w1 ⟨rfl, hb1⟩
  rw [HB.out]
  have j0 := HK0.out.below hb1
  have j1 := HK1.out.below hb1
  have q0 := j0.cell 0 rfl
  have q1 := j0.cell 1 rfl
  have p0 := j1.cell 0 rfl
  have p1 := j1.cell 1 rfl
  have p2 := j1.cell 2 rfl
  have z0 := j0.lt
  have z1 := j1.lt
  have B1 : Below w.heap.size w w1 := Below.trans (by go_grown) (hb1.mono (by simp; omega))
  clear hb1 HK0 HK1 j0 j1
  go_wp2_with fail
  refine (HS.out _).mono ?_
  rintro e w2 ⟨rfl, hb2⟩
  go_wp2_with fail
  refine (HG.out _).mono ?_
  rintro e w3 ⟨rfl, hb3⟩
  go_wp2
  go_ret2
  exact ⟨rfl, B1.trans ((hb2.trans (hb3.mono hb2.size)).mono B1.size)⟩

theorem HolesAfter_both (wm : Int) (cs : List Int) (xt xh xc nk : Int) : ∃ ra rb : Int,
    (∀ v w, Sl w v cs → Calls Try.prog 20 #[.agg #[.int .i64 wm, v], .agg #[.int .i64 xt, .int .i64 xh, .int .i64 xc], .int .i64 nk] w fun e w' => e = .returned (.tuple #[.int .i64 ra, .int .i64 rb]) ∧ Below w.heap.size w w') ∧
    (∀ v w, Sl w v cs → Calls Try.prog 19 #[.agg #[.int .i64 wm, v], .agg #[.int .i64 xt, .int .i64 xh, .int .i64 xc], .int .i64 nk] w fun e w' => e = .returned (.tuple #[.int .i64 ra, .int .i64 rb]) ∧ Below w.heap.size w w') := by
  cases hs : xiB wm cs xt xh xc with
  | false => exact ⟨_, _, fun v w hv => HolesAfter_i1 v cs wm xt xh xc nk w hv hs, fun v w hv => HolesAfter_s1 v cs wm xt xh xc nk w hv hs⟩
  | true =>
    cases hn : inB nk 0 1000000000 with
    | false => exact ⟨_, _, fun v w hv => HolesAfter_i2 v cs wm xt xh xc nk w hv hs hn, fun v w hv => HolesAfter_s2 v cs wm xt xh xc nk w hv hs hn⟩
    | true => exact ⟨_, _, fun v w hv => HolesAfter_i0 v cs wm xt xh xc nk w hv hs hn, fun v w hv => HolesAfter_s0 v cs wm xt xh xc nk w hv hs hn⟩
theorem ClosesAfter_both (wm : Int) (cs : List Int) (xt xh xc : Int) : ∃ ra rb : Int,
    (∀ v w, Sl w v cs → Calls Try.prog 25 #[.agg #[.int .i64 wm, v], .agg #[.int .i64 xt, .int .i64 xh, .int .i64 xc]] w fun e w' => e = .returned (.tuple #[.int .i64 ra, .int .i64 rb]) ∧ Below w.heap.size w w') ∧
    (∀ v w, Sl w v cs → Calls Try.prog 24 #[.agg #[.int .i64 wm, v], .agg #[.int .i64 xt, .int .i64 xh, .int .i64 xc]] w fun e w' => e = .returned (.tuple #[.int .i64 ra, .int .i64 rb]) ∧ Below w.heap.size w w') := by
  cases hs : xiB wm cs xt xh xc with
  | false => exact ⟨_, _, fun v w hv => ClosesAfter_i1 v cs wm xt xh xc w hv hs, fun v w hv => ClosesAfter_s1 v cs wm xt xh xc w hv hs⟩
  | true => exact ⟨_, _, fun v w hv => ClosesAfter_i0 v cs wm xt xh xc w hv hs, fun v w hv => ClosesAfter_s0 v cs wm xt xh xc w hv hs⟩
end Go.Proofs.Ytlfahiaoekcepaa
