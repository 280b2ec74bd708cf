/- Racks: snail hours, depths, valid states, in the program and in the reference. -/
import Derived.Test.YtdlegcjcmhpbcaaRkV
import Derived.Deep.RegionHeld3
import Derived.Deep.DrawnRows
namespace Go.Proofs.Ytdlegcjcmhpbcaa
open Go.RowKit
attribute [local go_sem ↓] Go.wp_at_zero Go.wp_at_succ

set_option maxHeartbeats 400000 in
theorem isRackMinute_any (m : Int) (w : World) :
    Calls Try.prog 24 #[.int .i64 m] w fun e w' => e = .returned (.bool (inB m 0 719)) ∧ w = w' := by
  go_enter Try.func24, Try.ntmps24
  go_wp2_with (go_at_call 41; refine (within_any _ _ _ _).mono ?_; rintro e w' ⟨rfl, rfl⟩)
  go_ret
  exact ⟨rfl, rfl⟩

set_option maxHeartbeats 400000 in
theorem snailHour_any (v : Value) (wn m : Int) (w : World) (h1 : 1 ≤ wn) (h2 : wn ≤ 30) (h3 : 0 ≤ m) (h4 : m ≤ 719) :
    Calls Try.prog 25 #[.agg #[v, .int .i64 wn], .int .i64 m] w fun e w' => e = .returned (.int .i64 (snail wn m)) ∧ Below w.heap.size w w' := by
  go_enter Try.func25, Try.ntmps25
  go_wp2
  go_ret
  exact ⟨rfl, by go_grown⟩
set_option maxHeartbeats 400000 in
theorem l21Hour_any (v : Value) (wn m : Int) (w : World) (h1 : 1 ≤ wn) (h2 : wn ≤ 30) (h3 : 0 ≤ m) (h4 : m ≤ 719) :
    Calls Try.prog 28 #[.agg #[v, .int .i64 wn], .int .i64 m] w fun e w' => e = .returned (.int .i64 (snail wn m)) ∧ Below w.heap.size w w' := by
  go_enter Try.func28, Try.ntmps28
  go_wp2
  go_ret
  exact ⟨rfl, by go_grown⟩
set_option maxHeartbeats 400000 in
theorem l21Warned_any (v : Value) (wn m : Int) (w : World) (h1 : 1 ≤ wn) (h2 : wn ≤ 30) (h3 : 0 ≤ m) (h4 : m ≤ 719) :
    Calls Try.prog 38 #[.agg #[v, .int .i64 wn], .int .i64 m] w fun e w' => e = .returned (.bool (decide (60 - wn ≤ m % 60))) ∧ Below w.heap.size w w' := by
  go_enter Try.func38, Try.ntmps38
  go_wp2
  go_ret
  exact ⟨rfl, by go_grown⟩

/-- The facts on a rack's cells that a walk wants where a depth is read. -/
theorem depth_cell {w : World} {v : Value} {ds : List Int} {wn : Int} (hv : Sl w v ds) (hr : RkOk ds wn) (m : Int) :
    ∃ b o c, v = .slice (some ⟨b, o, none⟩) ds.length c ∧ b < w.heap.size ∧ snail wn m < (ds.length : Int) ∧ ds.length ≤ c ∧ c ≤ 9223372036854775807 ∧ ∀ w', Below w.heap.size w w' → w'.cell? ⟨b, o + (snail wn m).toNat, none⟩ = some (.int .i64 (depthM ds wn m)) := by
  obtain ⟨A, c, rfl, hac, hac', HA⟩ := hv.open_
  have hs := snail_in wn m
  have hlen := hr.1
  obtain ⟨b, o, rfl, hb, hc⟩ := HA.out (snail wn m).toNat (by omega)
  exact ⟨b, o, c, rfl, hb, by omega, hac, hac', fun w' hbw => (hbw.cell (p := ⟨b, o + (snail wn m).toNat, none⟩) hb).trans (hc _ (by omega))⟩

set_option maxHeartbeats 1000000 in
theorem depthAt_any (v : Value) (ds : List Int) (wn m : Int) (w : World) (hv : Sl w v ds) (hr : RkOk ds wn) (h3 : 0 ≤ m) (h4 : m ≤ 719) :
    Calls Try.prog 36 #[.agg #[v, .int .i64 wn], .int .i64 m] w fun e w' => e = .returned (.int .i64 (depthM ds wn m)) ∧ Below w.heap.size w w' := by
  obtain ⟨b, o, c, rfl, hb, hi, hc1, hc2, hc⟩ := depth_cell hv hr m
  have hi0 := (snail_in wn m).1
  have h1 := hr.2.2.1
  have h2 := hr.2.2.2
  have q3 := hc w (Below.refl _ _)
  have HC := Lib.hid hc
  clear hc hv
  go_enter Try.func36, Try.ntmps36
  have k0 := Blk.new w 26 #[.slice (some ⟨b, o, none⟩) ds.length c, .int .i64 wn]
  have q0 := k0.cell 0 rfl
  have q1 := k0.cell 1 rfl
  have q2 := HC.out (w.alloc (.cells #[.slice (some ⟨b, o, none⟩) ds.length c, .int .i64 wn] 26)) (by go_grown)
  have HK := Lib.hid k0
  clear k0
  go_wp2_with fail
  go_region_held3 (fun w' => w'.cell? ⟨w.heap.size, 0, none⟩ = some (.slice (some ⟨b, o, none⟩) ds.length c) ∧ w'.cell? ⟨w.heap.size, 1, none⟩ = some (.int .i64 wn) ∧ w'.cell? ⟨b, o + (snail wn m).toNat, none⟩ = some (.int .i64 (depthM ds wn m))) (go_keep)
    (first
      | (go_at_call 25; refine (snailHour_any _ wn m _ h1 h2 h3 h4).mono ?_; rintro e w6 ⟨rfl, hb6⟩; have k6 := Blk.below (w := (w.alloc (.cells #[.slice (some ⟨b, o, none⟩) ds.length c, .int .i64 wn] 26)).drew) HK.out hb6; have B6 : Below w.heap.size w w6 := Below.trans (by go_grown) (hb6.mono (by simp)); have r0 := k6.cell 0 rfl; have r1 := k6.cell 1 rfl; have r2 := HC.out w6 B6))
  all_goals go_wp2
  all_goals (go_ret; exact ⟨rfl, B6⟩)

set_option maxHeartbeats 2000000 in
theorem validRackState_any (v : Value) (ds : List Int) (wn m rd : Int) (w : World) (hv : Sl w v ds) (hr : RkOk ds wn) :
    Calls Try.prog 35 #[.agg #[v, .int .i64 wn], .agg #[.int .i64 m, .int .i64 rd]] w fun e w' => e = .returned (.bool (decide (StOk ds wn m rd))) ∧ Below w.heap.size w w' := by
  have h1 := hr.2.2.1
  have h2 := hr.2.2.2
  by_cases hm : 0 ≤ m ∧ m ≤ 719
  · have e1 := inB_t hm.1 hm.2
    obtain ⟨h3, h4⟩ := hm
    by_cases h0 : rd = 0
    · have b0 : (rd == 0) = true := by simp [h0]
      have hd := Lib.hid (dec_t (stOk_zero (ds := ds) (wn := wn) ⟨h3, h4⟩ h0))
      clear h0 hv
      go_enter Try.func35, Try.ntmps35
      go_wp2_with (go_at_call 24; refine (isRackMinute_any _ _).mono ?_; rintro e w' ⟨rfl, rfl⟩)
      go_quiet (fail)
      go_wp2
      go_ret
      exact ⟨ret_b hd.out.symm, below_drewN (by go_grown) _⟩
    · have b0 : (rd == 0) = false := by simp [h0]
      by_cases h5 : m % 60 < 60 - wn
      · have b5 : decide (60 - wn ≤ m % 60) = false := decide_eq_false (by omega)
        have hd := Lib.hid (dec_f (stOk_no2 (ds := ds) (wn := wn) h0 h5))
        clear h0 hv
        go_enter Try.func35, Try.ntmps35
        go_wp2_with (go_at_call 24; refine (isRackMinute_any _ _).mono ?_; rintro e w' ⟨rfl, rfl⟩)
        have e5 : IntKind.i64.wrap (60 - wn) = 60 - wn := IntWalk.i64_in _ (by omega)
        have e6 : m.tmod 60 = m % 60 := IntWalk.rem_in _ _ h3
        go_quiet (fail)
        clear e5 e6
        go_wp2
        go_ret
        exact ⟨ret_b hd.out.symm, below_drewN (by go_grown) _⟩
      · have h5' : 60 - wn ≤ m % 60 := by omega
        have b5 : decide (60 - wn ≤ m % 60) = true := decide_eq_true h5'
        have hd : Hid (decide (StOk ds wn m rd) = (rd == depthM ds wn m)) := by
          show _ = _
          by_cases h6 : rd = depthM ds wn m
          · rw [dec_t (stOk_ready ⟨h3, h4⟩ h5' h6)]; simp [h6]
          · rw [dec_f (stOk_no3 h0 h6)]; simp [h6]
        have HV := Lib.hid (fun w' (hb : Below w.heap.size w w') => depthAt_any v ds wn m w' (hv.below hb) hr h3 h4)
        clear h0 hv hr
        go_enter Try.func35, Try.ntmps35
        have k0 := (Blk.new w 26 #[v, .int .i64 wn]).alloc (.cells #[.int .i64 m, .int .i64 rd] 28)
        have k1 := Blk.new (w.alloc (.cells #[v, .int .i64 wn] 26)) 28 #[.int .i64 m, .int .i64 rd]
        have HK0 := Lib.hid k0
        have HK1 := Lib.hid k1
        clear k0 k1
        go_wp2_with (go_at_call 24; refine (isRackMinute_any _ _).mono ?_; rintro e w' ⟨rfl, rfl⟩)
        have e5 : IntKind.i64.wrap (60 - wn) = 60 - wn := IntWalk.i64_in _ (by omega)
        have e6 : m.tmod 60 = m % 60 := IntWalk.rem_in _ _ h3
        go_region_held3 (fun w' => w'.cell? ⟨w.heap.size, 0, none⟩ = some v ∧ w'.cell? ⟨w.heap.size, 1, none⟩ = some (.int .i64 wn) ∧ w'.cell? ⟨w.heap.size + 1, 0, none⟩ = some (.int .i64 m) ∧ w'.cell? ⟨w.heap.size + 1, 1, none⟩ = some (.int .i64 rd)) (go_keep)
          (first
            | (go_at_call 36; refine (HV.out _ (by go_grown)).mono ?_; rintro e w6 ⟨rfl, hb6⟩; have B6 : Below w.heap.size w w6 := Below.trans (by go_grown) (hb6.mono (by simp; omega)); have k6 := Blk.below (w := ((w.alloc (.cells #[v, .int .i64 wn] 26)).alloc (.cells #[.int .i64 m, .int .i64 rd] 28)).drew) HK0.out hb6; have k7 := Blk.below (w := ((w.alloc (.cells #[v, .int .i64 wn] 26)).alloc (.cells #[.int .i64 m, .int .i64 rd] 28)).drew) HK1.out hb6; simp only [World.size_alloc] at k7; have r0 := k6.cell 0 rfl; have r1 := k6.cell 1 rfl; have r2 := k7.cell 0 rfl; have r3 := k7.cell 1 rfl))
        all_goals go_wp2
        all_goals (go_ret; exact ⟨ret_b hd.out.symm, B6⟩)
  · have e1 := inB_no hm
    have hd := Lib.hid (dec_f (stOk_no1 (ds := ds) (wn := wn) (rd := rd) hm))
    clear hm hv
    go_enter Try.func35, Try.ntmps35
    go_wp2_with (go_at_call 24; refine (isRackMinute_any _ _).mono ?_; rintro e w' ⟨rfl, rfl⟩)
    go_ret
    exact ⟨ret_b hd.out.symm, by go_grown⟩

end Go.Proofs.Ytdlegcjcmhpbcaa
