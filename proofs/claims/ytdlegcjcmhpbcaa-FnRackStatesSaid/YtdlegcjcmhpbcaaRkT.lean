/- Racks: ValidRackState and SnailHour, in the program and in the reference. -/
import Derived.Test.YtdlegcjcmhpbcaaRkS
namespace Go.Proofs.Ytdlegcjcmhpbcaa
open Go.RowKit
attribute [local go_sem ↓] Go.wp_at_zero Go.wp_at_succ
attribute [local go_sem] cell?_grow frozen?_grow

set_option maxHeartbeats 1000000 in
theorem ValidRackState_i (v : Value) (ds : List Int) (wn m rd : Int) (w : World) (hv : Sl w v ds) :
    Calls Try.prog 17 #[.agg #[v, .int .i64 wn], .agg #[.int .i64 m, .int .i64 rd]] w fun e w' => e = .returned (.bool (stB ds wn m rd)) ∧ Below w.heap.size w w' := by
  have h1 := Lib.hid (fun w' (hb : Below w.heap.size w w') => ValidRack_i v ds wn w' (hv.below hb))
  by_cases hr : RkOk ds wn
  · have HB := Lib.hid (rkB_iff.2 hr)
    have HS := Lib.hid (stB_of (m := m) (rd := rd) hr)
    have h2 := Lib.hid (fun w' (hb : Below w.heap.size w w') => validRackState_any v ds wn m rd w' (hv.below hb) hr)
    clear hv hr
    go_enter Try.func17, Try.ntmps17
    have k0 := (Blk.new w 26 #[v, .int .i64 wn]).alloc (.cells #[.int .i64 m, .int .i64 rd] 28)
    have k1 := Blk.new (w.alloc (.cells #[v, .int .i64 wn] 26)) 28 #[.int .i64 m, .int .i64 rd]
    have HK0 := Lib.hid k0
    have HK1 := Lib.hid k1
    clear k0 k1
    go_wp2_with fail
    refine (h1.out _ (by go_grown)).mono ?_
    rintro e w1 ⟨rfl, hb1⟩
    rw [HB.out]
    have B1 : Below w.heap.size w w1 := Below.trans (by go_grown) (hb1.mono (by simp; omega))
    have k7 := HK1.out.below hb1
    simp only [World.size_alloc] at k7
    have q0 := (HK0.out.below hb1).cell 0 rfl
    have q1 := (HK0.out.below hb1).cell 1 rfl
    have q2 := k7.cell 0 rfl
    have q3 := k7.cell 1 rfl
    clear k7 hb1
    go_wp2_with fail
    refine (h2.out _ B1).mono ?_
    rintro e w2 ⟨rfl, hb2⟩
    go_wp2
    go_ret
    exact ⟨ret_b HS.out.symm, B1.trans (hb2.mono B1.size)⟩
  · have HB := Lib.hid (rkB_no hr)
    have HS := Lib.hid (stB_no (m := m) (rd := rd) hr)
    clear hv hr
    go_enter Try.func17, Try.ntmps17
    go_wp2_with fail
    refine (h1.out _ (by go_grown)).mono ?_
    rintro e w1 ⟨rfl, hb1⟩
    rw [HB.out]
    go_wp2
    go_ret
    exact ⟨ret_b HS.out.symm, Below.trans (by go_grown) (hb1.mono (by simp; omega))⟩

set_option maxHeartbeats 2000000 in
theorem l21State_any (v : Value) (ds : List Int) (wn m rd : Int) (w : World) (hv : Sl w v ds) :
    Calls Try.prog 20 #[.agg #[v, .int .i64 wn], .agg #[.int .i64 m, .int .i64 rd]] w fun e w' => e = .returned (.bool (stB ds wn m rd)) ∧ Below w.heap.size w w' := by
  have H1 := Lib.hid (fun w' (hb : Below w.heap.size w w') => l21Ok_s v ds wn w' (hv.below hb))
  by_cases hr : RkOk ds wn
  · have HB := Lib.hid (rkB_iff.2 hr)
    have HS := Lib.hid (stB_of (m := m) (rd := rd) hr)
    have h1 := hr.2.2.1
    have h2 := hr.2.2.2
    by_cases hm : 0 ≤ m ∧ m ≤ 719
    · have e1 := inB_t hm.1 hm.2
      obtain ⟨h3, h4⟩ := hm
      obtain ⟨b, o, c, rfl, hbs, hi, hc1, hc2, hc⟩ := depth_cell hv hr m
      have hi0 := (snail_in wn m).1
      have HC := Lib.hid hc
      have HR := Lib.hid hr
      clear hc hv hr
      go_enter Try.func20, Try.ntmps20
      have k0 := (Blk.new w 26 #[.slice (some ⟨b, o, none⟩) ds.length c, .int .i64 wn]).alloc (.cells #[.int .i64 m, .int .i64 rd] 28)
      have k1 := Blk.new (w.alloc (.cells #[.slice (some ⟨b, o, none⟩) ds.length c, .int .i64 wn] 26)) 28 #[.int .i64 m, .int .i64 rd]
      have HK0 := Lib.hid k0
      have HK1 := Lib.hid k1
      clear k0 k1
      go_wp2_with fail
      refine (H1.out _ (by go_grown)).mono ?_
      rintro e w1 ⟨rfl, hb1⟩
      rw [HB.out]
      have B1 : Below w.heap.size w w1 := Below.trans (by go_grown) (hb1.mono (by simp; omega))
      have k6 := HK0.out.below hb1
      have k7 := HK1.out.below hb1
      simp only [World.size_alloc] at k7
      have q0 := k6.cell 0 rfl
      have q1 := k6.cell 1 rfl
      have q2 := k7.cell 0 rfl
      have q3 := k7.cell 1 rfl
      have q4 := HC.out w1 B1
      have z0 := k6.lt
      have z1 := k7.lt
      have z2 : b < w1.heap.size := by have := B1.size; omega
      have K6 := Lib.hid k6
      have K7 := Lib.hid k7
      clear k7 k6 hb1 HK0 HK1
      go_wp2_with (go_at_call 27; refine (l00In_any _ _ _ _).mono ?_; rintro e w' ⟨rfl, rfl⟩)
      by_cases h0 : rd = 0
      · have b0 : (rd == 0) = true := by simp [h0]
        have hd := Lib.hid (dec_t (stOk_zero (ds := ds) (wn := wn) ⟨h3, h4⟩ h0))
        clear h0
        go_quiet (fail)
        go_wp2
        go_ret
        exact ⟨ret_b (HS.out.trans hd.out).symm, below_drewN B1 _⟩
      · have b0 : (rd == 0) = false := by simp [h0]
        by_cases h5 : m % 60 < 60 - wn
        · have b5 : decide (60 - wn ≤ m % 60) = false := decide_eq_false (by omega)
          have hd := Lib.hid (dec_f (stOk_no2 (ds := ds) (wn := wn) h0 h5))
          clear h0
          have HW := fun w' => l21Warned_any (.slice (some ⟨b, o, none⟩) ds.length c) wn m w' h1 h2 h3 h4
          rw [b5] at HW
          have HW := Lib.hid HW
          refine wp_region_grow (by kernel_rfl) (by kernel_rfl) ?_
          repeat (go_big_quiet_step ((go_at_call 38; exact grow_of (HW.out _))))
          refine wpQuiet_nil ?_
          intro w6 hb6
          go_wp2
          go_ret
          exact ⟨ret_b (HS.out.trans hd.out).symm, B1.trans (hb6.mono B1.size)⟩
        · have h5' : 60 - wn ≤ m % 60 := by omega
          have b5 : decide (60 - wn ≤ m % 60) = true := decide_eq_true h5'
          have hd : Hid (decide (StOk ds wn m rd) = (rd == depthM ds wn m)) := by
            show _ = _
            by_cases h6 : rd = depthM ds wn m
            · rw [dec_t (stOk_ready ⟨h3, h4⟩ h5' h6)]; simp [h6]
            · rw [dec_f (stOk_no3 h0 h6)]; simp [h6]
          clear h0
          have HW := fun w' => l21Warned_any (.slice (some ⟨b, o, none⟩) ds.length c) wn m w' h1 h2 h3 h4
          rw [b5] at HW
          have HW := Lib.hid HW
          refine wp_region_grow (by kernel_rfl) (by kernel_rfl) ?_
          repeat (go_big_quiet_step ((first | (go_at_call 38; exact grow_of (HW.out _)) | (go_at_call 28; exact grow_of (l21Hour_any _ wn m _ h1 h2 h3 h4)))))
          refine wpQuiet_nil ?_
          intro w6 hb6
          go_wp2
          go_ret
          exact ⟨ret_b (HS.out.trans hd.out).symm, B1.trans (hb6.mono B1.size)⟩
    · have e1 := inB_no hm
      have hd := Lib.hid (dec_f (stOk_no1 (ds := ds) (wn := wn) (rd := rd) hm))
      clear hm hv hr
      go_enter Try.func20, Try.ntmps20
      have k1 := Blk.new (w.alloc (.cells #[v, .int .i64 wn] 26)) 28 #[.int .i64 m, .int .i64 rd]
      have HK1 := Lib.hid k1
      clear k1
      go_wp2_with fail
      refine (H1.out _ (by go_grown)).mono ?_
      rintro e w1 ⟨rfl, hb1⟩
      rw [HB.out]
      have B1 : Below w.heap.size w w1 := Below.trans (by go_grown) (hb1.mono (by simp; omega))
      have k7 := HK1.out.below hb1
      simp only [World.size_alloc] at k7
      have q2 := k7.cell 0 rfl
      clear k7 hb1
      go_wp2_with (go_at_call 27; refine (l00In_any _ _ _ _).mono ?_; rintro e w' ⟨rfl, rfl⟩)
      go_ret
      exact ⟨ret_b (HS.out.trans hd.out).symm, B1⟩
  · have HB := Lib.hid (rkB_no hr)
    have HS := Lib.hid (stB_no (m := m) (rd := rd) hr)
    clear hv hr
    go_enter Try.func20, Try.ntmps20
    go_wp2_with fail
    refine (H1.out _ (by go_grown)).mono ?_
    rintro e w1 ⟨rfl, hb1⟩
    rw [HB.out]
    go_wp2
    go_ret
    exact ⟨ret_b HS.out.symm, Below.trans (by go_grown) (hb1.mono (by simp; omega))⟩

end Go.Proofs.Ytdlegcjcmhpbcaa
