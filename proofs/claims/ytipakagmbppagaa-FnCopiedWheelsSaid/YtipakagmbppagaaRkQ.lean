/- Racks: PullCord, in the program and in the reference. -/
import Derived.Test.YtipakagmbppagaaRkP
namespace Go.Proofs.Ytipakagmbppagaa
open Go.RowKit
attribute [local go_sem ↓] Go.wp_at_zero Go.wp_at_succ
attribute [local go_sem] cell?_grow frozen?_grow

set_option maxHeartbeats 4000000 in
theorem PullCord_i (v : Value) (ds : List Int) (wn m rd : Int) (w : World) (hv : Sl w v ds) :
    Calls Try.prog 35 #[.agg #[v, .int .i64 wn], .agg #[.int .i64 m, .int .i64 rd]] w fun e w' => e = .returned (.tuple #[.agg #[.int .i64 (onS ds wn m rd m 0), .int .i64 (onS ds wn m rd rd 0)], .int .i64 (on2 ds wn m rd (rd == 0) (depthM ds wn m) 0 0), .int .i64 (onS ds wn m rd 0 1)]) ∧ Below w.heap.size w w' := by
  have H1 := Lib.hid (fun w' (hb : Below w.heap.size w w') => ValidRackState_i v ds wn m rd w' (hv.below hb))
  cases hs : stB ds wn m rd with
  | true =>
    obtain ⟨hr, hst⟩ := stB_iff.1 hs
    have HB := Lib.hid hs
    by_cases h0 : rd = 0
    · have b0 : (rd == 0) = true := by simp [h0]
      have b1 : (rd != 0) = false := by simp [h0]
      have b2 : ¬ (0 < rd) := by omega
      have H0 := Lib.hid h0
      have BQ := Lib.hid b0
      have H2 := Lib.hid (fun w' (hb : Below w.heap.size w w') => depthAt_any v ds wn m w' (hv.below hb) hr hst.1.1 hst.1.2)
      clear hv hs hr hst h0
      go_enter Try.func35, Try.ntmps35
      have k0 := ((Blk.new w 27 #[v, .int .i64 wn]).alloc (.cells #[.int .i64 m, .int .i64 rd] 34)).alloc (.cells #[.int .i64 0, .int .i64 0] 34)
      have k1 := (Blk.new (w.alloc (.cells #[v, .int .i64 wn] 27)) 34 #[.int .i64 m, .int .i64 rd]).alloc (.cells #[.int .i64 0, .int .i64 0] 34)
      have k2 := Blk.new ((w.alloc (.cells #[v, .int .i64 wn] 27)).alloc (.cells #[.int .i64 m, .int .i64 rd] 34)) 34 #[.int .i64 0, .int .i64 0]
      have HK0 := Lib.hid k0
      have HK1 := Lib.hid k1
      have HK2 := Lib.hid k2
      clear k0 k1 k2
      go_wp2_with fail
      refine (H1.out _ (by go_grown)).mono ?_
      rintro e w1 ⟨rfl, hb1⟩
      rw [HB.out]
      have j0 := HK0.out.below hb1
      have j1 := HK1.out.below hb1
      have j2 := HK2.out.below hb1
      simp only [World.size_alloc] at j1 j2
      have B1 : Below w.heap.size w w1 := Below.trans (by go_grown) (hb1.mono (by simp; omega))
      have q0 := j0.cell 0 rfl
      have q1 := j0.cell 1 rfl
      have q2 := j1.cell 0 rfl
      have q3 := j1.cell 1 rfl
      have q4 := j2.cell 0 rfl
      have q5 := j2.cell 1 rfl
      have f4 := j2.frozen 0
      have f5 := j2.frozen 1
      have z2 := j2.lt
      have J0 := Lib.hid j0
      have J1 := Lib.hid j1
      have J2 := Lib.hid j2
      clear j0 j1 j2 hb1 HK0 HK1 HK2
      go_wp2_with fail
      go_region_held3 (fun w' => w'.cell? ⟨w.heap.size, 0, none⟩ = some v ∧ w'.cell? ⟨w.heap.size, 1, none⟩ = some (.int .i64 wn) ∧ w'.cell? ⟨w.heap.size + 1, 0, none⟩ = some (.int .i64 m) ∧ w'.cell? ⟨w.heap.size + 1, 1, none⟩ = some (.int .i64 rd)) (((try dsimp only); (repeat' apply And.intro) <;> (first | assumption | (simp [go_sem, *]; done) | go_keep)))
        (first | (go_at_call 83; refine (H2.out _ (by go_grown)).mono ?_; rintro e w2 ⟨rfl, hb2⟩; have B2 : Below w.heap.size w w2 := B1.drew.trans (hb2.mono B1.size); have i0 := J0.out.below_drew hb2; have i1 := J1.out.below_drew hb2; have i2 := J2.out.below_drew hb2; have p0 := i0.cell 0 rfl; have p1 := i0.cell 1 rfl; have p2 := i1.cell 0 rfl; have p3 := i1.cell 1 rfl; have p4 := i2.cell 0 rfl; have p5 := i2.cell 1 rfl; have g4 := i2.frozen 0; have g5 := i2.frozen 1; have y2 := i2.lt; clear i0 i1 i2))
      all_goals go_wp2
      all_goals (try simp only [Exit.inBlock, Exit.then])
      all_goals (refine bodyPost_ret (v := .tuple #[.agg #[.int .i64 m, .int .i64 rd], .int .i64 (depthM ds wn m), .int .i64 0]) ?_ rfl ?_)
      · simp [results, Try.results35, go_sem, p4, p5]
      exact ⟨ret_sii (onS_t HB.out).symm (onS_t HB.out).symm (on2_t HB.out BQ.out).symm (onS_t HB.out).symm, by go_grown⟩
    · have hpos : 0 < rd := by
        rcases hst.2 with h | h
        · exact absurd h h0
        · have := (depthM_in hr m).1; omega
      have b0 : (rd == 0) = false := by simp [h0]
      have b1 : (rd != 0) = true := by simp [h0]
      have BQ := Lib.hid b0
      clear hv hs hr hst h0
      go_enter Try.func35, Try.ntmps35
      have k0 := ((Blk.new w 27 #[v, .int .i64 wn]).alloc (.cells #[.int .i64 m, .int .i64 rd] 34)).alloc (.cells #[.int .i64 0, .int .i64 0] 34)
      have k1 := (Blk.new (w.alloc (.cells #[v, .int .i64 wn] 27)) 34 #[.int .i64 m, .int .i64 rd]).alloc (.cells #[.int .i64 0, .int .i64 0] 34)
      have k2 := Blk.new ((w.alloc (.cells #[v, .int .i64 wn] 27)).alloc (.cells #[.int .i64 m, .int .i64 rd] 34)) 34 #[.int .i64 0, .int .i64 0]
      have HK0 := Lib.hid k0
      have HK1 := Lib.hid k1
      have HK2 := Lib.hid k2
      clear k0 k1 k2
      go_wp2_with fail
      refine (H1.out _ (by go_grown)).mono ?_
      rintro e w1 ⟨rfl, hb1⟩
      rw [HB.out]
      have j0 := HK0.out.below hb1
      have j1 := HK1.out.below hb1
      have j2 := HK2.out.below hb1
      simp only [World.size_alloc] at j1 j2
      have B1 : Below w.heap.size w w1 := Below.trans (by go_grown) (hb1.mono (by simp; omega))
      have q0 := j0.cell 0 rfl
      have q1 := j0.cell 1 rfl
      have q2 := j1.cell 0 rfl
      have q3 := j1.cell 1 rfl
      have q4 := j2.cell 0 rfl
      have q5 := j2.cell 1 rfl
      have f4 := j2.frozen 0
      have f5 := j2.frozen 1
      have z2 := j2.lt
      have J0 := Lib.hid j0
      have J1 := Lib.hid j1
      have J2 := Lib.hid j2
      clear j0 j1 j2 hb1 HK0 HK1 HK2
      go_wp2
      try simp only [Exit.inBlock, Exit.then]
      refine bodyPost_ret (v := .tuple #[.agg #[.int .i64 m, .int .i64 rd], .int .i64 0, .int .i64 0]) ?_ rfl ?_
      · simp [results, Try.results35, go_sem, q4, q5]
      exact ⟨ret_sii (onS_t HB.out).symm (onS_t HB.out).symm (on2_f HB.out BQ.out).symm (onS_t HB.out).symm, by go_grown⟩
  | false =>
    have HB := Lib.hid hs
    clear hv hs
    go_enter Try.func35, Try.ntmps35
    have k0 := ((Blk.new w 27 #[v, .int .i64 wn]).alloc (.cells #[.int .i64 m, .int .i64 rd] 34)).alloc (.cells #[.int .i64 0, .int .i64 0] 34)
    have k1 := (Blk.new (w.alloc (.cells #[v, .int .i64 wn] 27)) 34 #[.int .i64 m, .int .i64 rd]).alloc (.cells #[.int .i64 0, .int .i64 0] 34)
    have k2 := Blk.new ((w.alloc (.cells #[v, .int .i64 wn] 27)).alloc (.cells #[.int .i64 m, .int .i64 rd] 34)) 34 #[.int .i64 0, .int .i64 0]
    have HK0 := Lib.hid k0
    have HK1 := Lib.hid k1
    have HK2 := Lib.hid k2
    clear k0 k1 k2
    go_wp2_with fail
    refine (H1.out _ (by go_grown)).mono ?_
    rintro e w1 ⟨rfl, hb1⟩
    rw [HB.out]
    have j0 := HK0.out.below hb1
    have j1 := HK1.out.below hb1
    have j2 := HK2.out.below hb1
    simp only [World.size_alloc] at j1 j2
    have B1 : Below w.heap.size w w1 := Below.trans (by go_grown) (hb1.mono (by simp; omega))
    have q0 := j0.cell 0 rfl
    have q1 := j0.cell 1 rfl
    have q2 := j1.cell 0 rfl
    have q3 := j1.cell 1 rfl
    have q4 := j2.cell 0 rfl
    have q5 := j2.cell 1 rfl
    have f4 := j2.frozen 0
    have f5 := j2.frozen 1
    have z2 := j2.lt
    have J0 := Lib.hid j0
    have J1 := Lib.hid j1
    have J2 := Lib.hid j2
    clear j0 j1 j2 hb1 HK0 HK1 HK2
    go_wp2
    try simp only [Exit.inBlock, Exit.then]
    refine bodyPost_ret (v := .tuple #[.agg #[.int .i64 0, .int .i64 0], .int .i64 0, .int .i64 1]) ?_ rfl ?_
    · simp [results, Try.results35, go_sem, q4, q5]
    exact ⟨ret_sii (onS_f HB.out).symm (onS_f HB.out).symm (on2_n HB.out).symm (onS_f HB.out).symm, by go_grown⟩

set_option maxHeartbeats 4000000 in
theorem PullCord_s (v : Value) (ds : List Int) (wn m rd : Int) (w : World) (hv : Sl w v ds) :
    Calls Try.prog 34 #[.agg #[v, .int .i64 wn], .agg #[.int .i64 m, .int .i64 rd]] w fun e w' => e = .returned (.tuple #[.agg #[.int .i64 (onS ds wn m rd m 0), .int .i64 (onS ds wn m rd rd 0)], .int .i64 (on2 ds wn m rd (rd == 0) (depthM ds wn m) 0 0), .int .i64 (onS ds wn m rd 0 1)]) ∧ Below w.heap.size w w' := by
  have H1 := Lib.hid (fun w' (hb : Below w.heap.size w w') => l21State_any v ds wn m rd w' (hv.below hb))
  cases hs : stB ds wn m rd with
  | true =>
    obtain ⟨hr, hst⟩ := stB_iff.1 hs
    have HB := Lib.hid hs
    by_cases h0 : rd = 0
    · have b0 : (rd == 0) = true := by simp [h0]
      have b1 : (rd != 0) = false := by simp [h0]
      have b2 : ¬ (0 < rd) := by omega
      have H0 := Lib.hid h0
      have BQ := Lib.hid b0
      obtain ⟨b, o, c, rfl, hbs, hi, hc1, hc2, hc⟩ := depth_cell hv hr m
      have hi0 := (snail_in wn m).1
      have gw1 := hr.2.2.1
      have gw2 := hr.2.2.2
      have gm1 := hst.1.1
      have gm2 := hst.1.2
      have HC := Lib.hid hc
      clear hc
      clear hv hs hr hst h0
      go_enter Try.func34, Try.ntmps34
      have k0 := ((Blk.new w 27 #[.slice (some ⟨b, o, none⟩) ds.length c, .int .i64 wn]).alloc (.cells #[.int .i64 m, .int .i64 rd] 34)).alloc (.cells #[.int .i64 0, .int .i64 0] 34)
      have k1 := (Blk.new (w.alloc (.cells #[.slice (some ⟨b, o, none⟩) ds.length c, .int .i64 wn] 27)) 34 #[.int .i64 m, .int .i64 rd]).alloc (.cells #[.int .i64 0, .int .i64 0] 34)
      have k2 := Blk.new ((w.alloc (.cells #[.slice (some ⟨b, o, none⟩) ds.length c, .int .i64 wn] 27)).alloc (.cells #[.int .i64 m, .int .i64 rd] 34)) 34 #[.int .i64 0, .int .i64 0]
      have HK0 := Lib.hid k0
      have HK1 := Lib.hid k1
      have HK2 := Lib.hid k2
      clear k0 k1 k2
      go_wp2_with fail
      refine (H1.out _ (by go_grown)).mono ?_
      rintro e w1 ⟨rfl, hb1⟩
      rw [HB.out]
      have j0 := HK0.out.below hb1
      have j1 := HK1.out.below hb1
      have j2 := HK2.out.below hb1
      simp only [World.size_alloc] at j1 j2
      have B1 : Below w.heap.size w w1 := Below.trans (by go_grown) (hb1.mono (by simp; omega))
      have q0 := j0.cell 0 rfl
      have q1 := j0.cell 1 rfl
      have q2 := j1.cell 0 rfl
      have q3 := j1.cell 1 rfl
      have q4 := j2.cell 0 rfl
      have q5 := j2.cell 1 rfl
      have f4 := j2.frozen 0
      have f5 := j2.frozen 1
      have z2 := j2.lt
      have J0 := Lib.hid j0
      have J1 := Lib.hid j1
      have J2 := Lib.hid j2
      clear j0 j1 j2 hb1 HK0 HK1 HK2
      have q9 := HC.out w1 B1
      have z9 : b < w1.heap.size := by have := B1.size; omega
      go_wp2_with fail
      go_region_held3 (fun w' => w'.cell? ⟨w.heap.size, 0, none⟩ = some (.slice (some ⟨b, o, none⟩) ds.length c) ∧ w'.cell? ⟨w.heap.size, 1, none⟩ = some (.int .i64 wn) ∧ w'.cell? ⟨w.heap.size + 1, 0, none⟩ = some (.int .i64 m) ∧ w'.cell? ⟨w.heap.size + 1, 1, none⟩ = some (.int .i64 rd) ∧ w'.cell? ⟨b, o + (snail wn m).toNat, none⟩ = some (.int .i64 (depthM ds wn m))) (((try dsimp only); (repeat' apply And.intro) <;> (first | assumption | (exact HC.out _ (by go_grown)) | (simp [go_sem, *]; done) | go_keep)))
        (first | (go_at_call 81; refine (l21Hour_any _ wn m _ gw1 gw2 gm1 gm2).mono ?_; rintro e w2 ⟨rfl, hb2⟩; have B2 : Below w.heap.size w w2 := B1.drew.trans (hb2.mono B1.size); have i0 := J0.out.below_drew hb2; have i1 := J1.out.below_drew hb2; have i2 := J2.out.below_drew hb2; have p0 := i0.cell 0 rfl; have p1 := i0.cell 1 rfl; have p2 := i1.cell 0 rfl; have p3 := i1.cell 1 rfl; have p4 := i2.cell 0 rfl; have p5 := i2.cell 1 rfl; have g4 := i2.frozen 0; have g5 := i2.frozen 1; have y2 := i2.lt; clear i0 i1 i2; have p9 := HC.out w2 B2))
      all_goals go_wp2
      all_goals (try simp only [Exit.inBlock, Exit.then])
      all_goals (refine bodyPost_ret (v := .tuple #[.agg #[.int .i64 m, .int .i64 rd], .int .i64 (depthM ds wn m), .int .i64 0]) ?_ rfl ?_)
      · simp [results, Try.results34, go_sem, p4, p5]
      exact ⟨ret_sii (onS_t HB.out).symm (onS_t HB.out).symm (on2_t HB.out BQ.out).symm (onS_t HB.out).symm, by go_grown⟩
    · have hpos : 0 < rd := by
        rcases hst.2 with h | h
        · exact absurd h h0
        · have := (depthM_in hr m).1; omega
      have b0 : (rd == 0) = false := by simp [h0]
      have b1 : (rd != 0) = true := by simp [h0]
      have BQ := Lib.hid b0
      clear hv hs hr hst h0
      go_enter Try.func34, Try.ntmps34
      have k0 := ((Blk.new w 27 #[v, .int .i64 wn]).alloc (.cells #[.int .i64 m, .int .i64 rd] 34)).alloc (.cells #[.int .i64 0, .int .i64 0] 34)
      have k1 := (Blk.new (w.alloc (.cells #[v, .int .i64 wn] 27)) 34 #[.int .i64 m, .int .i64 rd]).alloc (.cells #[.int .i64 0, .int .i64 0] 34)
      have k2 := Blk.new ((w.alloc (.cells #[v, .int .i64 wn] 27)).alloc (.cells #[.int .i64 m, .int .i64 rd] 34)) 34 #[.int .i64 0, .int .i64 0]
      have HK0 := Lib.hid k0
      have HK1 := Lib.hid k1
      have HK2 := Lib.hid k2
      clear k0 k1 k2
      go_wp2_with fail
      refine (H1.out _ (by go_grown)).mono ?_
      rintro e w1 ⟨rfl, hb1⟩
      rw [HB.out]
      have j0 := HK0.out.below hb1
      have j1 := HK1.out.below hb1
      have j2 := HK2.out.below hb1
      simp only [World.size_alloc] at j1 j2
      have B1 : Below w.heap.size w w1 := Below.trans (by go_grown) (hb1.mono (by simp; omega))
      have q0 := j0.cell 0 rfl
      have q1 := j0.cell 1 rfl
      have q2 := j1.cell 0 rfl
      have q3 := j1.cell 1 rfl
      have q4 := j2.cell 0 rfl
      have q5 := j2.cell 1 rfl
      have f4 := j2.frozen 0
      have f5 := j2.frozen 1
      have z2 := j2.lt
      have J0 := Lib.hid j0
      have J1 := Lib.hid j1
      have J2 := Lib.hid j2
      clear j0 j1 j2 hb1 HK0 HK1 HK2
      go_wp2
      try simp only [Exit.inBlock, Exit.then]
      refine bodyPost_ret (v := .tuple #[.agg #[.int .i64 m, .int .i64 rd], .int .i64 0, .int .i64 0]) ?_ rfl ?_
      · simp [results, Try.results34, go_sem, q4, q5]
      exact ⟨ret_sii (onS_t HB.out).symm (onS_t HB.out).symm (on2_f HB.out BQ.out).symm (onS_t HB.out).symm, by go_grown⟩
  | false =>
    have HB := Lib.hid hs
    clear hv hs
    go_enter Try.func34, Try.ntmps34
    have k0 := ((Blk.new w 27 #[v, .int .i64 wn]).alloc (.cells #[.int .i64 m, .int .i64 rd] 34)).alloc (.cells #[.int .i64 0, .int .i64 0] 34)
    have k1 := (Blk.new (w.alloc (.cells #[v, .int .i64 wn] 27)) 34 #[.int .i64 m, .int .i64 rd]).alloc (.cells #[.int .i64 0, .int .i64 0] 34)
    have k2 := Blk.new ((w.alloc (.cells #[v, .int .i64 wn] 27)).alloc (.cells #[.int .i64 m, .int .i64 rd] 34)) 34 #[.int .i64 0, .int .i64 0]
    have HK0 := Lib.hid k0
    have HK1 := Lib.hid k1
    have HK2 := Lib.hid k2
    clear k0 k1 k2
    go_wp2_with fail
    refine (H1.out _ (by go_grown)).mono ?_
    rintro e w1 ⟨rfl, hb1⟩
    rw [HB.out]
    have j0 := HK0.out.below hb1
    have j1 := HK1.out.below hb1
    have j2 := HK2.out.below hb1
    simp only [World.size_alloc] at j1 j2
    have B1 : Below w.heap.size w w1 := Below.trans (by go_grown) (hb1.mono (by simp; omega))
    have q0 := j0.cell 0 rfl
    have q1 := j0.cell 1 rfl
    have q2 := j1.cell 0 rfl
    have q3 := j1.cell 1 rfl
    have q4 := j2.cell 0 rfl
    have q5 := j2.cell 1 rfl
    have f4 := j2.frozen 0
    have f5 := j2.frozen 1
    have z2 := j2.lt
    have J0 := Lib.hid j0
    have J1 := Lib.hid j1
    have J2 := Lib.hid j2
    clear j0 j1 j2 hb1 HK0 HK1 HK2
    go_wp2
    try simp only [Exit.inBlock, Exit.then]
    refine bodyPost_ret (v := .tuple #[.agg #[.int .i64 0, .int .i64 0], .int .i64 0, .int .i64 1]) ?_ rfl ?_
    · simp [results, Try.results34, go_sem, q4, q5]
    exact ⟨ret_sii (onS_f HB.out).symm (onS_f HB.out).symm (on2_n HB.out).symm (onS_f HB.out).symm, by go_grown⟩

end Go.Proofs.Ytipakagmbppagaa
