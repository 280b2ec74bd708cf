/- Racks: TickRack, BackHands and PullCord, in the program and in the reference. -/
import Derived.Test.YtipakagmbppagaaRkK
namespace Go.Proofs.Ytipakagmbppagaa
open Go.RowKit
attribute [local go_sem ↓] Go.wp_at_zero Go.wp_at_succ
attribute [local go_sem] cell?_grow frozen?_grow

theorem ret_sii {m m' r r' b b' c c' : Int} (h1 : m = m') (h2 : r = r') (h3 : b = b') (h4 : c = c') : Ending.returned (.tuple #[.agg #[.int .i64 m, .int .i64 r], .int .i64 b, .int .i64 c]) = Ending.returned (.tuple #[.agg #[.int .i64 m', .int .i64 r'], .int .i64 b', .int .i64 c']) := by rw [h1, h2, h3, h4]
/-- x where the state is valid, y elsewhere. -/
def onS (ds : List Int) (wn m rd x y : Int) : Int := if stB ds wn m rd = true then x else y
theorem onS_t {ds : List Int} {wn m rd x y : Int} (h : stB ds wn m rd = true) : onS ds wn m rd x y = x := if_pos h
theorem onS_f {ds : List Int} {wn m rd x y : Int} (h : stB ds wn m rd = false) : onS ds wn m rd x y = y := if_neg (by simp [h])
def on2 (ds : List Int) (wn m rd : Int) (b : Bool) (x y z : Int) : Int := if stB ds wn m rd = true then (if b = true then x else y) else z
theorem on2_t {ds : List Int} {wn m rd x y z : Int} {b : Bool} (h : stB ds wn m rd = true) (hb : b = true) : on2 ds wn m rd b x y z = x := by rw [on2, if_pos h, if_pos hb]
theorem on2_f {ds : List Int} {wn m rd x y z : Int} {b : Bool} (h : stB ds wn m rd = true) (hb : b = false) : on2 ds wn m rd b x y z = y := by rw [on2, if_pos h, if_neg (by simp [hb])]
theorem on2_n {ds : List Int} {wn m rd x y z : Int} {b : Bool} (h : stB ds wn m rd = false) : on2 ds wn m rd b x y z = z := if_neg (by simp [h])

set_option maxHeartbeats 4000000 in
theorem TickRack_i (v : Value) (ds : List Int) (wn m rd : Int) (w : World) (hv : Sl w v ds) :
    Calls Try.prog 38 #[.agg #[v, .int .i64 wn], .agg #[.int .i64 m, .int .i64 rd]] w fun e w' => e = .returned (.tuple #[.agg #[.int .i64 (onS ds wn m rd (tkM m) 0), .int .i64 (onS ds wn m rd (tkR ds wn m rd) 0)], .int .i64 (onS ds wn m rd (tkB m rd) 0), .int .i64 (onS ds wn m rd 0 1)]) ∧ Below w.heap.size w w' := by
  have H1 := Lib.hid (fun w' (hb : Below w.heap.size w w') => ValidRackState_i v ds wn m rd w' (hv.below hb))
  cases hs : stB ds wn m rd with
  | true =>
    obtain ⟨hr, hst⟩ := stB_iff.1 hs
    have H2 := Lib.hid (fun w' (hb : Below w.heap.size w w') => tick_any v ds wn m rd w' (hv.below hb) hr hst.1.1 hst.1.2)
    have HB := Lib.hid hs
    clear hv hs hr hst
    go_enter Try.func38, Try.ntmps38
    have k0 := ((Blk.new w 27 #[v, .int .i64 wn]).alloc (.cells #[.int .i64 m, .int .i64 rd] 34)).alloc (.cells #[.int .i64 0, .int .i64 0] 34)
    have k1 := (Blk.new (w.alloc (.cells #[v, .int .i64 wn] 27)) 34 #[.int .i64 m, .int .i64 rd]).alloc (.cells #[.int .i64 0, .int .i64 0] 34)
    have k2 := Blk.new ((w.alloc (.cells #[v, .int .i64 wn] 27)).alloc (.cells #[.int .i64 m, .int .i64 rd] 34)) 34 #[.int .i64 0, .int .i64 0]
    have HK0 := Lib.hid k0
    have HK1 := Lib.hid k1
    have HK2 := Lib.hid k2
    clear k0 k1 k2
    go_wp2_with fail
    refine (H1.out _ (by go_grown)).mono ?_
    rintro e w1 ⟨rfl, hb1⟩
    rw [HB.out]
    have j0 := HK0.out.below hb1
    have j1 := HK1.out.below hb1
    have j2 := HK2.out.below hb1
    simp only [World.size_alloc] at j1 j2
    have B1 : Below w.heap.size w w1 := Below.trans (by go_grown) (hb1.mono (by simp; omega))
    have q0 := j0.cell 0 rfl
    have q1 := j0.cell 1 rfl
    have q2 := j1.cell 0 rfl
    have q3 := j1.cell 1 rfl
    have q4 := j2.cell 0 rfl
    have q5 := j2.cell 1 rfl
    have f4 := j2.frozen 0
    have f5 := j2.frozen 1
    have z2 := j2.lt
    have J0 := Lib.hid j0
    have J1 := Lib.hid j1
    have J2 := Lib.hid j2
    clear j0 j1 j2 hb1 HK0 HK1 HK2
    go_wp2_with fail
    refine (H2.out _ B1).mono ?_
    rintro e w2 ⟨rfl, hb2⟩
    have B2 : Below w.heap.size w w2 := B1.trans (hb2.mono B1.size)
    have p4 := (J2.out.below hb2).cell 0 rfl
    have p5 := (J2.out.below hb2).cell 1 rfl
    have g4 := (J2.out.below hb2).frozen 0
    have g5 := (J2.out.below hb2).frozen 1
    have y2 := (J2.out.below hb2).lt
    clear q0 q1 q2 q3 q4 q5 f4 f5 z2 hb2
    go_wp2
    try simp only [Exit.inBlock, Exit.then]
    refine bodyPost_ret (v := .tuple #[.agg #[.int .i64 (tkM m), .int .i64 (tkR ds wn m rd)], .int .i64 (tkB m rd), .int .i64 0]) ?_ rfl ?_
    · simp [results, Try.results38, go_sem, p4, p5, y2]
    exact ⟨ret_sii (onS_t HB.out).symm (onS_t HB.out).symm (onS_t HB.out).symm (onS_t HB.out).symm, by go_grown⟩
  | false =>
    have HB := Lib.hid hs
    clear hv hs
    go_enter Try.func38, Try.ntmps38
    have k0 := ((Blk.new w 27 #[v, .int .i64 wn]).alloc (.cells #[.int .i64 m, .int .i64 rd] 34)).alloc (.cells #[.int .i64 0, .int .i64 0] 34)
    have k1 := (Blk.new (w.alloc (.cells #[v, .int .i64 wn] 27)) 34 #[.int .i64 m, .int .i64 rd]).alloc (.cells #[.int .i64 0, .int .i64 0] 34)
    have k2 := Blk.new ((w.alloc (.cells #[v, .int .i64 wn] 27)).alloc (.cells #[.int .i64 m, .int .i64 rd] 34)) 34 #[.int .i64 0, .int .i64 0]
    have HK0 := Lib.hid k0
    have HK1 := Lib.hid k1
    have HK2 := Lib.hid k2
    clear k0 k1 k2
    go_wp2_with fail
    refine (H1.out _ (by go_grown)).mono ?_
    rintro e w1 ⟨rfl, hb1⟩
    rw [HB.out]
    have j0 := HK0.out.below hb1
    have j1 := HK1.out.below hb1
    have j2 := HK2.out.below hb1
    simp only [World.size_alloc] at j1 j2
    have B1 : Below w.heap.size w w1 := Below.trans (by go_grown) (hb1.mono (by simp; omega))
    have q0 := j0.cell 0 rfl
    have q1 := j0.cell 1 rfl
    have q2 := j1.cell 0 rfl
    have q3 := j1.cell 1 rfl
    have q4 := j2.cell 0 rfl
    have q5 := j2.cell 1 rfl
    have f4 := j2.frozen 0
    have f5 := j2.frozen 1
    have z2 := j2.lt
    have J0 := Lib.hid j0
    have J1 := Lib.hid j1
    have J2 := Lib.hid j2
    clear j0 j1 j2 hb1 HK0 HK1 HK2
    go_wp2
    try simp only [Exit.inBlock, Exit.then]
    refine bodyPost_ret (v := .tuple #[.agg #[.int .i64 0, .int .i64 0], .int .i64 0, .int .i64 1]) ?_ rfl ?_
    · simp [results, Try.results38, go_sem, q4, q5]
    exact ⟨ret_sii (onS_f HB.out).symm (onS_f HB.out).symm (onS_f HB.out).symm (onS_f HB.out).symm, by go_grown⟩

set_option maxHeartbeats 4000000 in
theorem TickRack_s (v : Value) (ds : List Int) (wn m rd : Int) (w : World) (hv : Sl w v ds) :
    Calls Try.prog 39 #[.agg #[v, .int .i64 wn], .agg #[.int .i64 m, .int .i64 rd]] w fun e w' => e = .returned (.tuple #[.agg #[.int .i64 (onS ds wn m rd (tkM m) 0), .int .i64 (onS ds wn m rd (tkR ds wn m rd) 0)], .int .i64 (onS ds wn m rd (tkB m rd) 0), .int .i64 (onS ds wn m rd 0 1)]) ∧ Below w.heap.size w w' := by
  have H1 := Lib.hid (fun w' (hb : Below w.heap.size w w') => l21State_any v ds wn m rd w' (hv.below hb))
  cases hs : stB ds wn m rd with
  | true =>
    obtain ⟨hr, hst⟩ := stB_iff.1 hs
    have H2 := Lib.hid (fun w' (hb : Below w.heap.size w w') => l21Tick_any v ds wn m rd w' (hv.below hb) hr hst.1.1 hst.1.2)
    have HB := Lib.hid hs
    clear hv hs hr hst
    go_enter Try.func39, Try.ntmps39
    have k0 := ((Blk.new w 27 #[v, .int .i64 wn]).alloc (.cells #[.int .i64 m, .int .i64 rd] 34)).alloc (.cells #[.int .i64 0, .int .i64 0] 34)
    have k1 := (Blk.new (w.alloc (.cells #[v, .int .i64 wn] 27)) 34 #[.int .i64 m, .int .i64 rd]).alloc (.cells #[.int .i64 0, .int .i64 0] 34)
    have k2 := Blk.new ((w.alloc (.cells #[v, .int .i64 wn] 27)).alloc (.cells #[.int .i64 m, .int .i64 rd] 34)) 34 #[.int .i64 0, .int .i64 0]
    have HK0 := Lib.hid k0
    have HK1 := Lib.hid k1
    have HK2 := Lib.hid k2
    clear k0 k1 k2
    go_wp2_with fail
    refine (H1.out _ (by go_grown)).mono ?_
    rintro e w1 ⟨rfl, hb1⟩
    rw [HB.out]
    have j0 := HK0.out.below hb1
    have j1 := HK1.out.below hb1
    have j2 := HK2.out.below hb1
    simp only [World.size_alloc] at j1 j2
    have B1 : Below w.heap.size w w1 := Below.trans (by go_grown) (hb1.mono (by simp; omega))
    have q0 := j0.cell 0 rfl
    have q1 := j0.cell 1 rfl
    have q2 := j1.cell 0 rfl
    have q3 := j1.cell 1 rfl
    have q4 := j2.cell 0 rfl
    have q5 := j2.cell 1 rfl
    have f4 := j2.frozen 0
    have f5 := j2.frozen 1
    have z2 := j2.lt
    have J0 := Lib.hid j0
    have J1 := Lib.hid j1
    have J2 := Lib.hid j2
    clear j0 j1 j2 hb1 HK0 HK1 HK2
    go_wp2_with fail
    refine (H2.out _ B1).mono ?_
    rintro e w2 ⟨rfl, hb2⟩
    have B2 : Below w.heap.size w w2 := B1.trans (hb2.mono B1.size)
    have p4 := (J2.out.below hb2).cell 0 rfl
    have p5 := (J2.out.below hb2).cell 1 rfl
    have g4 := (J2.out.below hb2).frozen 0
    have g5 := (J2.out.below hb2).frozen 1
    have y2 := (J2.out.below hb2).lt
    clear q0 q1 q2 q3 q4 q5 f4 f5 z2 hb2
    go_wp2
    try simp only [Exit.inBlock, Exit.then]
    refine bodyPost_ret (v := .tuple #[.agg #[.int .i64 (tkM m), .int .i64 (tkR ds wn m rd)], .int .i64 (tkB m rd), .int .i64 0]) ?_ rfl ?_
    · simp [results, Try.results39, go_sem, p4, p5, y2]
    exact ⟨ret_sii (onS_t HB.out).symm (onS_t HB.out).symm (onS_t HB.out).symm (onS_t HB.out).symm, by go_grown⟩
  | false =>
    have HB := Lib.hid hs
    clear hv hs
    go_enter Try.func39, Try.ntmps39
    have k0 := ((Blk.new w 27 #[v, .int .i64 wn]).alloc (.cells #[.int .i64 m, .int .i64 rd] 34)).alloc (.cells #[.int .i64 0, .int .i64 0] 34)
    have k1 := (Blk.new (w.alloc (.cells #[v, .int .i64 wn] 27)) 34 #[.int .i64 m, .int .i64 rd]).alloc (.cells #[.int .i64 0, .int .i64 0] 34)
    have k2 := Blk.new ((w.alloc (.cells #[v, .int .i64 wn] 27)).alloc (.cells #[.int .i64 m, .int .i64 rd] 34)) 34 #[.int .i64 0, .int .i64 0]
    have HK0 := Lib.hid k0
    have HK1 := Lib.hid k1
    have HK2 := Lib.hid k2
    clear k0 k1 k2
    go_wp2_with fail
    refine (H1.out _ (by go_grown)).mono ?_
    rintro e w1 ⟨rfl, hb1⟩
    rw [HB.out]
    have j0 := HK0.out.below hb1
    have j1 := HK1.out.below hb1
    have j2 := HK2.out.below hb1
    simp only [World.size_alloc] at j1 j2
    have B1 : Below w.heap.size w w1 := Below.trans (by go_grown) (hb1.mono (by simp; omega))
    have q0 := j0.cell 0 rfl
    have q1 := j0.cell 1 rfl
    have q2 := j1.cell 0 rfl
    have q3 := j1.cell 1 rfl
    have q4 := j2.cell 0 rfl
    have q5 := j2.cell 1 rfl
    have f4 := j2.frozen 0
    have f5 := j2.frozen 1
    have z2 := j2.lt
    have J0 := Lib.hid j0
    have J1 := Lib.hid j1
    have J2 := Lib.hid j2
    clear j0 j1 j2 hb1 HK0 HK1 HK2
    go_wp2
    try simp only [Exit.inBlock, Exit.then]
    refine bodyPost_ret (v := .tuple #[.agg #[.int .i64 0, .int .i64 0], .int .i64 0, .int .i64 1]) ?_ rfl ?_
    · simp [results, Try.results39, go_sem, q4, q5]
    exact ⟨ret_sii (onS_f HB.out).symm (onS_f HB.out).symm (onS_f HB.out).symm (onS_f HB.out).symm, by go_grown⟩

set_option maxHeartbeats 1000000 in
theorem back_any (m rd n : Int) (w : World) (h3 : 0 ≤ m) (h4 : m ≤ 719) (h5 : 1 ≤ n) (h6 : n ≤ 720) :
    Calls Try.prog 74 #[.agg #[.int .i64 m, .int .i64 rd], .int .i64 n] w fun e w' => e = .returned (.agg #[.int .i64 ((m - n) % 720), .int .i64 0]) ∧ Below w.heap.size w w' := by
  have HF := Lib.hid (fun w => floorMod_any (m - n) 720 w (by omega) (by omega) (by omega) (by omega))
  go_enter Try.func74, Try.ntmps74
  go_wp2_with (go_at_call 99; refine (HF.out _).mono ?_; rintro e w' ⟨rfl, rfl⟩)
  try simp only [Exit.inBlock, Exit.then]
  refine bodyPost_ret (v := .agg #[.int .i64 ((m - n) % 720), .int .i64 0]) ?_ rfl ?_
  · simp [results, Try.results74, go_sem]
  exact ⟨rfl, by go_grown⟩

set_option maxHeartbeats 4000000 in
theorem BackHands_i (v : Value) (ds : List Int) (wn m rd n : Int) (w : World) (hv : Sl w v ds) :
    Calls Try.prog 42 #[.agg #[v, .int .i64 wn], .agg #[.int .i64 m, .int .i64 rd], .int .i64 n] w fun e w' => e = .returned (.tuple #[.agg #[.int .i64 (on2 ds wn m rd (inB n 1 720) ((m - n) % 720) 0 0), .int .i64 0], .int .i64 (on2 ds wn m rd (inB n 1 720) 0 2 1)]) ∧ Below w.heap.size w w' := by
  have H1 := Lib.hid (fun w' (hb : Below w.heap.size w w') => ValidRackState_i v ds wn m rd w' (hv.below hb))
  cases hs : stB ds wn m rd with
  | true =>
    obtain ⟨hr, hst⟩ := stB_iff.1 hs
    have h3 := hst.1.1
    have h4 := hst.1.2
    have HB := Lib.hid hs
    clear hv hs hr hst
    cases hn : inB n 1 720 with
    | true =>
      have e1 := inB_iff.1 hn
      have HN := Lib.hid hn
      go_enter Try.func42, Try.ntmps42
      have k0 := ((Blk.new w 27 #[v, .int .i64 wn]).alloc (.cells #[.int .i64 m, .int .i64 rd] 34)).alloc (.cells #[.int .i64 0, .int .i64 0] 34)
      have k1 := (Blk.new (w.alloc (.cells #[v, .int .i64 wn] 27)) 34 #[.int .i64 m, .int .i64 rd]).alloc (.cells #[.int .i64 0, .int .i64 0] 34)
      have k2 := Blk.new ((w.alloc (.cells #[v, .int .i64 wn] 27)).alloc (.cells #[.int .i64 m, .int .i64 rd] 34)) 34 #[.int .i64 0, .int .i64 0]
      have HK0 := Lib.hid k0
      have HK1 := Lib.hid k1
      have HK2 := Lib.hid k2
      clear k0 k1 k2
      go_wp2_with fail
      refine (H1.out _ (by go_grown)).mono ?_
      rintro e w1 ⟨rfl, hb1⟩
      rw [HB.out]
      have j0 := HK0.out.below hb1
      have j1 := HK1.out.below hb1
      have j2 := HK2.out.below hb1
      simp only [World.size_alloc] at j1 j2
      have B1 : Below w.heap.size w w1 := Below.trans (by go_grown) (hb1.mono (by simp; omega))
      have q0 := j0.cell 0 rfl
      have q1 := j0.cell 1 rfl
      have q2 := j1.cell 0 rfl
      have q3 := j1.cell 1 rfl
      have q4 := j2.cell 0 rfl
      have q5 := j2.cell 1 rfl
      have f4 := j2.frozen 0
      have f5 := j2.frozen 1
      have z2 := j2.lt
      have J0 := Lib.hid j0
      have J1 := Lib.hid j1
      have J2 := Lib.hid j2
      clear j0 j1 j2 hb1 HK0 HK1 HK2

      go_wp2_with (go_at_call 71; refine (within_any _ _ _ _).mono ?_; rintro e w' ⟨rfl, rfl⟩)
      go_wp2_with fail
      refine (back_any m rd n _ h3 h4 e1.1 e1.2).mono ?_
      rintro e w2 ⟨rfl, hb2⟩
      have B2 : Below w.heap.size w w2 := B1.trans (hb2.mono B1.size)
      have p4 := (J2.out.below hb2).cell 0 rfl
      have p5 := (J2.out.below hb2).cell 1 rfl
      have g4 := (J2.out.below hb2).frozen 0
      have g5 := (J2.out.below hb2).frozen 1
      have y2 := (J2.out.below hb2).lt
      clear q0 q1 q2 q3 q4 q5 f4 f5 z2 hb2
      go_wp2
      try simp only [Exit.inBlock, Exit.then]
      refine bodyPost_ret (v := .tuple #[.agg #[.int .i64 ((m - n) % 720), .int .i64 0], .int .i64 0]) ?_ rfl ?_
      · simp [results, Try.results42, go_sem, p4, p5]
      exact ⟨ret_si (on2_t HB.out rfl).symm rfl (on2_t HB.out rfl).symm, by go_grown⟩
    | false =>
      go_enter Try.func42, Try.ntmps42
      have k0 := ((Blk.new w 27 #[v, .int .i64 wn]).alloc (.cells #[.int .i64 m, .int .i64 rd] 34)).alloc (.cells #[.int .i64 0, .int .i64 0] 34)
      have k1 := (Blk.new (w.alloc (.cells #[v, .int .i64 wn] 27)) 34 #[.int .i64 m, .int .i64 rd]).alloc (.cells #[.int .i64 0, .int .i64 0] 34)
      have k2 := Blk.new ((w.alloc (.cells #[v, .int .i64 wn] 27)).alloc (.cells #[.int .i64 m, .int .i64 rd] 34)) 34 #[.int .i64 0, .int .i64 0]
      have HK0 := Lib.hid k0
      have HK1 := Lib.hid k1
      have HK2 := Lib.hid k2
      clear k0 k1 k2
      go_wp2_with fail
      refine (H1.out _ (by go_grown)).mono ?_
      rintro e w1 ⟨rfl, hb1⟩
      rw [HB.out]
      have j0 := HK0.out.below hb1
      have j1 := HK1.out.below hb1
      have j2 := HK2.out.below hb1
      simp only [World.size_alloc] at j1 j2
      have B1 : Below w.heap.size w w1 := Below.trans (by go_grown) (hb1.mono (by simp; omega))
      have q0 := j0.cell 0 rfl
      have q1 := j0.cell 1 rfl
      have q2 := j1.cell 0 rfl
      have q3 := j1.cell 1 rfl
      have q4 := j2.cell 0 rfl
      have q5 := j2.cell 1 rfl
      have f4 := j2.frozen 0
      have f5 := j2.frozen 1
      have z2 := j2.lt
      have J0 := Lib.hid j0
      have J1 := Lib.hid j1
      have J2 := Lib.hid j2
      clear j0 j1 j2 hb1 HK0 HK1 HK2

      go_wp2_with (go_at_call 71; refine (within_any _ _ _ _).mono ?_; rintro e w' ⟨rfl, rfl⟩)
      try simp only [Exit.inBlock, Exit.then]
      refine bodyPost_ret (v := .tuple #[.agg #[.int .i64 0, .int .i64 0], .int .i64 2]) ?_ rfl ?_
      · simp [results, Try.results42, go_sem, q4, q5]
      exact ⟨ret_si (on2_f HB.out rfl).symm rfl (on2_f HB.out rfl).symm, by go_grown⟩
  | false =>
    have HB := Lib.hid hs
    clear hv hs
    go_enter Try.func42, Try.ntmps42
    have k0 := ((Blk.new w 27 #[v, .int .i64 wn]).alloc (.cells #[.int .i64 m, .int .i64 rd] 34)).alloc (.cells #[.int .i64 0, .int .i64 0] 34)
    have k1 := (Blk.new (w.alloc (.cells #[v, .int .i64 wn] 27)) 34 #[.int .i64 m, .int .i64 rd]).alloc (.cells #[.int .i64 0, .int .i64 0] 34)
    have k2 := Blk.new ((w.alloc (.cells #[v, .int .i64 wn] 27)).alloc (.cells #[.int .i64 m, .int .i64 rd] 34)) 34 #[.int .i64 0, .int .i64 0]
    have HK0 := Lib.hid k0
    have HK1 := Lib.hid k1
    have HK2 := Lib.hid k2
    clear k0 k1 k2
    go_wp2_with fail
    refine (H1.out _ (by go_grown)).mono ?_
    rintro e w1 ⟨rfl, hb1⟩
    rw [HB.out]
    have j0 := HK0.out.below hb1
    have j1 := HK1.out.below hb1
    have j2 := HK2.out.below hb1
    simp only [World.size_alloc] at j1 j2
    have B1 : Below w.heap.size w w1 := Below.trans (by go_grown) (hb1.mono (by simp; omega))
    have q0 := j0.cell 0 rfl
    have q1 := j0.cell 1 rfl
    have q2 := j1.cell 0 rfl
    have q3 := j1.cell 1 rfl
    have q4 := j2.cell 0 rfl
    have q5 := j2.cell 1 rfl
    have f4 := j2.frozen 0
    have f5 := j2.frozen 1
    have z2 := j2.lt
    have J0 := Lib.hid j0
    have J1 := Lib.hid j1
    have J2 := Lib.hid j2
    clear j0 j1 j2 hb1 HK0 HK1 HK2
    go_wp2
    try simp only [Exit.inBlock, Exit.then]
    refine bodyPost_ret (v := .tuple #[.agg #[.int .i64 0, .int .i64 0], .int .i64 1]) ?_ rfl ?_
    · simp [results, Try.results42, go_sem, q4, q5]
    exact ⟨ret_si (on2_n HB.out).symm rfl (on2_n HB.out).symm, by go_grown⟩

set_option maxHeartbeats 4000000 in
theorem BackHands_s (v : Value) (ds : List Int) (wn m rd n : Int) (w : World) (hv : Sl w v ds) :
    Calls Try.prog 46 #[.agg #[v, .int .i64 wn], .agg #[.int .i64 m, .int .i64 rd], .int .i64 n] w fun e w' => e = .returned (.tuple #[.agg #[.int .i64 (on2 ds wn m rd (inB n 1 720) ((m - n) % 720) 0 0), .int .i64 0], .int .i64 (on2 ds wn m rd (inB n 1 720) 0 2 1)]) ∧ Below w.heap.size w w' := by
  have H1 := Lib.hid (fun w' (hb : Below w.heap.size w w') => l21State_any v ds wn m rd w' (hv.below hb))
  cases hs : stB ds wn m rd with
  | true =>
    obtain ⟨hr, hst⟩ := stB_iff.1 hs
    have h3 := hst.1.1
    have h4 := hst.1.2
    have HB := Lib.hid hs
    clear hv hs hr hst
    cases hn : inB n 1 720 with
    | true =>
      have e1 := inB_iff.1 hn
      have HN := Lib.hid hn
      go_enter Try.func46, Try.ntmps46
      have k0 := ((Blk.new w 27 #[v, .int .i64 wn]).alloc (.cells #[.int .i64 m, .int .i64 rd] 34)).alloc (.cells #[.int .i64 0, .int .i64 0] 34)
      have k1 := (Blk.new (w.alloc (.cells #[v, .int .i64 wn] 27)) 34 #[.int .i64 m, .int .i64 rd]).alloc (.cells #[.int .i64 0, .int .i64 0] 34)
      have k2 := Blk.new ((w.alloc (.cells #[v, .int .i64 wn] 27)).alloc (.cells #[.int .i64 m, .int .i64 rd] 34)) 34 #[.int .i64 0, .int .i64 0]
      have HK0 := Lib.hid k0
      have HK1 := Lib.hid k1
      have HK2 := Lib.hid k2
      clear k0 k1 k2
      go_wp2_with fail
      refine (H1.out _ (by go_grown)).mono ?_
      rintro e w1 ⟨rfl, hb1⟩
      rw [HB.out]
      have j0 := HK0.out.below hb1
      have j1 := HK1.out.below hb1
      have j2 := HK2.out.below hb1
      simp only [World.size_alloc] at j1 j2
      have B1 : Below w.heap.size w w1 := Below.trans (by go_grown) (hb1.mono (by simp; omega))
      have q0 := j0.cell 0 rfl
      have q1 := j0.cell 1 rfl
      have q2 := j1.cell 0 rfl
      have q3 := j1.cell 1 rfl
      have q4 := j2.cell 0 rfl
      have q5 := j2.cell 1 rfl
      have f4 := j2.frozen 0
      have f5 := j2.frozen 1
      have z2 := j2.lt
      have J0 := Lib.hid j0
      have J1 := Lib.hid j1
      have J2 := Lib.hid j2
      clear j0 j1 j2 hb1 HK0 HK1 HK2

      go_wp2_with (go_at_call 80; refine (l00In_any _ _ _ _).mono ?_; rintro e w' ⟨rfl, rfl⟩)
      have p4 := q4
      have p5 := q5
      have y2 := z2
      have HF := Lib.hid (fun w => l19Mod_any (m - n) 720 w (by omega) (by omega) (by omega) (by omega))
      go_wp2_with (go_at_call 77; refine (HF.out _).mono ?_; rintro e w' ⟨rfl, rfl⟩)
      try simp only [Exit.inBlock, Exit.then]
      refine bodyPost_ret (v := .tuple #[.agg #[.int .i64 ((m - n) % 720), .int .i64 0], .int .i64 0]) ?_ rfl ?_
      · simp [results, Try.results46, go_sem, p4, p5]
      exact ⟨ret_si (on2_t HB.out rfl).symm rfl (on2_t HB.out rfl).symm, by go_grown⟩
    | false =>
      go_enter Try.func46, Try.ntmps46
      have k0 := ((Blk.new w 27 #[v, .int .i64 wn]).alloc (.cells #[.int .i64 m, .int .i64 rd] 34)).alloc (.cells #[.int .i64 0, .int .i64 0] 34)
      have k1 := (Blk.new (w.alloc (.cells #[v, .int .i64 wn] 27)) 34 #[.int .i64 m, .int .i64 rd]).alloc (.cells #[.int .i64 0, .int .i64 0] 34)
      have k2 := Blk.new ((w.alloc (.cells #[v, .int .i64 wn] 27)).alloc (.cells #[.int .i64 m, .int .i64 rd] 34)) 34 #[.int .i64 0, .int .i64 0]
      have HK0 := Lib.hid k0
      have HK1 := Lib.hid k1
      have HK2 := Lib.hid k2
      clear k0 k1 k2
      go_wp2_with fail
      refine (H1.out _ (by go_grown)).mono ?_
      rintro e w1 ⟨rfl, hb1⟩
      rw [HB.out]
      have j0 := HK0.out.below hb1
      have j1 := HK1.out.below hb1
      have j2 := HK2.out.below hb1
      simp only [World.size_alloc] at j1 j2
      have B1 : Below w.heap.size w w1 := Below.trans (by go_grown) (hb1.mono (by simp; omega))
      have q0 := j0.cell 0 rfl
      have q1 := j0.cell 1 rfl
      have q2 := j1.cell 0 rfl
      have q3 := j1.cell 1 rfl
      have q4 := j2.cell 0 rfl
      have q5 := j2.cell 1 rfl
      have f4 := j2.frozen 0
      have f5 := j2.frozen 1
      have z2 := j2.lt
      have J0 := Lib.hid j0
      have J1 := Lib.hid j1
      have J2 := Lib.hid j2
      clear j0 j1 j2 hb1 HK0 HK1 HK2

      go_wp2_with (go_at_call 80; refine (l00In_any _ _ _ _).mono ?_; rintro e w' ⟨rfl, rfl⟩)
      try simp only [Exit.inBlock, Exit.then]
      refine bodyPost_ret (v := .tuple #[.agg #[.int .i64 0, .int .i64 0], .int .i64 2]) ?_ rfl ?_
      · simp [results, Try.results46, go_sem, q4, q5]
      exact ⟨ret_si (on2_f HB.out rfl).symm rfl (on2_f HB.out rfl).symm, by go_grown⟩
  | false =>
    have HB := Lib.hid hs
    clear hv hs
    go_enter Try.func46, Try.ntmps46
    have k0 := ((Blk.new w 27 #[v, .int .i64 wn]).alloc (.cells #[.int .i64 m, .int .i64 rd] 34)).alloc (.cells #[.int .i64 0, .int .i64 0] 34)
    have k1 := (Blk.new (w.alloc (.cells #[v, .int .i64 wn] 27)) 34 #[.int .i64 m, .int .i64 rd]).alloc (.cells #[.int .i64 0, .int .i64 0] 34)
    have k2 := Blk.new ((w.alloc (.cells #[v, .int .i64 wn] 27)).alloc (.cells #[.int .i64 m, .int .i64 rd] 34)) 34 #[.int .i64 0, .int .i64 0]
    have HK0 := Lib.hid k0
    have HK1 := Lib.hid k1
    have HK2 := Lib.hid k2
    clear k0 k1 k2
    go_wp2_with fail
    refine (H1.out _ (by go_grown)).mono ?_
    rintro e w1 ⟨rfl, hb1⟩
    rw [HB.out]
    have j0 := HK0.out.below hb1
    have j1 := HK1.out.below hb1
    have j2 := HK2.out.below hb1
    simp only [World.size_alloc] at j1 j2
    have B1 : Below w.heap.size w w1 := Below.trans (by go_grown) (hb1.mono (by simp; omega))
    have q0 := j0.cell 0 rfl
    have q1 := j0.cell 1 rfl
    have q2 := j1.cell 0 rfl
    have q3 := j1.cell 1 rfl
    have q4 := j2.cell 0 rfl
    have q5 := j2.cell 1 rfl
    have f4 := j2.frozen 0
    have f5 := j2.frozen 1
    have z2 := j2.lt
    have J0 := Lib.hid j0
    have J1 := Lib.hid j1
    have J2 := Lib.hid j2
    clear j0 j1 j2 hb1 HK0 HK1 HK2
    go_wp2
    try simp only [Exit.inBlock, Exit.then]
    refine bodyPost_ret (v := .tuple #[.agg #[.int .i64 0, .int .i64 0], .int .i64 1]) ?_ rfl ?_
    · simp [results, Try.results46, go_sem, q4, q5]
    exact ⟨ret_si (on2_n HB.out).symm rfl (on2_n HB.out).symm, by go_grown⟩

end Go.Proofs.Ytipakagmbppagaa
