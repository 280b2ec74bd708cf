/- Racks: what a minute and a movement backward do to a state, in the program and in the reference. -/
import Derived.Test.YtdlegcjcmhpbcaaRkU
import Derived.Test.YtdlegcjcmhpbcaaFl
import Derived.Deep.RegionHeld3
namespace Go.Proofs.Ytdlegcjcmhpbcaa
open Go.RowKit
attribute [local go_sem ↓] Go.wp_at_zero Go.wp_at_succ
attribute [local go_sem] cell?_grow frozen?_grow

/-- The minute behind minute m; the state's readiness there; the blows on the way. -/
def tkM (m : Int) : Int := (m + 1) % 720
def tkR (ds : List Int) (wn m rd : Int) : Int := if tkM m % 60 = 0 then 0 else if tkM m % 60 = 60 - wn then depthM ds wn (tkM m) else rd
def tkB (m rd : Int) : Int := if tkM m % 60 = 0 then rd else 0
theorem tkM_in (m : Int) : 0 ≤ tkM m ∧ tkM m ≤ 719 := by unfold tkM; omega
theorem tk0 {ds : List Int} {wn m rd : Int} (h : tkM m % 60 = 0) : tkR ds wn m rd = 0 ∧ tkB m rd = rd := ⟨by rw [tkR, if_pos h], by rw [tkB, if_pos h]⟩
theorem tk1 {ds : List Int} {wn m rd : Int} (h : ¬ tkM m % 60 = 0) (h' : tkM m % 60 = 60 - wn) : tkR ds wn m rd = depthM ds wn (tkM m) ∧ tkB m rd = 0 := ⟨by rw [tkR, if_neg h, if_pos h'], by rw [tkB, if_neg h]⟩
theorem tk2 {ds : List Int} {wn m rd : Int} (h : ¬ tkM m % 60 = 0) (h' : ¬ tkM m % 60 = 60 - wn) : tkR ds wn m rd = rd ∧ tkB m rd = 0 := ⟨by rw [tkR, if_neg h, if_neg h'], by rw [tkB, if_neg h]⟩
theorem ret_si {m m' r r' b b' : Int} (h1 : m = m') (h2 : r = r') (h3 : b = b') : Ending.returned (.tuple #[.agg #[.int .i64 m, .int .i64 r], .int .i64 b]) = Ending.returned (.tuple #[.agg #[.int .i64 m', .int .i64 r'], .int .i64 b']) := by rw [h1, h2, h3]

set_option maxHeartbeats 2000000 in
theorem tick_any (v : Value) (ds : List Int) (wn m rd : Int) (w : World) (hv : Sl w v ds) (hr : RkOk ds wn) (h3 : 0 ≤ m) (h4 : m ≤ 719) :
    Calls Try.prog 18 #[.agg #[v, .int .i64 wn], .agg #[.int .i64 m, .int .i64 rd]] w fun e w' => e = .returned (.tuple #[.agg #[.int .i64 (tkM m), .int .i64 (tkR ds wn m rd)], .int .i64 (tkB m rd)]) ∧ Below w.heap.size w w' := by
  have g1 := hr.2.2.1
  have g2 := hr.2.2.2
  have gm := tkM_in m
  have em : (m + 1) % 720 = tkM m := rfl
  by_cases h0 : tkM m % 60 = 0
  · have HT := Lib.hid (tk0 (ds := ds) (wn := wn) (rd := rd) h0)
    have b0 : (tkM m % 60 == 0) = true := by simp [h0]
    clear h0 hv
    go_enter Try.func18, Try.ntmps18
    go_wp2_with fail
    go_region
    all_goals go_wp2
    all_goals (try simp only [Exit.inBlock, Exit.then])
    all_goals (refine bodyPost_ret (v := .tuple #[.agg #[.int .i64 (tkM m), .int .i64 0], .int .i64 rd]) ?_ rfl ?_)
    · simp [results, Try.results18, go_sem]
    exact ⟨ret_si rfl HT.out.1.symm HT.out.2.symm, by go_grown⟩
  · have b0 : (tkM m % 60 == 0) = false := by simp [h0]
    by_cases h5 : tkM m % 60 = 60 - wn
    · have HT := Lib.hid (tk1 (ds := ds) (rd := rd) h0 h5)
      have b5 : (tkM m % 60 == 60 - wn) = true := by simp [h5]
      have H1 := Lib.hid (fun w' (hb : Below w.heap.size w w') => depthAt_any v ds wn (tkM m) w' (hv.below hb) hr gm.1 gm.2)
      clear h0 h5 hv
      go_enter Try.func18, Try.ntmps18
      have k0 := ((Blk.new w 26 #[v, .int .i64 wn]).alloc (.cells #[.int .i64 (tkM m), .int .i64 rd] 28)).alloc (.cells #[.int .i64 0, .int .i64 0] 28)
      have k1 := (Blk.new (w.alloc (.cells #[v, .int .i64 wn] 26)) 28 #[.int .i64 (tkM m), .int .i64 rd]).alloc (.cells #[.int .i64 0, .int .i64 0] 28)
      have k2 := Blk.new ((w.alloc (.cells #[v, .int .i64 wn] 26)).alloc (.cells #[.int .i64 (tkM m), .int .i64 rd] 28)) 28 #[.int .i64 0, .int .i64 0]
      have HK1 := Lib.hid k1
      have HK2 := Lib.hid k2
      clear k0 k1 k2
      go_wp2_with fail
      refine (H1.out _ (by go_grown)).mono ?_
      rintro e w1 ⟨rfl, hb1⟩
      have j1 := HK1.out.below hb1
      have j2 := HK2.out.below hb1
      simp only [World.size_alloc] at j1 j2
      have q2 := j1.cell 0 rfl
      have q3 := j1.cell 1 rfl
      have q4 := j2.cell 0 rfl
      have q5 := j2.cell 1 rfl
      have f2 := j1.frozen 0
      have f3 := j1.frozen 1
      have f4 := j2.frozen 0
      have f5 := j2.frozen 1
      have z2 := j2.lt
      have B1 : Below w.heap.size w w1 := Below.trans (by go_grown) (hb1.mono (by simp; omega))
      clear j1 j2 hb1 HK1 HK2
      go_wp2
      try simp only [Exit.inBlock, Exit.then]
      refine bodyPost_ret (v := .tuple #[.agg #[.int .i64 (tkM m), .int .i64 (depthM ds wn (tkM m))], .int .i64 0]) ?_ rfl ?_
      · simp [results, Try.results18, go_sem, q4, q5]
      exact ⟨ret_si rfl HT.out.1.symm HT.out.2.symm, by go_grown⟩
    · have HT := Lib.hid (tk2 (ds := ds) (rd := rd) h0 h5)
      have b5 : (tkM m % 60 == 60 - wn) = false := by simp [h5]
      clear h0 h5 hv
      go_enter Try.func18, Try.ntmps18
      go_wp2_with fail
      try simp only [Exit.inBlock, Exit.then]
      refine bodyPost_ret (v := .tuple #[.agg #[.int .i64 (tkM m), .int .i64 rd], .int .i64 0]) ?_ rfl ?_
      · simp [results, Try.results18, go_sem]
      exact ⟨ret_si rfl HT.out.1.symm HT.out.2.symm, by go_grown⟩

set_option maxHeartbeats 2000000 in
theorem l21Tick_any (v : Value) (ds : List Int) (wn m rd : Int) (w : World) (hv : Sl w v ds) (hr : RkOk ds wn) (h3 : 0 ≤ m) (h4 : m ≤ 719) :
    Calls Try.prog 21 #[.agg #[v, .int .i64 wn], .agg #[.int .i64 m, .int .i64 rd]] w fun e w' => e = .returned (.tuple #[.agg #[.int .i64 (tkM m), .int .i64 (tkR ds wn m rd)], .int .i64 (tkB m rd)]) ∧ Below w.heap.size w w' := by
  have g1 := hr.2.2.1
  have g2 := hr.2.2.2
  have gm := tkM_in m
  have em : (m + 1) % 720 = tkM m := rfl
  by_cases h0 : tkM m % 60 = 0
  · have HT := Lib.hid (tk0 (ds := ds) (wn := wn) (rd := rd) h0)
    have b0 : (tkM m % 60 == 0) = true := by simp [h0]
    clear h0 hv
    go_enter Try.func21, Try.ntmps21
    go_wp2_with fail
    go_region
    all_goals go_wp2
    all_goals (try simp only [Exit.inBlock, Exit.then])
    all_goals (refine bodyPost_ret (v := .tuple #[.agg #[.int .i64 (tkM m), .int .i64 0], .int .i64 rd]) ?_ rfl ?_)
    · simp [results, Try.results21, go_sem]
    exact ⟨ret_si rfl HT.out.1.symm HT.out.2.symm, by go_grown⟩
  · have b0 : (tkM m % 60 == 0) = false := by simp [h0]
    by_cases h5 : tkM m % 60 = 60 - wn
    · have HT := Lib.hid (tk1 (ds := ds) (rd := rd) h0 h5)
      have b5 : (tkM m % 60 == 60 - wn) = true := by simp [h5]
      obtain ⟨b, o, c, rfl, hbs, hi, hc1, hc2, hc⟩ := depth_cell hv hr (tkM m)
      have hi0 := (snail_in wn (tkM m)).1
      have q9 := hc w (Below.refl _ _)
      have HC := Lib.hid hc
      clear h0 h5 hv hc
      go_enter Try.func21, Try.ntmps21
      have k0 := ((Blk.new w 26 #[.slice (some ⟨b, o, none⟩) ds.length c, .int .i64 wn]).alloc (.cells #[.int .i64 m, .int .i64 rd] 28)).alloc (.cells #[.int .i64 0, .int .i64 0] 28)
      have k2 := Blk.new ((w.alloc (.cells #[.slice (some ⟨b, o, none⟩) ds.length c, .int .i64 wn] 26)).alloc (.cells #[.int .i64 m, .int .i64 rd] 28)) 28 #[.int .i64 0, .int .i64 0]
      have HK0 := Lib.hid k0
      have HK2 := Lib.hid k2
      clear k0 k2
      go_wp2_with fail
      go_region_held3 (fun w' => w'.cell? ⟨w.heap.size, 0, none⟩ = some (.slice (some ⟨b, o, none⟩) ds.length c) ∧ w'.cell? ⟨w.heap.size, 1, none⟩ = some (.int .i64 wn) ∧ w'.cell? ⟨b, o + (snail wn (tkM m)).toNat, none⟩ = some (.int .i64 (depthM ds wn (tkM m)))) (((try dsimp only); (repeat' apply And.intro) <;> (first | assumption | (exact HC.out _ (by go_grown)) | (simp [go_sem, *]; done) | go_keep)))
        (first
          | (go_at_call 28; refine (l21Hour_any _ wn (tkM m) _ g1 g2 gm.1 gm.2).mono ?_; rintro e w1 ⟨rfl, hb1⟩; have j0 := HK0.out.below_drew (w' := w1) hb1; have j2 := HK2.out.below_drew (w' := w1) hb1; simp only [World.size_alloc] at j2; have B1 : Below w.heap.size w w1 := Below.trans (by go_grown) (hb1.mono (by simp; omega)); have q0 := j0.cell 0 rfl; have q1 := j0.cell 1 rfl; have q4 := j2.cell 0 rfl; have q5 := j2.cell 1 rfl; have f4 := j2.frozen 0; have f5 := j2.frozen 1; have z2 := j2.lt; have q8 := HC.out w1 B1))
      all_goals go_wp2
      all_goals (try simp only [Exit.inBlock, Exit.then])
      all_goals (refine bodyPost_ret (v := .tuple #[.agg #[.int .i64 (tkM m), .int .i64 (depthM ds wn (tkM m))], .int .i64 0]) ?_ rfl ?_)
      · simp [results, Try.results21, go_sem, q4, q5]
      exact ⟨ret_si rfl HT.out.1.symm HT.out.2.symm, by go_grown⟩
    · have HT := Lib.hid (tk2 (ds := ds) (rd := rd) h0 h5)
      have b5 : (tkM m % 60 == 60 - wn) = false := by simp [h5]
      clear h0 h5 hv
      go_enter Try.func21, Try.ntmps21
      go_wp2_with fail
      try simp only [Exit.inBlock, Exit.then]
      refine bodyPost_ret (v := .tuple #[.agg #[.int .i64 (tkM m), .int .i64 rd], .int .i64 0]) ?_ rfl ?_
      · simp [results, Try.results21, go_sem]
      exact ⟨ret_si rfl HT.out.1.symm HT.out.2.symm, by go_grown⟩

end Go.Proofs.Ytdlegcjcmhpbcaa
