/- Dividing heads: ExactIndex and ExactDivisions in the program and in the reference. -/
import Derived.Test.YtlfahiaoekcepaaDvL
namespace Go.Proofs.Ytlfahiaoekcepaa
open Go.RowKit
attribute [local go_sem ↓] Go.wp_at_zero Go.wp_at_succ

/-- The code of a head and a number of divisions. -/
def dvC (wm : Int) (cs : List Int) (n : Int) : Int := if dvB wm cs = true then (if inB n 1 2000 = true then 0 else 2) else 1
theorem dvC1 {wm : Int} {cs : List Int} {n : Int} (h : dvB wm cs = false) : dvC wm cs n = 1 := by rw [dvC, if_neg (by simp [h])]
theorem dvC2 {wm : Int} {cs : List Int} {n : Int} (h : dvB wm cs = true) (h' : inB n 1 2000 = false) : dvC wm cs n = 2 := by rw [dvC, if_pos h, if_neg (by simp [h'])]
theorem dvC0 {wm : Int} {cs : List Int} {n : Int} (h : dvB wm cs = true) (h' : inB n 1 2000 = true) : dvC wm cs n = 0 := by rw [dvC, if_pos h, if_pos h']
set_option maxHeartbeats 400000 in
theorem isDivision_any (n : Int) (w : World) :
    Calls Try.prog 47 #[.int .i64 n] w fun e w' => e = .returned (.bool (inB n 1 2000)) ∧ w = w' := by
  go_enter Try.func47, Try.ntmps47
  go_wp2_with (go_at_call 39; refine (within_any _ _ _ _).mono ?_; rintro e w' ⟨rfl, rfl⟩)
  go_ret
  exact ⟨rfl, rfl⟩
set_option maxHeartbeats 2000000 in
theorem l24Code_any (v : Value) (cs : List Int) (wm n : Int) (w : World) (hv : Sl w v cs) :
    Calls Try.prog 45 #[.agg #[.int .i64 wm, v], .int .i64 n] w fun e w' => e = .returned (.int .i64 (dvC wm cs n)) ∧ Below w.heap.size w w' := by
  have H1 := Lib.hid (fun w' (hb : Below w.heap.size w w') => l24Ok_s v cs wm w' (hv.below hb))
  clear hv
  cases hs : dvB wm cs with
  | false =>
    have HB := Lib.hid hs
    have HC := Lib.hid (dvC1 (n := n) hs)
    clear hs
    go_enter Try.func45, Try.ntmps45
    go_wp2_with fail
    refine (H1.out _ (by go_grown)).mono ?_
    rintro e w1 ⟨rfl, hb⟩
    rw [HB.out]
    go_wp2
    go_ret
    exact ⟨ret_i HC.out.symm, Below.trans (by go_grown) (hb.mono (by simp))⟩
  | true =>
    have HB := Lib.hid hs
    cases hn : inB n 1 2000 with
    | true =>
      have HC := Lib.hid (dvC0 hs hn)
      clear hs
      go_enter Try.func45, Try.ntmps45
      go_wp2_with fail
      refine (H1.out _ (by go_grown)).mono ?_
      rintro e w1 ⟨rfl, hb⟩
      rw [HB.out]
      go_wp2_with (go_at_call 43; refine (l00In_any _ _ _ _).mono ?_; rintro e w' ⟨rfl, rfl⟩)
      go_ret
      exact ⟨ret_i HC.out.symm, Below.trans (by go_grown) (hb.mono (by simp))⟩
    | false =>
      have HC := Lib.hid (dvC2 hs hn)
      clear hs
      go_enter Try.func45, Try.ntmps45
      go_wp2_with fail
      refine (H1.out _ (by go_grown)).mono ?_
      rintro e w1 ⟨rfl, hb⟩
      rw [HB.out]
      go_wp2_with (go_at_call 43; refine (l00In_any _ _ _ _).mono ?_; rintro e w' ⟨rfl, rfl⟩)
      go_ret
      exact ⟨ret_i HC.out.symm, Below.trans (by go_grown) (hb.mono (by simp))⟩

set_option maxHeartbeats 4000000 in
theorem ExactIndex_i1 (v : Value) (cs : List Int) (wm n : Int) (w : World) (hv : Sl w v cs) (hs : dvB wm cs = false) :
    Calls Try.prog 22 #[.agg #[.int .i64 wm, v], .int .i64 n] w fun e w' => e = .returned (.tuple #[.agg #[.int .i64 0, .int .i64 0, .int .i64 0], .int .i64 1]) ∧ Below w.heap.size w w' := by
  have H1 := Lib.hid (fun w' (hb : Below w.heap.size w w') => ValidDivider_i v cs wm w' (hv.below hb))
  have HB := Lib.hid hs
  clear hv hs
  go_enter Try.func22, Try.ntmps22
  obtain ⟨k0, k1⟩ := bx2 w 27 34 #[.int .i64 wm, v] #[.int .i64 0, .int .i64 0, .int .i64 0]
  have HK0 := Lib.hid k0
  have HK1 := Lib.hid k1
  clear k0 k1
  go_wp2_with fail
  refine (H1.out _ (by go_grown)).mono ?_
  rintro e w1 ⟨rfl, hb1⟩
  rw [HB.out]
  have j0 := HK0.out.below hb1
  have j1 := HK1.out.below hb1
  have q0 := j0.cell 0 rfl
  have q1 := j0.cell 1 rfl
  have q2 := j1.cell 0 rfl
  have q3 := j1.cell 1 rfl
  have q4 := j1.cell 2 rfl
  have f2 := j1.frozen 0
  have f3 := j1.frozen 1
  have f4 := j1.frozen 2
  have z2 := j1.lt
  have B1 : Below w.heap.size w w1 := Below.trans (by go_grown) (hb1.mono (by simp; omega))
  have J1 := Lib.hid j1
  clear hb1 HK0 HK1 j0 j1
  go_wp2_with fail
  try simp only [Exit.inBlock, Exit.then]
  refine bodyPost_ret (v := .tuple #[.agg #[.int .i64 0, .int .i64 0, .int .i64 0], .int .i64 1]) ?_ rfl ?_
  · simp [results, Try.results22, go_sem, q2, q3, q4]
  exact ⟨rfl, by go_grown⟩

set_option maxHeartbeats 4000000 in
theorem ExactIndex_s1 (v : Value) (cs : List Int) (wm n : Int) (w : World) (hv : Sl w v cs) (hs : dvB wm cs = false) :
    Calls Try.prog 21 #[.agg #[.int .i64 wm, v], .int .i64 n] w fun e w' => e = .returned (.tuple #[.agg #[.int .i64 0, .int .i64 0, .int .i64 0], .int .i64 1]) ∧ Below w.heap.size w w' := by
  have H1 := Lib.hid (fun w' (hb : Below w.heap.size w w') => l24Code_any v cs wm n w' (hv.below hb))
  have HB := Lib.hid (dvC1 hs : dvC wm cs n = _)
  clear hv hs
  go_enter Try.func21, Try.ntmps21
  obtain ⟨k0, k1⟩ := bx2 w 27 34 #[.int .i64 wm, v] #[.int .i64 0, .int .i64 0, .int .i64 0]
  have HK0 := Lib.hid k0
  have HK1 := Lib.hid k1
  clear k0 k1
  go_wp2_with fail
  refine (H1.out _ (by go_grown)).mono ?_
  rintro e w1 ⟨rfl, hb1⟩
  rw [HB.out]
  have j0 := HK0.out.below hb1
  have j1 := HK1.out.below hb1
  have q0 := j0.cell 0 rfl
  have q1 := j0.cell 1 rfl
  have q2 := j1.cell 0 rfl
  have q3 := j1.cell 1 rfl
  have q4 := j1.cell 2 rfl
  have f2 := j1.frozen 0
  have f3 := j1.frozen 1
  have f4 := j1.frozen 2
  have z2 := j1.lt
  have B1 : Below w.heap.size w w1 := Below.trans (by go_grown) (hb1.mono (by simp; omega))
  have J1 := Lib.hid j1
  clear hb1 HK0 HK1 j0 j1
  go_wp2_with fail
  try simp only [Exit.inBlock, Exit.then]
  refine bodyPost_ret (v := .tuple #[.agg #[.int .i64 0, .int .i64 0, .int .i64 0], .int .i64 1]) ?_ rfl ?_
  · simp [results, Try.results21, go_sem, q2, q3, q4]
  exact ⟨rfl, by go_grown⟩

set_option maxHeartbeats 4000000 in
theorem ExactIndex_i2 (v : Value) (cs : List Int) (wm n : Int) (w : World) (hv : Sl w v cs) (hs : dvB wm cs = true) (hn : inB n 1 2000 = false) :
    Calls Try.prog 22 #[.agg #[.int .i64 wm, v], .int .i64 n] w fun e w' => e = .returned (.tuple #[.agg #[.int .i64 0, .int .i64 0, .int .i64 0], .int .i64 2]) ∧ Below w.heap.size w w' := by
  have H1 := Lib.hid (fun w' (hb : Below w.heap.size w w') => ValidDivider_i v cs wm w' (hv.below hb))
  have HB := Lib.hid hs
  clear hv hs
  go_enter Try.func22, Try.ntmps22
  obtain ⟨k0, k1⟩ := bx2 w 27 34 #[.int .i64 wm, v] #[.int .i64 0, .int .i64 0, .int .i64 0]
  have HK0 := Lib.hid k0
  have HK1 := Lib.hid k1
  clear k0 k1
  go_wp2_with fail
  refine (H1.out _ (by go_grown)).mono ?_
  rintro e w1 ⟨rfl, hb1⟩
  rw [HB.out]
  have j0 := HK0.out.below hb1
  have j1 := HK1.out.below hb1
  have q0 := j0.cell 0 rfl
  have q1 := j0.cell 1 rfl
  have q2 := j1.cell 0 rfl
  have q3 := j1.cell 1 rfl
  have q4 := j1.cell 2 rfl
  have f2 := j1.frozen 0
  have f3 := j1.frozen 1
  have f4 := j1.frozen 2
  have z2 := j1.lt
  have B1 : Below w.heap.size w w1 := Below.trans (by go_grown) (hb1.mono (by simp; omega))
  have J1 := Lib.hid j1
  clear hb1 HK0 HK1 j0 j1
  go_wp2_with (go_at_call 47; refine (isDivision_any _ _).mono ?_; rintro e w' ⟨rfl, rfl⟩)
  try simp only [Exit.inBlock, Exit.then]
  refine bodyPost_ret (v := .tuple #[.agg #[.int .i64 0, .int .i64 0, .int .i64 0], .int .i64 2]) ?_ rfl ?_
  · simp [results, Try.results22, go_sem, q2, q3, q4]
  exact ⟨rfl, by go_grown⟩

set_option maxHeartbeats 4000000 in
theorem ExactIndex_s2 (v : Value) (cs : List Int) (wm n : Int) (w : World) (hv : Sl w v cs) (hs : dvB wm cs = true) (hn : inB n 1 2000 = false) :
    Calls Try.prog 21 #[.agg #[.int .i64 wm, v], .int .i64 n] w fun e w' => e = .returned (.tuple #[.agg #[.int .i64 0, .int .i64 0, .int .i64 0], .int .i64 2]) ∧ Below w.heap.size w w' := by
  have H1 := Lib.hid (fun w' (hb : Below w.heap.size w w') => l24Code_any v cs wm n w' (hv.below hb))
  have HB := Lib.hid (dvC2 hs hn : dvC wm cs n = _)
  clear hv hs
  go_enter Try.func21, Try.ntmps21
  obtain ⟨k0, k1⟩ := bx2 w 27 34 #[.int .i64 wm, v] #[.int .i64 0, .int .i64 0, .int .i64 0]
  have HK0 := Lib.hid k0
  have HK1 := Lib.hid k1
  clear k0 k1
  go_wp2_with fail
  refine (H1.out _ (by go_grown)).mono ?_
  rintro e w1 ⟨rfl, hb1⟩
  rw [HB.out]
  have j0 := HK0.out.below hb1
  have j1 := HK1.out.below hb1
  have q0 := j0.cell 0 rfl
  have q1 := j0.cell 1 rfl
  have q2 := j1.cell 0 rfl
  have q3 := j1.cell 1 rfl
  have q4 := j1.cell 2 rfl
  have f2 := j1.frozen 0
  have f3 := j1.frozen 1
  have f4 := j1.frozen 2
  have z2 := j1.lt
  have B1 : Below w.heap.size w w1 := Below.trans (by go_grown) (hb1.mono (by simp; omega))
  have J1 := Lib.hid j1
  clear hb1 HK0 HK1 j0 j1
  go_wp2_with fail
  try simp only [Exit.inBlock, Exit.then]
  refine bodyPost_ret (v := .tuple #[.agg #[.int .i64 0, .int .i64 0, .int .i64 0], .int .i64 2]) ?_ rfl ?_
  · simp [results, Try.results21, go_sem, q2, q3, q4]
  exact ⟨rfl, by go_grown⟩

set_option maxHeartbeats 4000000 in
theorem ExactIndex_i3 (v : Value) (cs : List Int) (wm n : Int) (w : World) (hv : Sl w v cs) (hs : dvB wm cs = true) (hn : inB n 1 2000 = true) (hno : NoFit wm cs n cs.length) :
    Calls Try.prog 22 #[.agg #[.int .i64 wm, v], .int .i64 n] w fun e w' => e = .returned (.tuple #[.agg #[.int .i64 0, .int .i64 0, .int .i64 0], .int .i64 3]) ∧ Below w.heap.size w w' := by
  have H1 := Lib.hid (fun w' (hb : Below w.heap.size w w') => ValidDivider_i v cs wm w' (hv.below hb))
  have HB := Lib.hid hs
  have hn' := inB_iff.1 hn
  have H2 := Lib.hid (fun w' (hb : Below w.heap.size w w') => exactIndex_1 v cs wm n w' (hv.below hb) hs hn'.1 hn'.2 hno)
  clear hn' hno
  clear hv hs
  go_enter Try.func22, Try.ntmps22
  obtain ⟨k0, k1⟩ := bx2 w 27 34 #[.int .i64 wm, v] #[.int .i64 0, .int .i64 0, .int .i64 0]
  have HK0 := Lib.hid k0
  have HK1 := Lib.hid k1
  clear k0 k1
  go_wp2_with fail
  refine (H1.out _ (by go_grown)).mono ?_
  rintro e w1 ⟨rfl, hb1⟩
  rw [HB.out]
  have j0 := HK0.out.below hb1
  have j1 := HK1.out.below hb1
  have q0 := j0.cell 0 rfl
  have q1 := j0.cell 1 rfl
  have q2 := j1.cell 0 rfl
  have q3 := j1.cell 1 rfl
  have q4 := j1.cell 2 rfl
  have f2 := j1.frozen 0
  have f3 := j1.frozen 1
  have f4 := j1.frozen 2
  have z2 := j1.lt
  have B1 : Below w.heap.size w w1 := Below.trans (by go_grown) (hb1.mono (by simp; omega))
  have J1 := Lib.hid j1
  clear hb1 HK0 HK1 j0 j1
  go_wp2_with (go_at_call 47; refine (isDivision_any _ _).mono ?_; rintro e w' ⟨rfl, rfl⟩)
  refine (H2.out _ B1).mono ?_
  rintro e w2 ⟨rfl, hb2⟩
  have j1 := J1.out.below hb2
  have q2 := j1.cell 0 rfl
  have q3 := j1.cell 1 rfl
  have q4 := j1.cell 2 rfl
  have f2 := j1.frozen 0
  have f3 := j1.frozen 1
  have f4 := j1.frozen 2
  have z2 := j1.lt
  have B2 := B1.trans (hb2.mono B1.size)
  clear hb2 j1
  go_wp2
  try simp only [Exit.inBlock, Exit.then]
  refine bodyPost_ret (v := .tuple #[.agg #[.int .i64 0, .int .i64 0, .int .i64 0], .int .i64 3]) ?_ rfl ?_
  · simp [results, Try.results22, go_sem, q2, q3, q4, z2]
  exact ⟨rfl, by go_grown⟩

set_option maxHeartbeats 4000000 in
theorem ExactIndex_s3 (v : Value) (cs : List Int) (wm n : Int) (w : World) (hv : Sl w v cs) (hs : dvB wm cs = true) (hn : inB n 1 2000 = true) (hno : NoFit wm cs n cs.length) :
    Calls Try.prog 21 #[.agg #[.int .i64 wm, v], .int .i64 n] w fun e w' => e = .returned (.tuple #[.agg #[.int .i64 0, .int .i64 0, .int .i64 0], .int .i64 3]) ∧ Below w.heap.size w w' := by
  have H1 := Lib.hid (fun w' (hb : Below w.heap.size w w') => l24Code_any v cs wm n w' (hv.below hb))
  have HB := Lib.hid (dvC0 hs hn : dvC wm cs n = _)
  have hn' := inB_iff.1 hn
  have H2 := Lib.hid (fun w' (hb : Below w.heap.size w w') => l24Exact_1 v cs wm n w' (hv.below hb) hs hn'.1 hn'.2 hno)
  clear hn' hno
  clear hv hs
  go_enter Try.func21, Try.ntmps21
  obtain ⟨k0, k1⟩ := bx2 w 27 34 #[.int .i64 wm, v] #[.int .i64 0, .int .i64 0, .int .i64 0]
  have HK0 := Lib.hid k0
  have HK1 := Lib.hid k1
  clear k0 k1
  go_wp2_with fail
  refine (H1.out _ (by go_grown)).mono ?_
  rintro e w1 ⟨rfl, hb1⟩
  rw [HB.out]
  have j0 := HK0.out.below hb1
  have j1 := HK1.out.below hb1
  have q0 := j0.cell 0 rfl
  have q1 := j0.cell 1 rfl
  have q2 := j1.cell 0 rfl
  have q3 := j1.cell 1 rfl
  have q4 := j1.cell 2 rfl
  have f2 := j1.frozen 0
  have f3 := j1.frozen 1
  have f4 := j1.frozen 2
  have z2 := j1.lt
  have B1 : Below w.heap.size w w1 := Below.trans (by go_grown) (hb1.mono (by simp; omega))
  have J1 := Lib.hid j1
  clear hb1 HK0 HK1 j0 j1
  go_wp2_with fail
  refine (H2.out _ B1).mono ?_
  rintro e w2 ⟨rfl, hb2⟩
  have j1 := J1.out.below hb2
  have q2 := j1.cell 0 rfl
  have q3 := j1.cell 1 rfl
  have q4 := j1.cell 2 rfl
  have f2 := j1.frozen 0
  have f3 := j1.frozen 1
  have f4 := j1.frozen 2
  have z2 := j1.lt
  have B2 := B1.trans (hb2.mono B1.size)
  clear hb2 j1
  go_wp2
  try simp only [Exit.inBlock, Exit.then]
  refine bodyPost_ret (v := .tuple #[.agg #[.int .i64 0, .int .i64 0, .int .i64 0], .int .i64 3]) ?_ rfl ?_
  · simp [results, Try.results21, go_sem, q2, q3, q4, z2]
  exact ⟨rfl, by go_grown⟩

set_option maxHeartbeats 4000000 in
theorem ExactIndex_i0 (v : Value) (cs : List Int) (wm n : Int) (w : World) (hv : Sl w v cs) (hs : dvB wm cs = true) (hn : inB n 1 2000 = true) (K : Nat) (hK : K < cs.length) (hf : Fits wm cs n K) (hno : NoFit wm cs n K) :
    Calls Try.prog 22 #[.agg #[.int .i64 wm, v], .int .i64 n] w fun e w' => e = .returned (.tuple #[.agg #[.int .i64 (stK wm cs n K / ix cs K), .int .i64 (stK wm cs n K % ix cs K), .int .i64 (ix cs K)], .int .i64 0]) ∧ Below w.heap.size w w' := by
  have H1 := Lib.hid (fun w' (hb : Below w.heap.size w w') => ValidDivider_i v cs wm w' (hv.below hb))
  have HB := Lib.hid hs
  have hn' := inB_iff.1 hn
  have H2 := Lib.hid (fun w' (hb : Below w.heap.size w w') => exactIndex_0 v cs wm n w' (hv.below hb) hs hn'.1 hn'.2 K hK hf hno)
  clear hn' hno hf
  clear hv hs
  go_enter Try.func22, Try.ntmps22
  obtain ⟨k0, k1⟩ := bx2 w 27 34 #[.int .i64 wm, v] #[.int .i64 0, .int .i64 0, .int .i64 0]
  have HK0 := Lib.hid k0
  have HK1 := Lib.hid k1
  clear k0 k1
  go_wp2_with fail
  refine (H1.out _ (by go_grown)).mono ?_
  rintro e w1 ⟨rfl, hb1⟩
  rw [HB.out]
  have j0 := HK0.out.below hb1
  have j1 := HK1.out.below hb1
  have q0 := j0.cell 0 rfl
  have q1 := j0.cell 1 rfl
  have q2 := j1.cell 0 rfl
  have q3 := j1.cell 1 rfl
  have q4 := j1.cell 2 rfl
  have f2 := j1.frozen 0
  have f3 := j1.frozen 1
  have f4 := j1.frozen 2
  have z2 := j1.lt
  have B1 : Below w.heap.size w w1 := Below.trans (by go_grown) (hb1.mono (by simp; omega))
  have J1 := Lib.hid j1
  clear hb1 HK0 HK1 j0 j1
  go_wp2_with (go_at_call 47; refine (isDivision_any _ _).mono ?_; rintro e w' ⟨rfl, rfl⟩)
  refine (H2.out _ B1).mono ?_
  rintro e w2 ⟨rfl, hb2⟩
  have j1 := J1.out.below hb2
  have q2 := j1.cell 0 rfl
  have q3 := j1.cell 1 rfl
  have q4 := j1.cell 2 rfl
  have f2 := j1.frozen 0
  have f3 := j1.frozen 1
  have f4 := j1.frozen 2
  have z2 := j1.lt
  have B2 := B1.trans (hb2.mono B1.size)
  clear hb2 j1
  go_wp2
  try simp only [Exit.inBlock, Exit.then]
  refine bodyPost_ret (v := .tuple #[.agg #[.int .i64 (stK wm cs n K / ix cs K), .int .i64 (stK wm cs n K % ix cs K), .int .i64 (ix cs K)], .int .i64 0]) ?_ rfl ?_
  · simp [results, Try.results22, go_sem, q2, q3, q4, z2]
  exact ⟨rfl, by go_grown⟩

set_option maxHeartbeats 4000000 in
theorem ExactIndex_s0 (v : Value) (cs : List Int) (wm n : Int) (w : World) (hv : Sl w v cs) (hs : dvB wm cs = true) (hn : inB n 1 2000 = true) (K : Nat) (hK : K < cs.length) (hf : Fits wm cs n K) (hno : NoFit wm cs n K) :
    Calls Try.prog 21 #[.agg #[.int .i64 wm, v], .int .i64 n] w fun e w' => e = .returned (.tuple #[.agg #[.int .i64 (stK wm cs n K / ix cs K), .int .i64 (stK wm cs n K % ix cs K), .int .i64 (ix cs K)], .int .i64 0]) ∧ Below w.heap.size w w' := by
  have H1 := Lib.hid (fun w' (hb : Below w.heap.size w w') => l24Code_any v cs wm n w' (hv.below hb))
  have HB := Lib.hid (dvC0 hs hn : dvC wm cs n = _)
  have hn' := inB_iff.1 hn
  have H2 := Lib.hid (fun w' (hb : Below w.heap.size w w') => l24Exact_0 v cs wm n w' (hv.below hb) hs hn'.1 hn'.2 K hK hf hno)
  clear hn' hno hf
  clear hv hs
  go_enter Try.func21, Try.ntmps21
  obtain ⟨k0, k1⟩ := bx2 w 27 34 #[.int .i64 wm, v] #[.int .i64 0, .int .i64 0, .int .i64 0]
  have HK0 := Lib.hid k0
  have HK1 := Lib.hid k1
  clear k0 k1
  go_wp2_with fail
  refine (H1.out _ (by go_grown)).mono ?_
  rintro e w1 ⟨rfl, hb1⟩
  rw [HB.out]
  have j0 := HK0.out.below hb1
  have j1 := HK1.out.below hb1
  have q0 := j0.cell 0 rfl
  have q1 := j0.cell 1 rfl
  have q2 := j1.cell 0 rfl
  have q3 := j1.cell 1 rfl
  have q4 := j1.cell 2 rfl
  have f2 := j1.frozen 0
  have f3 := j1.frozen 1
  have f4 := j1.frozen 2
  have z2 := j1.lt
  have B1 : Below w.heap.size w w1 := Below.trans (by go_grown) (hb1.mono (by simp; omega))
  have J1 := Lib.hid j1
  clear hb1 HK0 HK1 j0 j1
  go_wp2_with fail
  refine (H2.out _ B1).mono ?_
  rintro e w2 ⟨rfl, hb2⟩
  have j1 := J1.out.below hb2
  have q2 := j1.cell 0 rfl
  have q3 := j1.cell 1 rfl
  have q4 := j1.cell 2 rfl
  have f2 := j1.frozen 0
  have f3 := j1.frozen 1
  have f4 := j1.frozen 2
  have z2 := j1.lt
  have B2 := B1.trans (hb2.mono B1.size)
  clear hb2 j1
  go_wp2
  try simp only [Exit.inBlock, Exit.then]
  refine bodyPost_ret (v := .tuple #[.agg #[.int .i64 (stK wm cs n K / ix cs K), .int .i64 (stK wm cs n K % ix cs K), .int .i64 (ix cs K)], .int .i64 0]) ?_ rfl ?_
  · simp [results, Try.results21, go_sem, q2, q3, q4, z2]
  exact ⟨rfl, by go_grown⟩

theorem ExactIndex_both (wm : Int) (cs : List Int) (n : Int) : ∃ ra rb rc rd : Int,
    (∀ v w, Sl w v cs → Calls Try.prog 22 #[.agg #[.int .i64 wm, v], .int .i64 n] w fun e w' => e = .returned (.tuple #[.agg #[.int .i64 ra, .int .i64 rb, .int .i64 rc], .int .i64 rd]) ∧ Below w.heap.size w w') ∧
    (∀ v w, Sl w v cs → Calls Try.prog 21 #[.agg #[.int .i64 wm, v], .int .i64 n] w fun e w' => e = .returned (.tuple #[.agg #[.int .i64 ra, .int .i64 rb, .int .i64 rc], .int .i64 rd]) ∧ Below w.heap.size w w') := by
  cases hs : dvB wm cs with
  | false => exact ⟨_, _, _, _, fun v w hv => ExactIndex_i1 v cs wm n w hv hs, fun v w hv => ExactIndex_s1 v cs wm n w hv hs⟩
  | true =>
    cases hn : inB n 1 2000 with
    | false => exact ⟨_, _, _, _, fun v w hv => ExactIndex_i2 v cs wm n w hv hs hn, fun v w hv => ExactIndex_s2 v cs wm n w hv hs hn⟩
    | true =>
      rcases fit_first wm cs n cs.length with hno | ⟨K, hK, hf, hno⟩
      · exact ⟨_, _, _, _, fun v w hv => ExactIndex_i3 v cs wm n w hv hs hn hno, fun v w hv => ExactIndex_s3 v cs wm n w hv hs hn hno⟩
      · exact ⟨_, _, _, _, fun v w hv => ExactIndex_i0 v cs wm n w hv hs hn K hK hf hno, fun v w hv => ExactIndex_s0 v cs wm n w hv hs hn K hK hf hno⟩
end Go.Proofs.Ytlfahiaoekcepaa
