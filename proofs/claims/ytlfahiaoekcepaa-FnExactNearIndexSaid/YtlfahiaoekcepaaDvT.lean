/- Dividing heads: NearIndex in the program and in the reference. -/
import Derived.Test.YtlfahiaoekcepaaDvM
import Derived.Test.YtlfahiaoekcepaaFd
namespace Go.Proofs.Ytlfahiaoekcepaa
open Go.RowKit
attribute [local go_sem ↓] Go.wp_at_zero Go.wp_at_succ

def absM (x : Int) : Int := if x < 0 then -x else x
theorem absM_in {x B : Int} (h1 : -B ≤ x) (h2 : x ≤ B) : 0 ≤ absM x ∧ absM x ≤ B := by unfold absM; split <;> omega
theorem absM_n {x : Int} (h : x < 0) : absM x = -x := if_pos h
theorem absM_p {x : Int} (h : ¬ x < 0) : absM x = x := if_neg h
set_option maxHeartbeats 400000 in
theorem abs_any (x : Int) (w : World) (h1 : -1000000000000 ≤ x) (h2 : x ≤ 1000000000000) :
    Calls Try.prog 56 #[.int .i64 x] w fun e w' => e = .returned (.int .i64 (absM x)) ∧ w = w' := by
  by_cases h : x < 0
  · have HA := Lib.hid (absM_n h)
    go_enter Try.func56, Try.ntmps56
    go_wp2
    go_ret
    exact ⟨ret_i HA.out.symm, rfl⟩
  · have HA := Lib.hid (absM_p h)
    go_enter Try.func56, Try.ntmps56
    go_wp2
    go_ret
    exact ⟨ret_i HA.out.symm, rfl⟩
set_option maxHeartbeats 400000 in
theorem l02Size_any (x : Int) (w : World) (h1 : -1000000000000 ≤ x) (h2 : x ≤ 1000000000000) :
    Calls Try.prog 54 #[.int .i64 x] w fun e w' => e = .returned (.int .i64 (absM x)) ∧ w = w' := by
  by_cases h : x < 0
  · have HA := Lib.hid (absM_n h)
    go_enter Try.func54, Try.ntmps54
    go_wp2
    go_ret
    exact ⟨ret_i HA.out.symm, rfl⟩
  · have HA := Lib.hid (absM_p h)
    go_enter Try.func54, Try.ntmps54
    go_wp2
    go_ret
    exact ⟨ret_i HA.out.symm, rfl⟩

/-- The holes of the motion that is nearest on circle c; by how much it misses. -/
def nrH (wm c n : Int) : Int := nearM (wm * c) n
def nrO (wm c n : Int) : Int := absM (nrH wm c n * n - wm * c)
/-- The best motion (turns, holes, circle) and its miss. -/
structure NrS where
  t : Int
  h : Int
  c : Int
  l : Int
def nrTake (wm c n : Int) (s : NrS) : Bool := decide (0 < nrH wm c n) && (decide (s.c = 0) || decide (nrO wm c n * s.c < s.l * c))
def nrStep (wm c n : Int) (s : NrS) : NrS := if nrTake wm c n s = true then ⟨nrH wm c n / c, nrH wm c n % c, c, nrO wm c n⟩ else s
def nrAll (wm : Int) (cs : List Int) (n : Int) : Nat → NrS
  | 0 => ⟨0, 0, 0, 0⟩
  | k + 1 => nrStep wm (ix cs k) n (nrAll wm cs n k)
def NrIn (s : NrS) : Prop := (0 ≤ s.c ∧ s.c ≤ 200) ∧ 0 ≤ s.l ∧ s.l ≤ 200000000
theorem nr_take {wm c n : Int} {s : NrS} (h : nrTake wm c n s = true) : nrStep wm c n s = ⟨nrH wm c n / c, nrH wm c n % c, c, nrO wm c n⟩ := if_pos h
theorem nr_keep {wm c n : Int} {s : NrS} (h : nrTake wm c n s = false) : nrStep wm c n s = s := if_neg (by simp [h])
theorem take_a {wm c n : Int} {s : NrS} (h1 : 0 < nrH wm c n) (h2 : s.c = 0) : nrTake wm c n s = true := by simp [nrTake, h1, h2]
theorem take_b {wm c n : Int} {s : NrS} (h1 : 0 < nrH wm c n) (h2 : nrO wm c n * s.c < s.l * c) : nrTake wm c n s = true := by simp [nrTake, h1, h2]
theorem take_c {wm c n : Int} {s : NrS} (h1 : ¬ s.c = 0) (h2 : ¬ nrO wm c n * s.c < s.l * c) : nrTake wm c n s = false := by simp [nrTake, h1, h2]
theorem take_z {wm c n : Int} {s : NrS} (h1 : ¬ 0 < nrH wm c n) : nrTake wm c n s = false := by simp [nrTake, h1]
theorem nr_bounds {wm : Int} {cs : List Int} (h : dvB wm cs = true) {n : Int} (h1 : 1 ≤ n) (h2 : n ≤ 2000) {k : Nat} (hk : k < cs.length) :
    (0 ≤ nrH wm (ix cs k) n ∧ nrH wm (ix cs k) n ≤ 72001) ∧ (0 ≤ nrH wm (ix cs k) n * n ∧ nrH wm (ix cs k) n * n ≤ 144002000) ∧ 0 ≤ nrO wm (ix cs k) n ∧ nrO wm (ix cs k) n ≤ 200000000 := by
  have hp := prod_in h hk
  have hn := nearM_in (n := wm * ix cs k) (d := n) (by omega) (by omega)
  have hH : 0 ≤ nrH wm (ix cs k) n ∧ nrH wm (ix cs k) n ≤ 72001 := by unfold nrH; omega
  have hm := mul_in' hH.1 hH.2 (show 0 ≤ n by omega) h2
  refine ⟨hH, by omega, ?_⟩
  exact absM_in (by omega) (by omega)
theorem nr_in {wm : Int} {cs : List Int} (h : dvB wm cs = true) {n : Int} (h1 : 1 ≤ n) (h2 : n ≤ 2000) (k : Nat) (hk : k ≤ cs.length) : NrIn (nrAll wm cs n k) := by
  induction k with
  | zero => exact ⟨⟨Int.le_refl 0, (by decide : (0 : Int) ≤ 200)⟩, Int.le_refl 0, (by decide : (0 : Int) ≤ 200000000)⟩
  | succ k ih =>
    have hb := nr_bounds h h1 h2 (show k < cs.length by omega)
    have hc := circle_in h (ix_mem (show k < cs.length by omega))
    cases ht : nrTake wm (ix cs k) n (nrAll wm cs n k) with
    | true => rw [nrAll, nr_take ht]; exact ⟨⟨by simp only; omega, by simp only; omega⟩, hb.2.2⟩
    | false => rw [nrAll, nr_keep ht]; exact ih (by omega)

theorem nearestDiv_nr (wm c n : Int) (w : World) (hd : 0 < n) (hd2 : n ≤ 1000000) (h0 : 0 ≤ wm * c) (h2 : wm * c ≤ 1000000) :
    Calls Try.prog 53 #[.int .i64 (wm * c), .int .i64 n] w fun e w' => e = .returned (.int .i64 (nrH wm c n)) ∧ w = w' := nearestDiv_any (wm * c) n w hd (by omega) h0 (by omega)
theorem abs_nr (wm c n : Int) (w : World) (h1 : -1000000000000 ≤ nrH wm c n * n - wm * c) (h2 : nrH wm c n * n - wm * c ≤ 1000000000000) :
    Calls Try.prog 56 #[.int .i64 (nrH wm c n * n - wm * c)] w fun e w' => e = .returned (.int .i64 (nrO wm c n)) ∧ w = w' := abs_any _ w h1 h2
theorem l02Near_nr (wm c n : Int) (w : World) (hd : 0 < n) (hd2 : n ≤ 1000000) (h0 : 0 ≤ wm * c) (h2 : wm * c ≤ 1000000) :
    Calls Try.prog 52 #[.int .i64 (wm * c), .int .i64 n] w fun e w' => e = .returned (.int .i64 (nrH wm c n)) ∧ w = w' := l02Near_any (wm * c) n w hd (by omega) h0 (by omega)
theorem l02Size_nr (wm c n : Int) (w : World) (h1 : -1000000000000 ≤ nrH wm c n * n - wm * c) (h2 : nrH wm c n * n - wm * c ≤ 1000000000000) :
    Calls Try.prog 54 #[.int .i64 (nrH wm c n * n - wm * c)] w fun e w' => e = .returned (.int .i64 (nrO wm c n)) ∧ w = w' := l02Size_any _ w h1 h2
set_option maxHeartbeats 2000000 in
theorem NearIndex_i1 (v : Value) (cs : List Int) (wm n : Int) (w : World) (hv : Sl w v cs) (hs : dvB wm cs = false) :
    Calls Try.prog 35 #[.agg #[.int .i64 wm, v], .int .i64 n] w fun e w' => e = .returned (.tuple #[.agg #[.int .i64 0, .int .i64 0, .int .i64 0], .int .i64 1]) ∧ Below w.heap.size w w' := by
  have H1 := Lib.hid (fun w' (hb : Below w.heap.size w w') => ValidDivider_i _ cs wm w' (hv.below hb))
  have HB := Lib.hid hs
  clear hv hs
  go_enter Try.func35, Try.ntmps35
  obtain ⟨k0, k1⟩ := bx2 w 27 34 #[.int .i64 wm, v] #[.int .i64 0, .int .i64 0, .int .i64 0]
  have HK0 := Lib.hid k0
  have HK1 := Lib.hid k1
  clear k0 k1
  go_wp2_with fail
  refine (H1.out _ (by go_grown)).mono ?_
  rintro e w1 ⟨rfl, hb1⟩
  rw [HB.out]
  have J0 := Lib.hid (HK0.out.below hb1)
  have J1 := Lib.hid (HK1.out.below hb1)
  have q0 := J0.out.cell 0 rfl
  have q1 := J0.out.cell 1 rfl
  have z0 := J0.out.lt
  have q2 := J1.out.cell 0 rfl
  have q3 := J1.out.cell 1 rfl
  have q4 := J1.out.cell 2 rfl
  have fq2 := J1.out.frozen 0
  have fq3 := J1.out.frozen 1
  have fq4 := J1.out.frozen 2
  have zq := J1.out.lt
  have B1 : Below w.heap.size w w1 := Below.trans (by go_grown) (hb1.mono (by simp; omega))
  clear hb1 HK0 HK1
  go_wp2_with fail
  try simp only [Exit.inBlock, Exit.then]
  refine bodyPost_ret (v := .tuple #[.agg #[.int .i64 0, .int .i64 0, .int .i64 0], .int .i64 1]) ?_ rfl ?_
  · simp [results, Try.results35, go_sem, q2, q3, q4]
  exact ⟨rfl, by go_grown⟩

set_option maxHeartbeats 2000000 in
theorem NearIndex_s1 (v : Value) (cs : List Int) (wm n : Int) (w : World) (hv : Sl w v cs) (hs : dvB wm cs = false) :
    Calls Try.prog 34 #[.agg #[.int .i64 wm, v], .int .i64 n] w fun e w' => e = .returned (.tuple #[.agg #[.int .i64 0, .int .i64 0, .int .i64 0], .int .i64 1]) ∧ Below w.heap.size w w' := by
  have H1 := Lib.hid (fun w' (hb : Below w.heap.size w w') => l24Code_any _ cs wm n w' (hv.below hb))
  have HB := Lib.hid (dvC1 hs : dvC wm cs n = _)
  clear hv hs
  go_enter Try.func34, Try.ntmps34
  obtain ⟨k0, k1⟩ := bx2 w 27 34 #[.int .i64 wm, v] #[.int .i64 0, .int .i64 0, .int .i64 0]
  have HK0 := Lib.hid k0
  have HK1 := Lib.hid k1
  clear k0 k1
  go_wp2_with fail
  refine (H1.out _ (by go_grown)).mono ?_
  rintro e w1 ⟨rfl, hb1⟩
  rw [HB.out]
  have J0 := Lib.hid (HK0.out.below hb1)
  have J1 := Lib.hid (HK1.out.below hb1)
  have q0 := J0.out.cell 0 rfl
  have q1 := J0.out.cell 1 rfl
  have z0 := J0.out.lt
  have q2 := J1.out.cell 0 rfl
  have q3 := J1.out.cell 1 rfl
  have q4 := J1.out.cell 2 rfl
  have fq2 := J1.out.frozen 0
  have fq3 := J1.out.frozen 1
  have fq4 := J1.out.frozen 2
  have zq := J1.out.lt
  have B1 : Below w.heap.size w w1 := Below.trans (by go_grown) (hb1.mono (by simp; omega))
  clear hb1 HK0 HK1
  go_wp2_with fail
  try simp only [Exit.inBlock, Exit.then]
  refine bodyPost_ret (v := .tuple #[.agg #[.int .i64 0, .int .i64 0, .int .i64 0], .int .i64 1]) ?_ rfl ?_
  · simp [results, Try.results34, go_sem, q2, q3, q4]
  exact ⟨rfl, by go_grown⟩

set_option maxHeartbeats 2000000 in
theorem NearIndex_i2 (v : Value) (cs : List Int) (wm n : Int) (w : World) (hv : Sl w v cs) (hs : dvB wm cs = true) (hn : inB n 1 2000 = false) :
    Calls Try.prog 35 #[.agg #[.int .i64 wm, v], .int .i64 n] w fun e w' => e = .returned (.tuple #[.agg #[.int .i64 0, .int .i64 0, .int .i64 0], .int .i64 2]) ∧ Below w.heap.size w w' := by
  have H1 := Lib.hid (fun w' (hb : Below w.heap.size w w') => ValidDivider_i _ cs wm w' (hv.below hb))
  have HB := Lib.hid hs
  clear hv hs
  go_enter Try.func35, Try.ntmps35
  obtain ⟨k0, k1⟩ := bx2 w 27 34 #[.int .i64 wm, v] #[.int .i64 0, .int .i64 0, .int .i64 0]
  have HK0 := Lib.hid k0
  have HK1 := Lib.hid k1
  clear k0 k1
  go_wp2_with fail
  refine (H1.out _ (by go_grown)).mono ?_
  rintro e w1 ⟨rfl, hb1⟩
  rw [HB.out]
  have J0 := Lib.hid (HK0.out.below hb1)
  have J1 := Lib.hid (HK1.out.below hb1)
  have q0 := J0.out.cell 0 rfl
  have q1 := J0.out.cell 1 rfl
  have z0 := J0.out.lt
  have q2 := J1.out.cell 0 rfl
  have q3 := J1.out.cell 1 rfl
  have q4 := J1.out.cell 2 rfl
  have fq2 := J1.out.frozen 0
  have fq3 := J1.out.frozen 1
  have fq4 := J1.out.frozen 2
  have zq := J1.out.lt
  have B1 : Below w.heap.size w w1 := Below.trans (by go_grown) (hb1.mono (by simp; omega))
  clear hb1 HK0 HK1
  go_wp2_with (go_at_call 47; refine (isDivision_any _ _).mono ?_; rintro e w' ⟨rfl, rfl⟩)
  try simp only [Exit.inBlock, Exit.then]
  refine bodyPost_ret (v := .tuple #[.agg #[.int .i64 0, .int .i64 0, .int .i64 0], .int .i64 2]) ?_ rfl ?_
  · simp [results, Try.results35, go_sem, q2, q3, q4]
  exact ⟨rfl, by go_grown⟩

set_option maxHeartbeats 2000000 in
theorem NearIndex_s2 (v : Value) (cs : List Int) (wm n : Int) (w : World) (hv : Sl w v cs) (hs : dvB wm cs = true) (hn : inB n 1 2000 = false) :
    Calls Try.prog 34 #[.agg #[.int .i64 wm, v], .int .i64 n] w fun e w' => e = .returned (.tuple #[.agg #[.int .i64 0, .int .i64 0, .int .i64 0], .int .i64 2]) ∧ Below w.heap.size w w' := by
  have H1 := Lib.hid (fun w' (hb : Below w.heap.size w w') => l24Code_any _ cs wm n w' (hv.below hb))
  have HB := Lib.hid (dvC2 hs hn : dvC wm cs n = _)
  clear hv hs
  go_enter Try.func34, Try.ntmps34
  obtain ⟨k0, k1⟩ := bx2 w 27 34 #[.int .i64 wm, v] #[.int .i64 0, .int .i64 0, .int .i64 0]
  have HK0 := Lib.hid k0
  have HK1 := Lib.hid k1
  clear k0 k1
  go_wp2_with fail
  refine (H1.out _ (by go_grown)).mono ?_
  rintro e w1 ⟨rfl, hb1⟩
  rw [HB.out]
  have J0 := Lib.hid (HK0.out.below hb1)
  have J1 := Lib.hid (HK1.out.below hb1)
  have q0 := J0.out.cell 0 rfl
  have q1 := J0.out.cell 1 rfl
  have z0 := J0.out.lt
  have q2 := J1.out.cell 0 rfl
  have q3 := J1.out.cell 1 rfl
  have q4 := J1.out.cell 2 rfl
  have fq2 := J1.out.frozen 0
  have fq3 := J1.out.frozen 1
  have fq4 := J1.out.frozen 2
  have zq := J1.out.lt
  have B1 : Below w.heap.size w w1 := Below.trans (by go_grown) (hb1.mono (by simp; omega))
  clear hb1 HK0 HK1
  go_wp2_with fail
  try simp only [Exit.inBlock, Exit.then]
  refine bodyPost_ret (v := .tuple #[.agg #[.int .i64 0, .int .i64 0, .int .i64 0], .int .i64 2]) ?_ rfl ?_
  · simp [results, Try.results34, go_sem, q2, q3, q4]
  exact ⟨rfl, by go_grown⟩

set_option maxRecDepth 100000 in
set_option maxHeartbeats 16000000 in
theorem NearIndex_i0 (v : Value) (cs : List Int) (wm n : Int) (w : World) (hv : Sl w v cs) (hs : dvB wm cs = true) (hn : inB n 1 2000 = true) (T H C L : Int) (hR : nrAll wm cs n cs.length = ⟨T, H, C, L⟩) (D : Int) (hD : (C = 0 → D = 3) ∧ (¬ C = 0 → D = 0)) (T2 H2 C2 : Int) (hT : (C = 0 → T2 = 0 ∧ H2 = 0 ∧ C2 = 0) ∧ (¬ C = 0 → T2 = T ∧ H2 = H ∧ C2 = C)) :
    Calls Try.prog 35 #[.agg #[.int .i64 wm, v], .int .i64 n] w fun e w' => e = .returned (.tuple #[.agg #[.int .i64 T2, .int .i64 H2, .int .i64 C2], .int .i64 D]) ∧ Below w.heap.size w w' := by
  have hn1 := (inB_iff.1 hn).1
  have hn2 := (inB_iff.1 hn).2
  obtain ⟨A, c, rfl, hac, hac', HA⟩ := hv.open_
  have H1 := Lib.hid (fun w' (hb : Below w.heap.size w w') => ValidDivider_i _ cs wm w' (hv.below hb))
  have HB := Lib.hid hs
  have HP := Lib.hid (fun k (hk : k < cs.length) => prod_in hs hk)
  have HCI := Lib.hid (fun k (hk : k < cs.length) => circle_in hs (ix_mem hk))
  have HBD := Lib.hid (fun k (hk : k < cs.length) => nr_bounds hs hn1 hn2 hk)
  have HIN := Lib.hid (fun k (hk : k ≤ cs.length) => nr_in hs hn1 hn2 k hk)
  have HRR := Lib.hid hR
  have HDD := Lib.hid hD
  have HTT := Lib.hid hT
  clear hR hD hT
  clear hv hs
  go_enter Try.func35, Try.ntmps35
  obtain ⟨k0, k1⟩ := bx2 w 27 34 #[.int .i64 wm, .slice A cs.length c] #[.int .i64 0, .int .i64 0, .int .i64 0]
  have HK0 := Lib.hid k0
  have HK1 := Lib.hid k1
  clear k0 k1
  go_wp2_with fail
  refine (H1.out _ (by go_grown)).mono ?_
  rintro e w1 ⟨rfl, hb1⟩
  rw [HB.out]
  have J0 := Lib.hid (HK0.out.below hb1)
  have J1 := Lib.hid (HK1.out.below hb1)
  have q0 := J0.out.cell 0 rfl
  have q1 := J0.out.cell 1 rfl
  have z0 := J0.out.lt
  have q2 := J1.out.cell 0 rfl
  have q3 := J1.out.cell 1 rfl
  have q4 := J1.out.cell 2 rfl
  have fq2 := J1.out.frozen 0
  have fq3 := J1.out.frozen 1
  have fq4 := J1.out.frozen 2
  have zq := J1.out.lt
  have B1 : Below w.heap.size w w1 := Below.trans (by go_grown) (hb1.mono (by simp; omega))
  clear hb1 HK0 HK1
  go_wp2_with (go_at_call 47; refine (isDivision_any _ _).mono ?_; rintro e w' ⟨rfl, rfl⟩)
  go_loopw [7, 24] (fun x i wr => ∃ (k : Nat) (bt bh bc bl : Int), k ≤ cs.length ∧ i = .int .i64 k ∧ x = .int .i64 bl ∧ Hid (nrAll wm cs n k = ⟨bt, bh, bc, bl⟩) ∧ Blk wr w.heap.size 27 #[.int .i64 wm, .slice A cs.length c] ∧ Blk wr (w.heap.size + 1) 34 #[.int .i64 0, .int .i64 0, .int .i64 0] ∧ Blk wr w1.heap.size 34 #[.int .i64 bt, .int .i64 bh, .int .i64 bc] ∧ Below w.heap.size w wr) (fun _ i _ => cs.length - (intOf i).toNat)
  case atStart => exact ⟨0, 0, 0, 0, 0, Nat.zero_le _, rfl, rfl, Lib.hid rfl, J0.out.alloc _, J1.out.alloc _, Blk.new _ _ _, by go_grown⟩
  case round =>
    obtain ⟨k, bt, bh, bc, bl, hk, rfl, rfl, HS, b0, b1, b2, hB⟩ := hrel
    have q0 := b0.cell 0 rfl
    have q1 := b0.cell 1 rfl
    have q2 := b1.cell 0 rfl
    have q3 := b1.cell 1 rfl
    have q4 := b1.cell 2 rfl
    have fq2 := b1.frozen 0
    have fq3 := b1.frozen 1
    have fq4 := b1.frozen 2
    have zq := b1.lt
    have p2 := b2.cell 0 rfl
    have p3 := b2.cell 1 rfl
    have p4 := b2.cell 2 rfl
    have fp2 := b2.frozen 0
    have fp3 := b2.frozen 1
    have fp4 := b2.frozen 2
    have zp := b2.lt
    have hne : w.heap.size + 1 < w1.heap.size := by have := J1.out.lt; omega
    have P0 := Lib.hid b0
    have P1 := Lib.hid b1
    have P2 := Lib.hid b2
    have hin := HIN.out k hk
    rw [HS.out] at hin
    obtain ⟨⟨in1, in2⟩, in3, in4⟩ := hin
    simp only at in1 in2 in3 in4
    clear b0 b1 b2
    by_cases hlt : k < cs.length
    · obtain ⟨ba, oa, rfl, hba, hca⟩ := HA.out k hlt
      have ca : wr.cell? ⟨ba, oa + k, none⟩ = some (.int .i64 (ix cs k)) := (hB.cell (p := ⟨ba, oa + k, none⟩) hba).trans (hca k hlt)
      obtain ⟨hp1, hp2⟩ := HP.out k hlt
      obtain ⟨hc1, hc2⟩ := HCI.out k hlt
      obtain ⟨⟨t1, t2⟩, ⟨t3, t4⟩, t5, t6⟩ := HBD.out k hlt
      have HN := Lib.hid (fun w' => nearestDiv_nr wm (ix cs k) n w' (by omega) (by omega) (by omega) (by omega))
      have HAB := Lib.hid (fun w' => abs_nr wm (ix cs k) n w' (by omega) (by omega))
      have HMO := Lib.hid (fun w' => motionOf_any (nrH wm (ix cs k) n) (ix cs k) w' t1 (by omega) (by omega) (by omega))
      have u1 := mul_in' t5 t6 in1 in2
      obtain ⟨u2, u3⟩ := u1
      have u4 := mul_in' in3 in4 (show 0 ≤ ix cs k by omega) hc2
      obtain ⟨u5, u6⟩ := u4
      clear hca HA
      by_cases hz : 0 < nrH wm (ix cs k) n
      · have hzq : (nrH wm (ix cs k) n == 0) = false := by simp; omega
        by_cases ha : bc = 0
        · have haq : (bc == 0) = true := by simp [ha]
          have HSS : Hid (nrAll wm cs n (k + 1) = ⟨nrH wm (ix cs k) n / ix cs k, nrH wm (ix cs k) n % ix cs k, ix cs k, nrO wm (ix cs k) n⟩) := by
            show _ = _
            rw [nrAll, HS.out, nr_take (take_a hz ha)]
          clear ha
          go_wp2_with (first
            | (go_at_call 53; refine (HN.out _).mono ?_; rintro e w' ⟨rfl, rfl⟩)
            | (go_at_call 56; refine (HAB.out _).mono ?_; rintro e w' ⟨rfl, rfl⟩))
          refine (HMO.out _).mono ?_
          rintro e w2 ⟨rfl, hb2⟩
          have g2 := P2.out.below hb2
          have gp2 := g2.cell 0 rfl
          have gp3 := g2.cell 1 rfl
          have gp4 := g2.cell 2 rfl
          have gf2 := g2.frozen 0
          have gf3 := g2.frozen 1
          have gf4 := g2.frozen 2
          have G0 := Lib.hid (P0.out.below hb2)
          have G1 := Lib.hid (P1.out.below hb2)
          have G2 := Lib.hid g2
          have B2 := hB.trans (hb2.mono hB.size)
          clear hb2 g2
          go_wp2
          go_roundw
          case rel =>
            refine ⟨k + 1, _, _, _, _, by omega, by go_num, rfl, HSS, ?_, ?_, Blk.put3 G2.out _ _ _, by go_grown⟩
            · refine Blk.far (Blk.far (Blk.far G0.out ?_ _) ?_ _) ?_ _ <;> (simp; omega)
            · refine Blk.far (Blk.far (Blk.far G1.out ?_ _) ?_ _) ?_ _ <;> (simp; omega)
          case measure => simp [intOf]; omega
        · have haq : (bc == 0) = false := by simpa using ha
          by_cases hl : nrO wm (ix cs k) n * bc < bl * ix cs k
          · have HSS : Hid (nrAll wm cs n (k + 1) = ⟨nrH wm (ix cs k) n / ix cs k, nrH wm (ix cs k) n % ix cs k, ix cs k, nrO wm (ix cs k) n⟩) := by
              show _ = _
              rw [nrAll, HS.out, nr_take (take_b hz hl)]
            clear ha
            go_wp2_with (first
              | (go_at_call 53; refine (HN.out _).mono ?_; rintro e w' ⟨rfl, rfl⟩)
              | (go_at_call 56; refine (HAB.out _).mono ?_; rintro e w' ⟨rfl, rfl⟩))
            refine (HMO.out _).mono ?_
            rintro e w2 ⟨rfl, hb2⟩
            have g2 := P2.out.below hb2
            have gp2 := g2.cell 0 rfl
            have gp3 := g2.cell 1 rfl
            have gp4 := g2.cell 2 rfl
            have gf2 := g2.frozen 0
            have gf3 := g2.frozen 1
            have gf4 := g2.frozen 2
            have G0 := Lib.hid (P0.out.below hb2)
            have G1 := Lib.hid (P1.out.below hb2)
            have G2 := Lib.hid g2
            have B2 := hB.trans (hb2.mono hB.size)
            clear hb2 g2
            go_wp2
            go_roundw
            case rel =>
              refine ⟨k + 1, _, _, _, _, by omega, by go_num, rfl, HSS, ?_, ?_, Blk.put3 G2.out _ _ _, by go_grown⟩
              · refine Blk.far (Blk.far (Blk.far G0.out ?_ _) ?_ _) ?_ _ <;> (simp; omega)
              · refine Blk.far (Blk.far (Blk.far G1.out ?_ _) ?_ _) ?_ _ <;> (simp; omega)
            case measure => simp [intOf]; omega
          · have HSS : Hid (nrAll wm cs n (k + 1) = ⟨bt, bh, bc, bl⟩) := by
              show _ = _
              rw [nrAll, HS.out, nr_keep (take_c ha hl)]
            clear ha
            go_wp2_with (first
              | (go_at_call 53; refine (HN.out _).mono ?_; rintro e w' ⟨rfl, rfl⟩)
              | (go_at_call 56; refine (HAB.out _).mono ?_; rintro e w' ⟨rfl, rfl⟩))
            go_roundw
            case rel => exact ⟨k + 1, _, _, _, _, by omega, by go_num, rfl, HSS, P0.out, P1.out, P2.out, hB⟩
            case measure => simp [intOf]; omega
      · have hzq : (nrH wm (ix cs k) n == 0) = true := by simp; omega
        have HSS : Hid (nrAll wm cs n (k + 1) = ⟨bt, bh, bc, bl⟩) := by
          show _ = _
          rw [nrAll, HS.out, nr_keep (take_z hz)]
        go_wp2_with (first
          | (go_at_call 53; refine (HN.out _).mono ?_; rintro e w' ⟨rfl, rfl⟩)
          | (go_at_call 56; refine (HAB.out _).mono ?_; rintro e w' ⟨rfl, rfl⟩))
        go_roundw
        case rel => exact ⟨k + 1, _, _, _, _, by omega, by go_num, rfl, HSS, P0.out, P1.out, P2.out, hB⟩
        case measure => simp [intOf]; omega
    · obtain rfl : k = cs.length := by omega
      have hRR := HS.out.symm.trans HRR.out
      injection hRR with r1 r2 r3 r4
      subst r1 r2 r3 r4
      clear HA
      by_cases ha : bc = 0
      · have haq : (bc == 0) = true := by simp [ha]
        obtain ⟨rfl, rfl, rfl⟩ := HTT.out.1 ha
        obtain rfl := HDD.out.1 ha
        clear ha
        go_wp2
        try simp only [Exit.inBlock, Exit.then]
        refine bodyPost_ret (v := .tuple #[.agg #[.int .i64 0, .int .i64 0, .int .i64 0], .int .i64 3]) ?_ rfl ?_
        · simp [results, Try.results35, go_sem, q2, q3, q4]
        exact ⟨rfl, by go_grown⟩
      · have haq : (bc == 0) = false := by simpa using ha
        obtain ⟨rfl, rfl, rfl⟩ := HTT.out.2 ha
        obtain rfl := HDD.out.2 ha
        clear ha
        go_wp2
        try simp only [Exit.inBlock, Exit.then]
        refine bodyPost_ret (v := .tuple #[.agg #[.int .i64 T2, .int .i64 H2, .int .i64 C2], .int .i64 0]) ?_ rfl ?_
        · simp [results, Try.results35, go_sem, q2, q3, q4]
        exact ⟨rfl, by go_grown⟩

set_option maxRecDepth 100000 in
set_option maxHeartbeats 16000000 in
theorem NearIndex_s0 (v : Value) (cs : List Int) (wm n : Int) (w : World) (hv : Sl w v cs) (hs : dvB wm cs = true) (hn : inB n 1 2000 = true) (T H C L : Int) (hR : nrAll wm cs n cs.length = ⟨T, H, C, L⟩) (D : Int) (hD : (C = 0 → D = 3) ∧ (¬ C = 0 → D = 0)) (T2 H2 C2 : Int) (hT : (C = 0 → T2 = 0 ∧ H2 = 0 ∧ C2 = 0) ∧ (¬ C = 0 → T2 = T ∧ H2 = H ∧ C2 = C)) :
    Calls Try.prog 34 #[.agg #[.int .i64 wm, v], .int .i64 n] w fun e w' => e = .returned (.tuple #[.agg #[.int .i64 T2, .int .i64 H2, .int .i64 C2], .int .i64 D]) ∧ Below w.heap.size w w' := by
  have hn1 := (inB_iff.1 hn).1
  have hn2 := (inB_iff.1 hn).2
  obtain ⟨A, c, rfl, hac, hac', HA⟩ := hv.open_
  have H1 := Lib.hid (fun w' (hb : Below w.heap.size w w') => l24Code_any _ cs wm n w' (hv.below hb))
  have HB := Lib.hid (dvC0 hs hn : dvC wm cs n = _)
  have HP := Lib.hid (fun k (hk : k < cs.length) => prod_in hs hk)
  have HCI := Lib.hid (fun k (hk : k < cs.length) => circle_in hs (ix_mem hk))
  have HBD := Lib.hid (fun k (hk : k < cs.length) => nr_bounds hs hn1 hn2 hk)
  have HIN := Lib.hid (fun k (hk : k ≤ cs.length) => nr_in hs hn1 hn2 k hk)
  have HRR := Lib.hid hR
  have HDD := Lib.hid hD
  have HTT := Lib.hid hT
  clear hR hD hT
  clear hv hs
  go_enter Try.func34, Try.ntmps34
  obtain ⟨k0, k1⟩ := bx2 w 27 34 #[.int .i64 wm, .slice A cs.length c] #[.int .i64 0, .int .i64 0, .int .i64 0]
  have HK0 := Lib.hid k0
  have HK1 := Lib.hid k1
  clear k0 k1
  go_wp2_with fail
  refine (H1.out _ (by go_grown)).mono ?_
  rintro e w1 ⟨rfl, hb1⟩
  rw [HB.out]
  have J0 := Lib.hid (HK0.out.below hb1)
  have J1 := Lib.hid (HK1.out.below hb1)
  have q0 := J0.out.cell 0 rfl
  have q1 := J0.out.cell 1 rfl
  have z0 := J0.out.lt
  have q2 := J1.out.cell 0 rfl
  have q3 := J1.out.cell 1 rfl
  have q4 := J1.out.cell 2 rfl
  have fq2 := J1.out.frozen 0
  have fq3 := J1.out.frozen 1
  have fq4 := J1.out.frozen 2
  have zq := J1.out.lt
  have B1 : Below w.heap.size w w1 := Below.trans (by go_grown) (hb1.mono (by simp; omega))
  clear hb1 HK0 HK1
  go_wp2_with fail
  go_loopw [8, 9] (fun x i wr => ∃ (k : Nat) (bt bh bc bl : Int), k ≤ cs.length ∧ i = .int .i64 k ∧ x = .int .i64 bl ∧ Hid (nrAll wm cs n k = ⟨bt, bh, bc, bl⟩) ∧ Blk wr w.heap.size 27 #[.int .i64 wm, .slice A cs.length c] ∧ Blk wr (w.heap.size + 1) 34 #[.int .i64 0, .int .i64 0, .int .i64 0] ∧ Blk wr w1.heap.size 34 #[.int .i64 bt, .int .i64 bh, .int .i64 bc] ∧ Below w.heap.size w wr) (fun _ i _ => cs.length - (intOf i).toNat)
  case atStart => exact ⟨0, 0, 0, 0, 0, Nat.zero_le _, rfl, rfl, Lib.hid rfl, J0.out.alloc _, J1.out.alloc _, Blk.new _ _ _, by go_grown⟩
  case round =>
    obtain ⟨k, bt, bh, bc, bl, hk, rfl, rfl, HS, b0, b1, b2, hB⟩ := hrel
    have q0 := b0.cell 0 rfl
    have q1 := b0.cell 1 rfl
    have q2 := b1.cell 0 rfl
    have q3 := b1.cell 1 rfl
    have q4 := b1.cell 2 rfl
    have fq2 := b1.frozen 0
    have fq3 := b1.frozen 1
    have fq4 := b1.frozen 2
    have zq := b1.lt
    have p2 := b2.cell 0 rfl
    have p3 := b2.cell 1 rfl
    have p4 := b2.cell 2 rfl
    have fp2 := b2.frozen 0
    have fp3 := b2.frozen 1
    have fp4 := b2.frozen 2
    have zp := b2.lt
    have hne : w.heap.size + 1 < w1.heap.size := by have := J1.out.lt; omega
    have P0 := Lib.hid b0
    have P1 := Lib.hid b1
    have P2 := Lib.hid b2
    have hin := HIN.out k hk
    rw [HS.out] at hin
    obtain ⟨⟨in1, in2⟩, in3, in4⟩ := hin
    simp only at in1 in2 in3 in4
    clear b0 b1 b2
    by_cases hlt : k < cs.length
    · obtain ⟨ba, oa, rfl, hba, hca⟩ := HA.out k hlt
      have ca : wr.cell? ⟨ba, oa + k, none⟩ = some (.int .i64 (ix cs k)) := (hB.cell (p := ⟨ba, oa + k, none⟩) hba).trans (hca k hlt)
      obtain ⟨hp1, hp2⟩ := HP.out k hlt
      obtain ⟨hc1, hc2⟩ := HCI.out k hlt
      obtain ⟨⟨t1, t2⟩, ⟨t3, t4⟩, t5, t6⟩ := HBD.out k hlt
      have HN := Lib.hid (fun w' => l02Near_nr wm (ix cs k) n w' (by omega) (by omega) (by omega) (by omega))
      have HAB := Lib.hid (fun w' => l02Size_nr wm (ix cs k) n w' (by omega) (by omega))
      have HMO := Lib.hid (fun w' => l24Make_any (nrH wm (ix cs k) n) (ix cs k) w' t1 (by omega) (by omega) (by omega))
      have u1 := mul_in' t5 t6 in1 in2
      obtain ⟨u2, u3⟩ := u1
      have u4 := mul_in' in3 in4 (show 0 ≤ ix cs k by omega) hc2
      obtain ⟨u5, u6⟩ := u4
      clear hca HA
      by_cases hz : 0 < nrH wm (ix cs k) n
      · have hzq : (nrH wm (ix cs k) n == 0) = false := by simp; omega
        by_cases ha : bc = 0
        · have haq : (bc == 0) = true := by simp [ha]
          have HSS : Hid (nrAll wm cs n (k + 1) = ⟨nrH wm (ix cs k) n / ix cs k, nrH wm (ix cs k) n % ix cs k, ix cs k, nrO wm (ix cs k) n⟩) := by
            show _ = _
            rw [nrAll, HS.out, nr_take (take_a hz ha)]
          clear ha
          go_wp2_with (first
            | (go_at_call 52; refine (HN.out _).mono ?_; rintro e w' ⟨rfl, rfl⟩)
            | (go_at_call 54; refine (HAB.out _).mono ?_; rintro e w' ⟨rfl, rfl⟩))
          refine (HMO.out _).mono ?_
          rintro e w2 ⟨rfl, hb2⟩
          have g2 := P2.out.below hb2
          have gp2 := g2.cell 0 rfl
          have gp3 := g2.cell 1 rfl
          have gp4 := g2.cell 2 rfl
          have gf2 := g2.frozen 0
          have gf3 := g2.frozen 1
          have gf4 := g2.frozen 2
          have G0 := Lib.hid (P0.out.below hb2)
          have G1 := Lib.hid (P1.out.below hb2)
          have G2 := Lib.hid g2
          have B2 := hB.trans (hb2.mono hB.size)
          clear hb2 g2
          go_wp2
          go_roundw
          case rel =>
            refine ⟨k + 1, _, _, _, _, by omega, by go_num, rfl, HSS, ?_, ?_, Blk.put3 G2.out _ _ _, by go_grown⟩
            · refine Blk.far (Blk.far (Blk.far G0.out ?_ _) ?_ _) ?_ _ <;> (simp; omega)
            · refine Blk.far (Blk.far (Blk.far G1.out ?_ _) ?_ _) ?_ _ <;> (simp; omega)
          case measure => simp [intOf]; omega
        · have haq : (bc == 0) = false := by simpa using ha
          by_cases hl : nrO wm (ix cs k) n * bc < bl * ix cs k
          · have HSS : Hid (nrAll wm cs n (k + 1) = ⟨nrH wm (ix cs k) n / ix cs k, nrH wm (ix cs k) n % ix cs k, ix cs k, nrO wm (ix cs k) n⟩) := by
              show _ = _
              rw [nrAll, HS.out, nr_take (take_b hz hl)]
            clear ha
            go_wp2_with (first
              | (go_at_call 52; refine (HN.out _).mono ?_; rintro e w' ⟨rfl, rfl⟩)
              | (go_at_call 54; refine (HAB.out _).mono ?_; rintro e w' ⟨rfl, rfl⟩))
            refine (HMO.out _).mono ?_
            rintro e w2 ⟨rfl, hb2⟩
            have g2 := P2.out.below hb2
            have gp2 := g2.cell 0 rfl
            have gp3 := g2.cell 1 rfl
            have gp4 := g2.cell 2 rfl
            have gf2 := g2.frozen 0
            have gf3 := g2.frozen 1
            have gf4 := g2.frozen 2
            have G0 := Lib.hid (P0.out.below hb2)
            have G1 := Lib.hid (P1.out.below hb2)
            have G2 := Lib.hid g2
            have B2 := hB.trans (hb2.mono hB.size)
            clear hb2 g2
            go_wp2
            go_roundw
            case rel =>
              refine ⟨k + 1, _, _, _, _, by omega, by go_num, rfl, HSS, ?_, ?_, Blk.put3 G2.out _ _ _, by go_grown⟩
              · refine Blk.far (Blk.far (Blk.far G0.out ?_ _) ?_ _) ?_ _ <;> (simp; omega)
              · refine Blk.far (Blk.far (Blk.far G1.out ?_ _) ?_ _) ?_ _ <;> (simp; omega)
            case measure => simp [intOf]; omega
          · have HSS : Hid (nrAll wm cs n (k + 1) = ⟨bt, bh, bc, bl⟩) := by
              show _ = _
              rw [nrAll, HS.out, nr_keep (take_c ha hl)]
            clear ha
            go_wp2_with (first
              | (go_at_call 52; refine (HN.out _).mono ?_; rintro e w' ⟨rfl, rfl⟩)
              | (go_at_call 54; refine (HAB.out _).mono ?_; rintro e w' ⟨rfl, rfl⟩))
            go_roundw
            case rel => exact ⟨k + 1, _, _, _, _, by omega, by go_num, rfl, HSS, P0.out, P1.out, P2.out, hB⟩
            case measure => simp [intOf]; omega
      · have hzq : (nrH wm (ix cs k) n == 0) = true := by simp; omega
        have HSS : Hid (nrAll wm cs n (k + 1) = ⟨bt, bh, bc, bl⟩) := by
          show _ = _
          rw [nrAll, HS.out, nr_keep (take_z hz)]
        go_wp2_with (first
          | (go_at_call 52; refine (HN.out _).mono ?_; rintro e w' ⟨rfl, rfl⟩)
          | (go_at_call 54; refine (HAB.out _).mono ?_; rintro e w' ⟨rfl, rfl⟩))
        go_roundw
        case rel => exact ⟨k + 1, _, _, _, _, by omega, by go_num, rfl, HSS, P0.out, P1.out, P2.out, hB⟩
        case measure => simp [intOf]; omega
    · obtain rfl : k = cs.length := by omega
      have hRR := HS.out.symm.trans HRR.out
      injection hRR with r1 r2 r3 r4
      subst r1 r2 r3 r4
      clear HA
      by_cases ha : bc = 0
      · have haq : (bc == 0) = true := by simp [ha]
        obtain ⟨rfl, rfl, rfl⟩ := HTT.out.1 ha
        obtain rfl := HDD.out.1 ha
        clear ha
        go_wp2
        try simp only [Exit.inBlock, Exit.then]
        refine bodyPost_ret (v := .tuple #[.agg #[.int .i64 0, .int .i64 0, .int .i64 0], .int .i64 3]) ?_ rfl ?_
        · simp [results, Try.results34, go_sem, q2, q3, q4]
        exact ⟨rfl, by go_grown⟩
      · have haq : (bc == 0) = false := by simpa using ha
        obtain ⟨rfl, rfl, rfl⟩ := HTT.out.2 ha
        obtain rfl := HDD.out.2 ha
        clear ha
        go_wp2
        try simp only [Exit.inBlock, Exit.then]
        refine bodyPost_ret (v := .tuple #[.agg #[.int .i64 T2, .int .i64 H2, .int .i64 C2], .int .i64 0]) ?_ rfl ?_
        · simp [results, Try.results34, go_sem, q2, q3, q4]
        exact ⟨rfl, by go_grown⟩

theorem NearIndex_both (wm : Int) (cs : List Int) (n : Int) : ∃ ra rb rc rd : Int,
    (∀ v w, Sl w v cs → Calls Try.prog 35 #[.agg #[.int .i64 wm, v], .int .i64 n] w fun e w' => e = .returned (.tuple #[.agg #[.int .i64 ra, .int .i64 rb, .int .i64 rc], .int .i64 rd]) ∧ Below w.heap.size w w') ∧
    (∀ v w, Sl w v cs → Calls Try.prog 34 #[.agg #[.int .i64 wm, v], .int .i64 n] w fun e w' => e = .returned (.tuple #[.agg #[.int .i64 ra, .int .i64 rb, .int .i64 rc], .int .i64 rd]) ∧ Below w.heap.size w w') := by
  cases hs : dvB wm cs with
  | false => exact ⟨_, _, _, _, fun v w hv => NearIndex_i1 v cs wm n w hv hs, fun v w hv => NearIndex_s1 v cs wm n w hv hs⟩
  | true =>
    cases hn : inB n 1 2000 with
    | false => exact ⟨_, _, _, _, fun v w hv => NearIndex_i2 v cs wm n w hv hs hn, fun v w hv => NearIndex_s2 v cs wm n w hv hs hn⟩
    | true =>
      obtain ⟨T, H, C, L, hR⟩ : ∃ T H C L, nrAll wm cs n cs.length = ⟨T, H, C, L⟩ := ⟨_, _, _, _, rfl⟩
      by_cases hC : C = 0
      · exact ⟨0, 0, 0, 3, fun v w hv => NearIndex_i0 v cs wm n w hv hs hn T H C L hR 3 ⟨fun _ => rfl, fun h => absurd hC h⟩ 0 0 0 ⟨fun _ => ⟨rfl, rfl, rfl⟩, fun h => absurd hC h⟩, fun v w hv => NearIndex_s0 v cs wm n w hv hs hn T H C L hR 3 ⟨fun _ => rfl, fun h => absurd hC h⟩ 0 0 0 ⟨fun _ => ⟨rfl, rfl, rfl⟩, fun h => absurd hC h⟩⟩
      · exact ⟨T, H, C, 0, fun v w hv => NearIndex_i0 v cs wm n w hv hs hn T H C L hR 0 ⟨fun h => absurd h hC, fun _ => rfl⟩ T H C ⟨fun h => absurd h hC, fun _ => ⟨rfl, rfl, rfl⟩⟩, fun v w hv => NearIndex_s0 v cs wm n w hv hs hn T H C L hR 0 ⟨fun h => absurd h hC, fun _ => rfl⟩ T H C ⟨fun h => absurd h hC, fun _ => ⟨rfl, rfl, rfl⟩⟩⟩
end Go.Proofs.Ytlfahiaoekcepaa
