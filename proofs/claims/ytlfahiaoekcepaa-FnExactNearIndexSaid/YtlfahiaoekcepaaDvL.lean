/- Dividing heads: ExactIndex in the program and in the reference. -/
import Derived.Test.YtlfahiaoekcepaaDvV
namespace Go.Proofs.Ytlfahiaoekcepaa
open Go.RowKit
attribute [local go_sem ↓] Go.wp_at_zero Go.wp_at_succ

theorem mul_in' {a b A B : Int} (h1 : 0 ≤ a) (h2 : a ≤ A) (h3 : 0 ≤ b) (h4 : b ≤ B) : 0 ≤ a * b ∧ a * b ≤ A * B :=
  ⟨Int.mul_nonneg h1 h3, Int.le_trans (Int.mul_le_mul_of_nonneg_right h2 h3) (Int.mul_le_mul_of_nonneg_left h4 (by omega))⟩
/-- Circle k divides the work's turn into n. -/
def Fits (wm : Int) (cs : List Int) (n : Int) (k : Nat) : Prop := wm * ix cs k % n = 0
instance (wm : Int) (cs : List Int) (n : Int) (k : Nat) : Decidable (Fits wm cs n k) := inferInstanceAs (Decidable (_ = _))
/-- The first k circles do not. -/
def NoFit (wm : Int) (cs : List Int) (n : Int) (k : Nat) : Prop := ∀ j, j < k → ¬ Fits wm cs n j
theorem NoFit.zero (wm : Int) (cs : List Int) (n : Int) : NoFit wm cs n 0 := fun _ h => absurd h (Nat.not_lt_zero _)
theorem NoFit.succ {wm : Int} {cs : List Int} {n : Int} {k : Nat} (h : NoFit wm cs n k) (he : ¬ Fits wm cs n k) : NoFit wm cs n (k + 1) := fun j hj => by
  rcases Nat.lt_or_ge j k with h1 | h1
  · exact h j h1
  · have : j = k := by omega
    subst this; exact he
theorem fit_first (wm : Int) (cs : List Int) (n : Int) (m : Nat) : NoFit wm cs n m ∨ ∃ k, k < m ∧ Fits wm cs n k ∧ NoFit wm cs n k := by
  induction m with
  | zero => exact .inl (NoFit.zero _ _ _)
  | succ m ih =>
    rcases ih with h | ⟨k, h1, h2, h3⟩
    · by_cases hf : Fits wm cs n m
      · exact .inr ⟨m, by omega, hf, h⟩
      · exact .inl (h.succ hf)
    · exact .inr ⟨k, by omega, h2, h3⟩
/-- The holes of a motion on circle k. -/
def stK (wm : Int) (cs : List Int) (n : Int) (k : Nat) : Int := wm * ix cs k / n
theorem prod_in {wm : Int} {cs : List Int} (h : dvB wm cs = true) {k : Nat} (hk : k < cs.length) : 2 ≤ wm * ix cs k ∧ wm * ix cs k ≤ 72000 := by
  have h1 := (dvB_iff.1 h).1
  have h2 := circle_in h (ix_mem hk)
  have h3 := mul_in' (a := wm) (b := ix cs k) (A := 360) (B := 200) (by omega) (by omega) (by omega) (by omega)
  have h4 := Int.mul_le_mul_of_nonneg_right (a := 1) (b := wm) (c := ix cs k) h1.1 (by omega)
  omega
theorem stK_in {wm : Int} {cs : List Int} (h : dvB wm cs = true) {n : Int} (hn : 1 ≤ n) {k : Nat} (hk : k < cs.length) : 0 ≤ stK wm cs n k ∧ stK wm cs n k ≤ 72000 := by
  have h1 := prod_in h hk
  have h2 := Int.ediv_nonneg (a := wm * ix cs k) (b := n) (by omega) (by omega)
  have h3 := Int.ediv_le_self n (a := wm * ix cs k) (by omega)
  exact ⟨h2, by unfold stK; omega⟩

set_option maxHeartbeats 2000000 in
theorem motionOf_any (st c : Int) (w : World) (h1 : 0 ≤ st) (h2 : st ≤ 1000000000) (h3 : 1 ≤ c) (h4 : c ≤ 1000000000) :
    Calls Try.prog 57 #[.int .i64 st, .int .i64 c] w fun e w' => e = .returned (.agg #[.int .i64 (st / c), .int .i64 (st % c), .int .i64 c]) ∧ Below w.heap.size w w' := by
  have r1 := Int.emod_nonneg st (show c ≠ 0 by omega)
  have r2 := Int.emod_lt_of_pos st (show 0 < c by omega)
  have r3 := Int.ediv_nonneg (a := st) (b := c) (by omega) (by omega)
  have r4 := Int.ediv_le_self c (a := st) (by omega)
  have n1 : ¬ c = 0 := by omega
  have n2 : (c == 0) = false := by simpa using n1
  have e1 : st.tmod c = st % c := IntWalk.rem_in _ _ h1
  have e2 : st.tdiv c = st / c := Int.tdiv_eq_ediv_of_nonneg h1
  have e3 : IntKind.i64.wrap (st / c) = st / c := IntWalk.i64_in _ (by omega)
  have e4 : IntKind.i64.wrap (st % c) = st % c := IntWalk.i64_in _ (by omega)
  go_enter Try.func57, Try.ntmps57
  go_wp2_with fail
  go_region
  all_goals go_wp2
  all_goals (try simp only [Exit.inBlock, Exit.then])
  all_goals (refine bodyPost_ret (v := .agg #[.int .i64 (st / c), .int .i64 (st % c), .int .i64 c]) ?_ rfl ?_)
  all_goals first
    | exact ⟨rfl, by go_grown⟩
    | simp [results, Try.results57, go_sem]

set_option maxHeartbeats 2000000 in
theorem l24Make_any (st c : Int) (w : World) (h1 : 0 ≤ st) (h2 : st ≤ 1000000000) (h3 : 1 ≤ c) (h4 : c ≤ 1000000000) :
    Calls Try.prog 55 #[.int .i64 st, .int .i64 c] w fun e w' => e = .returned (.agg #[.int .i64 (st / c), .int .i64 (st % c), .int .i64 c]) ∧ Below w.heap.size w w' := by
  have r1 := Int.emod_nonneg st (show c ≠ 0 by omega)
  have r2 := Int.emod_lt_of_pos st (show 0 < c by omega)
  have r3 := Int.ediv_nonneg (a := st) (b := c) (by omega) (by omega)
  have r4 := Int.ediv_le_self c (a := st) (by omega)
  have n1 : ¬ c = 0 := by omega
  have n2 : (c == 0) = false := by simpa using n1
  have e1 : st.tmod c = st % c := IntWalk.rem_in _ _ h1
  have e2 : st.tdiv c = st / c := Int.tdiv_eq_ediv_of_nonneg h1
  have e3 : IntKind.i64.wrap (st / c) = st / c := IntWalk.i64_in _ (by omega)
  have e4 : IntKind.i64.wrap (st % c) = st % c := IntWalk.i64_in _ (by omega)
  go_enter Try.func55, Try.ntmps55
  go_wp2_with fail
  go_region
  all_goals go_wp2
  all_goals (try simp only [Exit.inBlock, Exit.then])
  all_goals (refine bodyPost_ret (v := .agg #[.int .i64 (st / c), .int .i64 (st % c), .int .i64 c]) ?_ rfl ?_)
  all_goals first
    | exact ⟨rfl, by go_grown⟩
    | simp [results, Try.results55, go_sem]

set_option maxRecDepth 100000 in
set_option maxHeartbeats 8000000 in
theorem exactIndex_1 (v : Value) (cs : List Int) (wm n : Int) (w : World) (hv : Sl w v cs) (hd : dvB wm cs = true) (hn1 : 1 ≤ n) (hn2 : n ≤ 2000) (hno : NoFit wm cs n cs.length) :
    Calls Try.prog 48 #[.agg #[.int .i64 wm, v], .int .i64 n] w fun e w' => e = .returned (.tuple #[.agg #[.int .i64 0, .int .i64 0, .int .i64 0], .bool false]) ∧ Below w.heap.size w w' := by
  obtain ⟨A, c, rfl, hac, hac', HA⟩ := hv.open_
  have HP := Lib.hid (fun k (hk : k < cs.length) => prod_in hd hk)
  have HST := Lib.hid (fun k (hk : k < cs.length) => stK_in hd hn1 hk)
  have HCI := Lib.hid (fun k (hk : k < cs.length) => circle_in hd (ix_mem hk))
  have HNO := Lib.hid hno
  have n1 : ¬ n = 0 := by omega
  have n2 : (n == 0) = false := by simpa using n1
  clear hv hd hno
  go_enter Try.func48, Try.ntmps48
  obtain ⟨k0, k1⟩ := bx2 w 27 34 #[.int .i64 wm, .slice A cs.length c] #[.int .i64 0, .int .i64 0, .int .i64 0]
  have HK0 := Lib.hid k0
  have HK1 := Lib.hid k1
  clear k0 k1
  go_wp2_with fail
  go_loopw [11] (fun i wr => ∃ k : Nat, k ≤ cs.length ∧ i = .int .i64 k ∧ Blk wr w.heap.size 27 #[.int .i64 wm, .slice A cs.length c] ∧ Blk wr (w.heap.size + 1) 34 #[.int .i64 0, .int .i64 0, .int .i64 0] ∧ Below w.heap.size w wr) (fun i _ => cs.length - (intOf i).toNat)
  case atStart => exact ⟨0, Nat.zero_le _, rfl, HK0.out, HK1.out, by go_grown⟩
  case round =>
    obtain ⟨k, hk, rfl, b0, b1, hB⟩ := hrel
    have q0 := b0.cell 0 rfl
    have q1 := b0.cell 1 rfl
    have q2 := b1.cell 0 rfl
    have q3 := b1.cell 1 rfl
    have q4 := b1.cell 2 rfl
    have f2 := b1.frozen 0
    have f3 := b1.frozen 1
    have f4 := b1.frozen 2
    have z0 := b0.lt
    have z1 := b1.lt
    have G0 := Lib.hid b0
    have G1 := Lib.hid b1
    clear b0 b1
    by_cases hkk : k < cs.length
    · have hkl := hkk
      obtain ⟨ba, oa, rfl, hba, hca⟩ := HA.out k hkl
      have ca : wr.cell? ⟨ba, oa + k, none⟩ = some (.int .i64 (ix cs k)) := (hB.cell (p := ⟨ba, oa + k, none⟩) hba).trans (hca k hkl)
      have hp := HP.out k hkl
      have hp1 := hp.1
      have hp2 := hp.2
      have i1 : (k : Int) < (cs.length : Int) := by omega
      have i2 : (0 : Int) ≤ (k : Int) := by omega
      have i3 : (cs.length : Int) ≤ (c : Int) := by omega
      have r1 := Int.emod_nonneg (wm * ix cs k) (show n ≠ 0 by omega)
      have r2 := Int.emod_lt_of_pos (wm * ix cs k) (show 0 < n by omega)
      have e1 : IntKind.i64.wrap (wm * ix cs k) = wm * ix cs k := IntWalk.i64_in _ (by omega)
      have e2 : (wm * ix cs k).tmod n = wm * ix cs k % n := IntWalk.rem_in _ _ (by omega)
      have e3 : IntKind.i64.wrap (wm * ix cs k % n) = wm * ix cs k % n := IntWalk.i64_in _ (by omega)
      have lba : ba < wr.heap.size := Nat.lt_of_lt_of_le hba hB.size
      clear hp hca HA
      have hnf : ¬ (wm * ix cs k % n = 0) := HNO.out k hkk
      have hbq : (wm * ix cs k % n == 0) = false := by simpa using hnf
      clear hnf
      go_wp2
      go_roundw
      case rel => exact ⟨k + 1, by omega, by go_num, by first | exact G0.out | exact G0.out.drewN _ | exact Blk.drew G0.out, by first | exact G1.out | exact G1.out.drewN _ | exact Blk.drew G1.out, by first | exact hB | exact below_drewN hB _ | exact hB.drew⟩
      case measure => simp [intOf]; omega
    · clear HA
      go_wp2
      try simp only [Exit.inBlock, Exit.then]
      refine bodyPost_ret (v := .tuple #[.agg #[.int .i64 0, .int .i64 0, .int .i64 0], .bool false]) ?_ rfl ?_
      · simp [results, Try.results48, go_sem, q2, q3, q4]
      exact ⟨rfl, by go_grown⟩

set_option maxRecDepth 100000 in
set_option maxHeartbeats 8000000 in
theorem exactIndex_0 (v : Value) (cs : List Int) (wm n : Int) (w : World) (hv : Sl w v cs) (hd : dvB wm cs = true) (hn1 : 1 ≤ n) (hn2 : n ≤ 2000) (K : Nat) (hK : K < cs.length) (hf : Fits wm cs n K) (hno : NoFit wm cs n K) :
    Calls Try.prog 48 #[.agg #[.int .i64 wm, v], .int .i64 n] w fun e w' => e = .returned (.tuple #[.agg #[.int .i64 (stK wm cs n K / ix cs K), .int .i64 (stK wm cs n K % ix cs K), .int .i64 (ix cs K)], .bool true]) ∧ Below w.heap.size w w' := by
  obtain ⟨A, c, rfl, hac, hac', HA⟩ := hv.open_
  have HP := Lib.hid (fun k (hk : k < cs.length) => prod_in hd hk)
  have HST := Lib.hid (fun k (hk : k < cs.length) => stK_in hd hn1 hk)
  have HCI := Lib.hid (fun k (hk : k < cs.length) => circle_in hd (ix_mem hk))
  have HNO := Lib.hid hno
  have n1 : ¬ n = 0 := by omega
  have n2 : (n == 0) = false := by simpa using n1
  have HF := Lib.hid hf
  clear hf
  clear hv hd hno
  go_enter Try.func48, Try.ntmps48
  obtain ⟨k0, k1⟩ := bx2 w 27 34 #[.int .i64 wm, .slice A cs.length c] #[.int .i64 0, .int .i64 0, .int .i64 0]
  have HK0 := Lib.hid k0
  have HK1 := Lib.hid k1
  clear k0 k1
  go_wp2_with fail
  go_loopw [11] (fun i wr => ∃ k : Nat, k ≤ K ∧ i = .int .i64 k ∧ Blk wr w.heap.size 27 #[.int .i64 wm, .slice A cs.length c] ∧ Blk wr (w.heap.size + 1) 34 #[.int .i64 0, .int .i64 0, .int .i64 0] ∧ Below w.heap.size w wr) (fun i _ => cs.length - (intOf i).toNat)
  case atStart => exact ⟨0, Nat.zero_le _, rfl, HK0.out, HK1.out, by go_grown⟩
  case round =>
    obtain ⟨k, hk, rfl, b0, b1, hB⟩ := hrel
    have q0 := b0.cell 0 rfl
    have q1 := b0.cell 1 rfl
    have q2 := b1.cell 0 rfl
    have q3 := b1.cell 1 rfl
    have q4 := b1.cell 2 rfl
    have f2 := b1.frozen 0
    have f3 := b1.frozen 1
    have f4 := b1.frozen 2
    have z0 := b0.lt
    have z1 := b1.lt
    have G0 := Lib.hid b0
    have G1 := Lib.hid b1
    clear b0 b1
    by_cases hkk : k < K
    · have hkl : k < cs.length := by omega
      obtain ⟨ba, oa, rfl, hba, hca⟩ := HA.out k hkl
      have ca : wr.cell? ⟨ba, oa + k, none⟩ = some (.int .i64 (ix cs k)) := (hB.cell (p := ⟨ba, oa + k, none⟩) hba).trans (hca k hkl)
      have hp := HP.out k hkl
      have hp1 := hp.1
      have hp2 := hp.2
      have i1 : (k : Int) < (cs.length : Int) := by omega
      have i2 : (0 : Int) ≤ (k : Int) := by omega
      have i3 : (cs.length : Int) ≤ (c : Int) := by omega
      have r1 := Int.emod_nonneg (wm * ix cs k) (show n ≠ 0 by omega)
      have r2 := Int.emod_lt_of_pos (wm * ix cs k) (show 0 < n by omega)
      have e1 : IntKind.i64.wrap (wm * ix cs k) = wm * ix cs k := IntWalk.i64_in _ (by omega)
      have e2 : (wm * ix cs k).tmod n = wm * ix cs k % n := IntWalk.rem_in _ _ (by omega)
      have e3 : IntKind.i64.wrap (wm * ix cs k % n) = wm * ix cs k % n := IntWalk.i64_in _ (by omega)
      have lba : ba < wr.heap.size := Nat.lt_of_lt_of_le hba hB.size
      clear hp hca HA
      have hnf : ¬ (wm * ix cs k % n = 0) := HNO.out k hkk
      have hbq : (wm * ix cs k % n == 0) = false := by simpa using hnf
      clear hnf
      go_wp2
      go_roundw
      case rel => exact ⟨k + 1, by omega, by go_num, by first | exact G0.out | exact G0.out.drewN _ | exact Blk.drew G0.out, by first | exact G1.out | exact G1.out.drewN _ | exact Blk.drew G1.out, by first | exact hB | exact below_drewN hB _ | exact hB.drew⟩
      case measure => simp [intOf]; omega
    · obtain rfl : k = K := by omega
      have hkl := hK
      obtain ⟨ba, oa, rfl, hba, hca⟩ := HA.out k hkl
      have ca : wr.cell? ⟨ba, oa + k, none⟩ = some (.int .i64 (ix cs k)) := (hB.cell (p := ⟨ba, oa + k, none⟩) hba).trans (hca k hkl)
      have hp := HP.out k hkl
      have hp1 := hp.1
      have hp2 := hp.2
      have i1 : (k : Int) < (cs.length : Int) := by omega
      have i2 : (0 : Int) ≤ (k : Int) := by omega
      have i3 : (cs.length : Int) ≤ (c : Int) := by omega
      have r1 := Int.emod_nonneg (wm * ix cs k) (show n ≠ 0 by omega)
      have r2 := Int.emod_lt_of_pos (wm * ix cs k) (show 0 < n by omega)
      have e1 : IntKind.i64.wrap (wm * ix cs k) = wm * ix cs k := IntWalk.i64_in _ (by omega)
      have e2 : (wm * ix cs k).tmod n = wm * ix cs k % n := IntWalk.rem_in _ _ (by omega)
      have e3 : IntKind.i64.wrap (wm * ix cs k % n) = wm * ix cs k % n := IntWalk.i64_in _ (by omega)
      have lba : ba < wr.heap.size := Nat.lt_of_lt_of_le hba hB.size
      clear hp hca HA
      have hbq : (wm * ix cs k % n == 0) = true := by have := HF.out; unfold Fits at this; simpa using this
      have hs := HST.out k hkl
      have hs1 := hs.1
      have hs2 := hs.2
      have hci := HCI.out k hkl
      have hc1 := hci.1
      have hc2 := hci.2
      have e4 : (wm * ix cs k).tdiv n = stK wm cs n k := Int.tdiv_eq_ediv_of_nonneg (by omega)
      have e5 : IntKind.i64.wrap (stK wm cs n k) = stK wm cs n k := IntWalk.i64_in _ (by omega)
      have e6 : wm * ix cs k / n = stK wm cs n k := rfl
      have HM := Lib.hid (fun w' => motionOf_any (stK wm cs n k) (ix cs k) w' hs1 (by omega) (by omega) (by omega))
      clear hs hci
      go_wp2_with fail
      refine (HM.out _).mono ?_
      rintro e w2 ⟨rfl, hb2⟩
      have j1 := G1.out.below hb2
      have q2 := j1.cell 0 rfl
      have q3 := j1.cell 1 rfl
      have q4 := j1.cell 2 rfl
      have f2 := j1.frozen 0
      have f3 := j1.frozen 1
      have f4 := j1.frozen 2
      have z2 := j1.lt
      have B2 := hB.trans (hb2.mono hB.size)
      clear hb2 j1
      go_wp2
      try simp only [Exit.inBlock, Exit.then]
      refine bodyPost_ret (v := .tuple #[.agg #[.int .i64 (stK wm cs n k / ix cs k), .int .i64 (stK wm cs n k % ix cs k), .int .i64 (ix cs k)], .bool true]) ?_ rfl ?_
      · simp [results, Try.results48, go_sem, q2, q3, q4]
      exact ⟨rfl, by go_grown⟩

set_option maxRecDepth 100000 in
set_option maxHeartbeats 8000000 in
theorem l24Exact_1 (v : Value) (cs : List Int) (wm n : Int) (w : World) (hv : Sl w v cs) (hd : dvB wm cs = true) (hn1 : 1 ≤ n) (hn2 : n ≤ 2000) (hno : NoFit wm cs n cs.length) :
    Calls Try.prog 46 #[.agg #[.int .i64 wm, v], .int .i64 n] w fun e w' => e = .returned (.tuple #[.agg #[.int .i64 0, .int .i64 0, .int .i64 0], .bool false]) ∧ Below w.heap.size w w' := by
  obtain ⟨A, c, rfl, hac, hac', HA⟩ := hv.open_
  have HP := Lib.hid (fun k (hk : k < cs.length) => prod_in hd hk)
  have HST := Lib.hid (fun k (hk : k < cs.length) => stK_in hd hn1 hk)
  have HCI := Lib.hid (fun k (hk : k < cs.length) => circle_in hd (ix_mem hk))
  have HNO := Lib.hid hno
  have n1 : ¬ n = 0 := by omega
  have n2 : (n == 0) = false := by simpa using n1
  clear hv hd hno
  go_enter Try.func46, Try.ntmps46
  obtain ⟨k0, k1⟩ := bx2 w 27 34 #[.int .i64 wm, .slice A cs.length c] #[.int .i64 0, .int .i64 0, .int .i64 0]
  have HK0 := Lib.hid k0
  have HK1 := Lib.hid k1
  clear k0 k1
  go_wp2_with fail
  go_loopw [6] (fun i wr => ∃ k : Nat, k ≤ cs.length ∧ i = .int .i64 k ∧ Blk wr w.heap.size 27 #[.int .i64 wm, .slice A cs.length c] ∧ Blk wr (w.heap.size + 1) 34 #[.int .i64 0, .int .i64 0, .int .i64 0] ∧ Below w.heap.size w wr) (fun i _ => cs.length - (intOf i).toNat)
  case atStart => exact ⟨0, Nat.zero_le _, rfl, HK0.out, HK1.out, by go_grown⟩
  case round =>
    obtain ⟨k, hk, rfl, b0, b1, hB⟩ := hrel
    have q0 := b0.cell 0 rfl
    have q1 := b0.cell 1 rfl
    have q2 := b1.cell 0 rfl
    have q3 := b1.cell 1 rfl
    have q4 := b1.cell 2 rfl
    have f2 := b1.frozen 0
    have f3 := b1.frozen 1
    have f4 := b1.frozen 2
    have z0 := b0.lt
    have z1 := b1.lt
    have G0 := Lib.hid b0
    have G1 := Lib.hid b1
    clear b0 b1
    by_cases hkk : k < cs.length
    · have hkl := hkk
      obtain ⟨ba, oa, rfl, hba, hca⟩ := HA.out k hkl
      have ca : wr.cell? ⟨ba, oa + k, none⟩ = some (.int .i64 (ix cs k)) := (hB.cell (p := ⟨ba, oa + k, none⟩) hba).trans (hca k hkl)
      have hp := HP.out k hkl
      have hp1 := hp.1
      have hp2 := hp.2
      have i1 : (k : Int) < (cs.length : Int) := by omega
      have i2 : (0 : Int) ≤ (k : Int) := by omega
      have i3 : (cs.length : Int) ≤ (c : Int) := by omega
      have r1 := Int.emod_nonneg (wm * ix cs k) (show n ≠ 0 by omega)
      have r2 := Int.emod_lt_of_pos (wm * ix cs k) (show 0 < n by omega)
      have e1 : IntKind.i64.wrap (wm * ix cs k) = wm * ix cs k := IntWalk.i64_in _ (by omega)
      have e2 : (wm * ix cs k).tmod n = wm * ix cs k % n := IntWalk.rem_in _ _ (by omega)
      have e3 : IntKind.i64.wrap (wm * ix cs k % n) = wm * ix cs k % n := IntWalk.i64_in _ (by omega)
      have lba : ba < wr.heap.size := Nat.lt_of_lt_of_le hba hB.size
      clear hp hca HA
      have hnf : ¬ (wm * ix cs k % n = 0) := HNO.out k hkk
      have hbq : (wm * ix cs k % n == 0) = false := by simpa using hnf
      clear hnf
      go_wp2
      go_quiet (fail)
      go_wp2
      go_roundw
      case rel => exact ⟨k + 1, by omega, by go_num, by first | exact G0.out | exact G0.out.drewN _ | exact Blk.drew G0.out, by first | exact G1.out | exact G1.out.drewN _ | exact Blk.drew G1.out, by first | exact hB | exact below_drewN hB _ | exact hB.drew⟩
      case measure => simp [intOf]; omega
    · clear HA
      go_wp2
      try simp only [Exit.inBlock, Exit.then]
      refine bodyPost_ret (v := .tuple #[.agg #[.int .i64 0, .int .i64 0, .int .i64 0], .bool false]) ?_ rfl ?_
      · simp [results, Try.results46, go_sem, q2, q3, q4]
      exact ⟨rfl, by go_grown⟩

set_option maxRecDepth 100000 in
set_option maxHeartbeats 8000000 in
theorem l24Exact_0 (v : Value) (cs : List Int) (wm n : Int) (w : World) (hv : Sl w v cs) (hd : dvB wm cs = true) (hn1 : 1 ≤ n) (hn2 : n ≤ 2000) (K : Nat) (hK : K < cs.length) (hf : Fits wm cs n K) (hno : NoFit wm cs n K) :
    Calls Try.prog 46 #[.agg #[.int .i64 wm, v], .int .i64 n] w fun e w' => e = .returned (.tuple #[.agg #[.int .i64 (stK wm cs n K / ix cs K), .int .i64 (stK wm cs n K % ix cs K), .int .i64 (ix cs K)], .bool true]) ∧ Below w.heap.size w w' := by
  obtain ⟨A, c, rfl, hac, hac', HA⟩ := hv.open_
  have HP := Lib.hid (fun k (hk : k < cs.length) => prod_in hd hk)
  have HST := Lib.hid (fun k (hk : k < cs.length) => stK_in hd hn1 hk)
  have HCI := Lib.hid (fun k (hk : k < cs.length) => circle_in hd (ix_mem hk))
  have HNO := Lib.hid hno
  have n1 : ¬ n = 0 := by omega
  have n2 : (n == 0) = false := by simpa using n1
  have HF := Lib.hid hf
  clear hf
  clear hv hd hno
  go_enter Try.func46, Try.ntmps46
  obtain ⟨k0, k1⟩ := bx2 w 27 34 #[.int .i64 wm, .slice A cs.length c] #[.int .i64 0, .int .i64 0, .int .i64 0]
  have HK0 := Lib.hid k0
  have HK1 := Lib.hid k1
  clear k0 k1
  go_wp2_with fail
  go_loopw [6] (fun i wr => ∃ k : Nat, k ≤ K ∧ i = .int .i64 k ∧ Blk wr w.heap.size 27 #[.int .i64 wm, .slice A cs.length c] ∧ Blk wr (w.heap.size + 1) 34 #[.int .i64 0, .int .i64 0, .int .i64 0] ∧ Below w.heap.size w wr) (fun i _ => cs.length - (intOf i).toNat)
  case atStart => exact ⟨0, Nat.zero_le _, rfl, HK0.out, HK1.out, by go_grown⟩
  case round =>
    obtain ⟨k, hk, rfl, b0, b1, hB⟩ := hrel
    have q0 := b0.cell 0 rfl
    have q1 := b0.cell 1 rfl
    have q2 := b1.cell 0 rfl
    have q3 := b1.cell 1 rfl
    have q4 := b1.cell 2 rfl
    have f2 := b1.frozen 0
    have f3 := b1.frozen 1
    have f4 := b1.frozen 2
    have z0 := b0.lt
    have z1 := b1.lt
    have G0 := Lib.hid b0
    have G1 := Lib.hid b1
    clear b0 b1
    by_cases hkk : k < K
    · have hkl : k < cs.length := by omega
      obtain ⟨ba, oa, rfl, hba, hca⟩ := HA.out k hkl
      have ca : wr.cell? ⟨ba, oa + k, none⟩ = some (.int .i64 (ix cs k)) := (hB.cell (p := ⟨ba, oa + k, none⟩) hba).trans (hca k hkl)
      have hp := HP.out k hkl
      have hp1 := hp.1
      have hp2 := hp.2
      have i1 : (k : Int) < (cs.length : Int) := by omega
      have i2 : (0 : Int) ≤ (k : Int) := by omega
      have i3 : (cs.length : Int) ≤ (c : Int) := by omega
      have r1 := Int.emod_nonneg (wm * ix cs k) (show n ≠ 0 by omega)
      have r2 := Int.emod_lt_of_pos (wm * ix cs k) (show 0 < n by omega)
      have e1 : IntKind.i64.wrap (wm * ix cs k) = wm * ix cs k := IntWalk.i64_in _ (by omega)
      have e2 : (wm * ix cs k).tmod n = wm * ix cs k % n := IntWalk.rem_in _ _ (by omega)
      have e3 : IntKind.i64.wrap (wm * ix cs k % n) = wm * ix cs k % n := IntWalk.i64_in _ (by omega)
      have lba : ba < wr.heap.size := Nat.lt_of_lt_of_le hba hB.size
      clear hp hca HA
      have hnf : ¬ (wm * ix cs k % n = 0) := HNO.out k hkk
      have hbq : (wm * ix cs k % n == 0) = false := by simpa using hnf
      clear hnf
      go_wp2
      go_quiet (fail)
      go_wp2
      go_roundw
      case rel => exact ⟨k + 1, by omega, by go_num, by first | exact G0.out | exact G0.out.drewN _ | exact Blk.drew G0.out, by first | exact G1.out | exact G1.out.drewN _ | exact Blk.drew G1.out, by first | exact hB | exact below_drewN hB _ | exact hB.drew⟩
      case measure => simp [intOf]; omega
    · obtain rfl : k = K := by omega
      have hkl := hK
      obtain ⟨ba, oa, rfl, hba, hca⟩ := HA.out k hkl
      have ca : wr.cell? ⟨ba, oa + k, none⟩ = some (.int .i64 (ix cs k)) := (hB.cell (p := ⟨ba, oa + k, none⟩) hba).trans (hca k hkl)
      have hp := HP.out k hkl
      have hp1 := hp.1
      have hp2 := hp.2
      have i1 : (k : Int) < (cs.length : Int) := by omega
      have i2 : (0 : Int) ≤ (k : Int) := by omega
      have i3 : (cs.length : Int) ≤ (c : Int) := by omega
      have r1 := Int.emod_nonneg (wm * ix cs k) (show n ≠ 0 by omega)
      have r2 := Int.emod_lt_of_pos (wm * ix cs k) (show 0 < n by omega)
      have e1 : IntKind.i64.wrap (wm * ix cs k) = wm * ix cs k := IntWalk.i64_in _ (by omega)
      have e2 : (wm * ix cs k).tmod n = wm * ix cs k % n := IntWalk.rem_in _ _ (by omega)
      have e3 : IntKind.i64.wrap (wm * ix cs k % n) = wm * ix cs k % n := IntWalk.i64_in _ (by omega)
      have lba : ba < wr.heap.size := Nat.lt_of_lt_of_le hba hB.size
      clear hp hca HA
      have hbq : (wm * ix cs k % n == 0) = true := by have := HF.out; unfold Fits at this; simpa using this
      have hs := HST.out k hkl
      have hs1 := hs.1
      have hs2 := hs.2
      have hci := HCI.out k hkl
      have hc1 := hci.1
      have hc2 := hci.2
      have e4 : (wm * ix cs k).tdiv n = stK wm cs n k := Int.tdiv_eq_ediv_of_nonneg (by omega)
      have e5 : IntKind.i64.wrap (stK wm cs n k) = stK wm cs n k := IntWalk.i64_in _ (by omega)
      have e6 : wm * ix cs k / n = stK wm cs n k := rfl
      have HM := Lib.hid (fun w' => l24Make_any (stK wm cs n k) (ix cs k) w' hs1 (by omega) (by omega) (by omega))
      clear hs hci
      have HSr := Lib.hid (fun (w' : World) (hw : Below wr.heap.size wr w') => (⟨(G0.out.below hw).cell 0 rfl, (G0.out.below hw).cell 1 rfl, (hw.cell (p := ⟨ba, oa + k, none⟩) lba).trans ca⟩ : w'.cell? ⟨w.heap.size, 0, none⟩ = some (.int .i64 wm) ∧ w'.cell? ⟨w.heap.size, 1, none⟩ = some (.slice (some ⟨ba, oa, none⟩) cs.length c) ∧ w'.cell? ⟨ba, oa + k, none⟩ = some (.int .i64 (ix cs k))))
      have ne1 : ¬ w.heap.size + 1 = ba := by omega
      have ne2 : ¬ ba = w.heap.size + 1 := by omega
      go_wp2
      go_quiet (fail)
      go_wp2_with fail
      go_region_held3 (fun w' => w'.cell? ⟨w.heap.size, 0, none⟩ = some (.int .i64 wm) ∧ w'.cell? ⟨w.heap.size, 1, none⟩ = some (.slice (some ⟨ba, oa, none⟩) cs.length c) ∧ w'.cell? ⟨ba, oa + k, none⟩ = some (.int .i64 (ix cs k))) (first | assumption | (refine HSr.out _ ?_; go_grown; done) | (refine HSr.out _ (below_drewN (Below.refl _ _) _)) | (refine HSr.out _ (Below.drew (below_drewN (Below.refl _ _) _))) | ((try dsimp only); (repeat' apply And.intro) <;> (first | assumption | (simp [go_sem, *]; done))) | go_keep)
        (first
          | (go_at_call 55; refine (HM.out _).mono ?_; rintro e w2 ⟨rfl, hb2⟩; have B5 : Below wr.heap.size wr w2 := Below.trans (by first | exact below_drewN (Below.refl _ _) _ | exact Below.drew (below_drewN (Below.refl _ _) _) | go_grown) (hb2.mono (by first | exact Nat.le_refl _ | simp)); have S5 := HSr.out _ B5; have j1 := G1.out.below B5; have q2 := j1.cell 0 rfl; have q3 := j1.cell 1 rfl; have q4 := j1.cell 2 rfl; have f2 := j1.frozen 0; have f3 := j1.frozen 1; have f4 := j1.frozen 2; have z2 := j1.lt; have B2 := hB.trans (B5.mono hB.size); clear hb2 j1))
      all_goals go_wp2
      try simp only [Exit.inBlock, Exit.then]
      refine bodyPost_ret (v := .tuple #[.agg #[.int .i64 (stK wm cs n k / ix cs k), .int .i64 (stK wm cs n k % ix cs k), .int .i64 (ix cs k)], .bool true]) ?_ rfl ?_
      · simp [results, Try.results46, go_sem, q2, q3, q4]
      exact ⟨rfl, by go_grown⟩

end Go.Proofs.Ytlfahiaoekcepaa
