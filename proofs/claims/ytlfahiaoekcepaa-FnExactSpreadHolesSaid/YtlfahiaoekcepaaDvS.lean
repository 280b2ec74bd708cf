/- Dividing heads: SpreadHoles in the program and in the reference. -/
import Derived.Test.YtlfahiaoekcepaaDvM
import Derived.Test.YtlfahiaoekcepaaDvI
import Derived.Test.YtlfahiaoekcepaaFd
namespace Go.Proofs.Ytlfahiaoekcepaa
open Go.RowKit
attribute [local go_sem ↓] Go.wp_at_zero Go.wp_at_succ

/-- The nearest holes of the first m of n divisions on circle r. -/
def spM (wm r n : Int) (m : Nat) : List Int := (List.range m).map fun k : Nat => nearM ((k : Int) * wm * r) n
theorem spM_length (wm r n : Int) (m : Nat) : (spM wm r n m).length = m := by simp [spM]
theorem spM_succ (wm r n : Int) (m : Nat) : spM wm r n (m + 1) = spM wm r n m ++ [nearM ((m : Int) * wm * r) n] := by simp [spM, List.range_succ]
theorem prod3_in {k a b : Int} (h1 : 0 ≤ k) (h2 : k ≤ 2000) (h3 : 0 ≤ a) (h4 : a ≤ 360) (h5 : 0 ≤ b) (h6 : b ≤ 200) : (0 ≤ k * a ∧ k * a ≤ 720000) ∧ 0 ≤ k * a * b ∧ k * a * b ≤ 144000000 := by
  have h7 := mul_in' h1 h2 h3 h4
  have h8 := mul_in' h7.1 h7.2 h5 h6
  omega

set_option maxHeartbeats 2000000 in
theorem SpreadHoles_i1 (v : Value) (cs : List Int) (wm r n : Int) (w : World) (hv : Sl w v cs) (hs : dvB wm cs = false) :
    Calls Try.prog 33 #[.agg #[.int .i64 wm, v], .int .i64 r, .int .i64 n] w fun e w' => ∃ v', e = .returned (.tuple #[v', .int .i64 1]) ∧ w'.ownsRow w.heap.size 2 1 v' ([] : List Int).length (I64 ([] : List Int)) ∧ Below w.heap.size w w' := by
  have H1 := Lib.hid (fun w' (hb : Below w.heap.size w w') => ValidDivider_i v cs wm w' (hv.below hb))
  have H2 := Lib.hid (fun w' (hb : Below w.heap.size w w') => Contains_any v cs r w' (hv.below hb))
  have HB := Lib.hid hs
  clear hv hs
  go_enter Try.func33, Try.ntmps33
  have HK0 := Lib.hid (bx1 w 27 #[.int .i64 wm, v])
  go_wp2_with fail
  refine (H1.out _ (by go_grown)).mono ?_
  rintro e w1 ⟨rfl, hb1⟩
  rw [HB.out]
  have J0 := Lib.hid (HK0.out.below hb1)
  have q0 := J0.out.cell 0 rfl
  have q1 := J0.out.cell 1 rfl
  have z0 := J0.out.lt
  have B1 : Below w.heap.size w w1 := Below.trans (by go_grown) (hb1.mono (by simp))
  clear hb1 HK0
  go_wp2_with fail
  go_ret2
  exact ⟨_, rfl, World.ownsRow_nil _ _ _ _, B1⟩

set_option maxHeartbeats 2000000 in
theorem SpreadHoles_s1 (v : Value) (cs : List Int) (wm r n : Int) (w : World) (hv : Sl w v cs) (hs : dvB wm cs = false) :
    Calls Try.prog 32 #[.agg #[.int .i64 wm, v], .int .i64 r, .int .i64 n] w fun e w' => ∃ v', e = .returned (.tuple #[v', .int .i64 1]) ∧ w'.ownsRow w.heap.size 2 1 v' ([] : List Int).length (I64 ([] : List Int)) ∧ Below w.heap.size w w' := by
  have H1 := Lib.hid (fun w' (hb : Below w.heap.size w w') => l24Code_any v cs wm n w' (hv.below hb))
  have H2 := Lib.hid (fun w' (hb : Below w.heap.size w w') => l00Has_any v cs r w' (hv.below hb))
  have HB := Lib.hid (dvC1 hs : dvC wm cs n = _)
  clear hv hs
  go_enter Try.func32, Try.ntmps32
  have HK0 := Lib.hid (bx1 w 27 #[.int .i64 wm, v])
  go_wp2_with fail
  refine (H1.out _ (by go_grown)).mono ?_
  rintro e w1 ⟨rfl, hb1⟩
  rw [HB.out]
  have J0 := Lib.hid (HK0.out.below hb1)
  have q0 := J0.out.cell 0 rfl
  have q1 := J0.out.cell 1 rfl
  have z0 := J0.out.lt
  have B1 : Below w.heap.size w w1 := Below.trans (by go_grown) (hb1.mono (by simp))
  clear hb1 HK0
  go_wp2_with fail
  go_ret2
  exact ⟨_, rfl, World.ownsRow_nil _ _ _ _, B1⟩

set_option maxHeartbeats 2000000 in
theorem SpreadHoles_i2 (v : Value) (cs : List Int) (wm r n : Int) (w : World) (hv : Sl w v cs) (hs : dvB wm cs = true) (hn : inB n 1 2000 = false) :
    Calls Try.prog 33 #[.agg #[.int .i64 wm, v], .int .i64 r, .int .i64 n] w fun e w' => ∃ v', e = .returned (.tuple #[v', .int .i64 2]) ∧ w'.ownsRow w.heap.size 2 1 v' ([] : List Int).length (I64 ([] : List Int)) ∧ Below w.heap.size w w' := by
  have H1 := Lib.hid (fun w' (hb : Below w.heap.size w w') => ValidDivider_i v cs wm w' (hv.below hb))
  have H2 := Lib.hid (fun w' (hb : Below w.heap.size w w') => Contains_any v cs r w' (hv.below hb))
  have HB := Lib.hid hs
  clear hv hs
  go_enter Try.func33, Try.ntmps33
  have HK0 := Lib.hid (bx1 w 27 #[.int .i64 wm, v])
  go_wp2_with fail
  refine (H1.out _ (by go_grown)).mono ?_
  rintro e w1 ⟨rfl, hb1⟩
  rw [HB.out]
  have J0 := Lib.hid (HK0.out.below hb1)
  have q0 := J0.out.cell 0 rfl
  have q1 := J0.out.cell 1 rfl
  have z0 := J0.out.lt
  have B1 : Below w.heap.size w w1 := Below.trans (by go_grown) (hb1.mono (by simp))
  clear hb1 HK0
  go_wp2_with (go_at_call 47; refine (isDivision_any _ _).mono ?_; rintro e w' ⟨rfl, rfl⟩)
  go_ret2
  exact ⟨_, rfl, World.ownsRow_nil _ _ _ _, B1⟩

set_option maxHeartbeats 2000000 in
theorem SpreadHoles_s2 (v : Value) (cs : List Int) (wm r n : Int) (w : World) (hv : Sl w v cs) (hs : dvB wm cs = true) (hn : inB n 1 2000 = false) :
    Calls Try.prog 32 #[.agg #[.int .i64 wm, v], .int .i64 r, .int .i64 n] w fun e w' => ∃ v', e = .returned (.tuple #[v', .int .i64 2]) ∧ w'.ownsRow w.heap.size 2 1 v' ([] : List Int).length (I64 ([] : List Int)) ∧ Below w.heap.size w w' := by
  have H1 := Lib.hid (fun w' (hb : Below w.heap.size w w') => l24Code_any v cs wm n w' (hv.below hb))
  have H2 := Lib.hid (fun w' (hb : Below w.heap.size w w') => l00Has_any v cs r w' (hv.below hb))
  have HB := Lib.hid (dvC2 hs hn : dvC wm cs n = _)
  clear hv hs
  go_enter Try.func32, Try.ntmps32
  have HK0 := Lib.hid (bx1 w 27 #[.int .i64 wm, v])
  go_wp2_with fail
  refine (H1.out _ (by go_grown)).mono ?_
  rintro e w1 ⟨rfl, hb1⟩
  rw [HB.out]
  have J0 := Lib.hid (HK0.out.below hb1)
  have q0 := J0.out.cell 0 rfl
  have q1 := J0.out.cell 1 rfl
  have z0 := J0.out.lt
  have B1 : Below w.heap.size w w1 := Below.trans (by go_grown) (hb1.mono (by simp))
  clear hb1 HK0
  go_wp2_with fail
  go_ret2
  exact ⟨_, rfl, World.ownsRow_nil _ _ _ _, B1⟩

set_option maxHeartbeats 2000000 in
theorem SpreadHoles_i3 (v : Value) (cs : List Int) (wm r n : Int) (w : World) (hv : Sl w v cs) (hs : dvB wm cs = true) (hn : inB n 1 2000 = true) (hc : hasB cs r = false) :
    Calls Try.prog 33 #[.agg #[.int .i64 wm, v], .int .i64 r, .int .i64 n] w fun e w' => ∃ v', e = .returned (.tuple #[v', .int .i64 2]) ∧ w'.ownsRow w.heap.size 2 1 v' ([] : List Int).length (I64 ([] : List Int)) ∧ Below w.heap.size w w' := by
  have H1 := Lib.hid (fun w' (hb : Below w.heap.size w w') => ValidDivider_i v cs wm w' (hv.below hb))
  have H2 := Lib.hid (fun w' (hb : Below w.heap.size w w') => Contains_any v cs r w' (hv.below hb))
  have HB := Lib.hid hs
  have HC := Lib.hid hc
  clear hc
  clear hv hs
  go_enter Try.func33, Try.ntmps33
  have HK0 := Lib.hid (bx1 w 27 #[.int .i64 wm, v])
  go_wp2_with fail
  refine (H1.out _ (by go_grown)).mono ?_
  rintro e w1 ⟨rfl, hb1⟩
  rw [HB.out]
  have J0 := Lib.hid (HK0.out.below hb1)
  have q0 := J0.out.cell 0 rfl
  have q1 := J0.out.cell 1 rfl
  have z0 := J0.out.lt
  have B1 : Below w.heap.size w w1 := Below.trans (by go_grown) (hb1.mono (by simp))
  clear hb1 HK0
  go_wp2_with (go_at_call 47; refine (isDivision_any _ _).mono ?_; rintro e w' ⟨rfl, rfl⟩)
  refine (H2.out _ B1).mono ?_
  rintro e w' ⟨rfl, rfl⟩
  rw [HC.out]
  go_wp2_with fail
  go_ret2
  exact ⟨_, rfl, World.ownsRow_nil _ _ _ _, B1⟩

set_option maxHeartbeats 2000000 in
theorem SpreadHoles_s3 (v : Value) (cs : List Int) (wm r n : Int) (w : World) (hv : Sl w v cs) (hs : dvB wm cs = true) (hn : inB n 1 2000 = true) (hc : hasB cs r = false) :
    Calls Try.prog 32 #[.agg #[.int .i64 wm, v], .int .i64 r, .int .i64 n] w fun e w' => ∃ v', e = .returned (.tuple #[v', .int .i64 2]) ∧ w'.ownsRow w.heap.size 2 1 v' ([] : List Int).length (I64 ([] : List Int)) ∧ Below w.heap.size w w' := by
  have H1 := Lib.hid (fun w' (hb : Below w.heap.size w w') => l24Code_any v cs wm n w' (hv.below hb))
  have H2 := Lib.hid (fun w' (hb : Below w.heap.size w w') => l00Has_any v cs r w' (hv.below hb))
  have HB := Lib.hid (dvC0 hs hn : dvC wm cs n = _)
  have HC := Lib.hid hc
  clear hc
  clear hv hs
  go_enter Try.func32, Try.ntmps32
  have HK0 := Lib.hid (bx1 w 27 #[.int .i64 wm, v])
  go_wp2_with fail
  refine (H1.out _ (by go_grown)).mono ?_
  rintro e w1 ⟨rfl, hb1⟩
  rw [HB.out]
  have J0 := Lib.hid (HK0.out.below hb1)
  have q0 := J0.out.cell 0 rfl
  have q1 := J0.out.cell 1 rfl
  have z0 := J0.out.lt
  have B1 : Below w.heap.size w w1 := Below.trans (by go_grown) (hb1.mono (by simp))
  clear hb1 HK0
  go_wp2_with fail
  refine (H2.out _ B1).mono ?_
  rintro e w' ⟨rfl, rfl⟩
  rw [HC.out]
  go_wp2_with fail
  go_ret2
  exact ⟨_, rfl, World.ownsRow_nil _ _ _ _, B1⟩

set_option maxRecDepth 100000 in
set_option maxHeartbeats 8000000 in
theorem SpreadHoles_i0 (v : Value) (cs : List Int) (wm r : Int) (N : Nat) (w : World) (hv : Sl w v cs) (hs : dvB wm cs = true) (hn : inB (N : Int) 1 2000 = true) (hc : hasB cs r = true) :
    Calls Try.prog 33 #[.agg #[.int .i64 wm, v], .int .i64 r, .int .i64 N] w fun e w' => ∃ v', e = .returned (.tuple #[v', .int .i64 0]) ∧ w'.ownsRow w.heap.size 2 1 v' (spM wm r N N).length (I64 (spM wm r N N)) ∧ Below w.heap.size w w' := by
  have H1 := Lib.hid (fun w' (hb : Below w.heap.size w w') => ValidDivider_i v cs wm w' (hv.below hb))
  have H2 := Lib.hid (fun w' (hb : Below w.heap.size w w') => Contains_any v cs r w' (hv.below hb))
  have HB := Lib.hid hs
  have hN := inB_iff.1 hn
  have hw := (dvB_iff.1 hs).1
  have hr := circle_in hs (hasB_iff.1 hc)
  have HP := Lib.hid (fun (k : Nat) (hk : k < N) => prod3_in (k := (k : Int)) (a := wm) (b := r) (by omega) (by omega) (by omega) (by omega) (by omega) (by omega))
  have HQ := Lib.hid (fun (x : Int) w' (h1 : 0 ≤ x) (h2 : x ≤ 144000000) => nearestDiv_any x N w' (by omega) (by omega) h1 (by omega))
  have HC := Lib.hid hc
  have hN2 : N ≤ 2000 := by omega
  clear hc hN hw hr
  clear hv hs
  go_enter Try.func33, Try.ntmps33
  have HK0 := Lib.hid (bx1 w 27 #[.int .i64 wm, v])
  go_wp2_with fail
  refine (H1.out _ (by go_grown)).mono ?_
  rintro e w1 ⟨rfl, hb1⟩
  rw [HB.out]
  have J0 := Lib.hid (HK0.out.below hb1)
  have q0 := J0.out.cell 0 rfl
  have q1 := J0.out.cell 1 rfl
  have z0 := J0.out.lt
  have B1 : Below w.heap.size w w1 := Below.trans (by go_grown) (hb1.mono (by simp))
  clear hb1 HK0
  go_wp2_with (go_at_call 47; refine (isDivision_any _ _).mono ?_; rintro e w' ⟨rfl, rfl⟩)
  refine (H2.out _ B1).mono ?_
  rintro e w' ⟨rfl, rfl⟩
  rw [HC.out]
  go_wp2_with fail
  go_loopw [8, 9] (fun x i wr => ∃ k : Nat, k ≤ N ∧ i = .int .i64 k ∧ wr.ownsRow (w.heap.size + 1) 2 1 x (spM wm r N k).length (I64 (spM wm r N k)) ∧ Blk wr w.heap.size 27 #[.int .i64 wm, v] ∧ Below w.heap.size w wr) (fun _ i _ => N - (intOf i).toNat)
  case atStart => exact ⟨0, by omega, by go_num, World.ownsRow_nil _ _ _ _, J0.out, by go_grown⟩
  case round =>
    obtain ⟨k, hk, rfl, hown, b0, hB⟩ := hrel
    obtain ⟨Ax, cx, rfl⟩ := own_form hown
    have q0 := b0.cell 0 rfl
    have HO := Lib.hid hown
    have P0 := Lib.hid b0
    have hsz : w.heap.size + 1 ≤ wr.heap.size := b0.lt
    clear hown b0
    by_cases hlt : k < N
    · have i1 : (k : Int) < (N : Int) := by omega
      obtain ⟨⟨p1, p2⟩, p3, p4⟩ := HP.out k hlt
      have HM := Lib.hid (spM_succ wm r N k)
      have hll : (spM wm r N k).length ≤ 134217728 := by rw [spM_length]; omega
      go_wp2_with (first
        | (go_at_call 53; refine (HQ.out _ _ p3 p4).mono ?_; rintro e w' ⟨rfl, rfl⟩)
        | (at_builtin; refine wpList_app1g rfl _ _ rfl (w.heap.size + 1) _ (spM wm r N k) rfl HO.out _ _ rfl rfl hll hsz ?_; intro v3 w3 hown3 hb3 hg3; have O3 := Lib.hid hown3; have P3 := Lib.hid (P0.out.belowB hb3 (by omega)); have B3 := Below.trans hB (hb3.mono (by omega)); clear hown3 hb3 hg3))
      go_roundw
      case rel => exact ⟨k + 1, by omega, by go_num, by rw [HM.out]; exact O3.out, P3.out, B3⟩
      case measure => simp [intOf]; omega
    · obtain rfl : k = N := by omega
      go_wp2
      go_ret2
      exact ⟨_, rfl, own_mono HO.out (by omega), hB⟩

set_option maxRecDepth 100000 in
set_option maxHeartbeats 8000000 in
theorem SpreadHoles_s0 (v : Value) (cs : List Int) (wm r : Int) (N : Nat) (w : World) (hv : Sl w v cs) (hs : dvB wm cs = true) (hn : inB (N : Int) 1 2000 = true) (hc : hasB cs r = true) :
    Calls Try.prog 32 #[.agg #[.int .i64 wm, v], .int .i64 r, .int .i64 N] w fun e w' => ∃ v', e = .returned (.tuple #[v', .int .i64 0]) ∧ w'.ownsRow w.heap.size 2 1 v' (spM wm r N N).length (I64 (spM wm r N N)) ∧ Below w.heap.size w w' := by
  have H1 := Lib.hid (fun w' (hb : Below w.heap.size w w') => l24Code_any v cs wm N w' (hv.below hb))
  have H2 := Lib.hid (fun w' (hb : Below w.heap.size w w') => l00Has_any v cs r w' (hv.below hb))
  have HB := Lib.hid (dvC0 hs hn : dvC wm cs N = _)
  have hN := inB_iff.1 hn
  have hw := (dvB_iff.1 hs).1
  have hr := circle_in hs (hasB_iff.1 hc)
  have HP := Lib.hid (fun (k : Nat) (hk : k < N) => prod3_in (k := (k : Int)) (a := wm) (b := r) (by omega) (by omega) (by omega) (by omega) (by omega) (by omega))
  have HQ := Lib.hid (fun (x : Int) w' (h1 : 0 ≤ x) (h2 : x ≤ 144000000) => l02Near_any x N w' (by omega) (by omega) h1 (by omega))
  have HC := Lib.hid hc
  have hN2 : N ≤ 2000 := by omega
  clear hc hN hw hr
  clear hv hs
  go_enter Try.func32, Try.ntmps32
  have HK0 := Lib.hid (bx1 w 27 #[.int .i64 wm, v])
  go_wp2_with fail
  refine (H1.out _ (by go_grown)).mono ?_
  rintro e w1 ⟨rfl, hb1⟩
  rw [HB.out]
  have J0 := Lib.hid (HK0.out.below hb1)
  have q0 := J0.out.cell 0 rfl
  have q1 := J0.out.cell 1 rfl
  have z0 := J0.out.lt
  have B1 : Below w.heap.size w w1 := Below.trans (by go_grown) (hb1.mono (by simp))
  clear hb1 HK0
  go_wp2_with fail
  refine (H2.out _ B1).mono ?_
  rintro e w' ⟨rfl, rfl⟩
  rw [HC.out]
  go_wp2_with fail
  go_loopw [9, 10] (fun x i wr => ∃ k : Nat, k ≤ N ∧ i = .int .i64 k ∧ wr.ownsRow (w.heap.size + 1) 2 1 x (spM wm r N k).length (I64 (spM wm r N k)) ∧ Blk wr w.heap.size 27 #[.int .i64 wm, v] ∧ Below w.heap.size w wr) (fun _ i _ => N - (intOf i).toNat)
  case atStart => exact ⟨0, by omega, by go_num, own_lit w1 w1.heap.size rfl z0 _, J0.out.alloc _, by go_grown⟩
  case round =>
    obtain ⟨k, hk, rfl, hown, b0, hB⟩ := hrel
    obtain ⟨Ax, cx, rfl⟩ := own_form hown
    have q0 := b0.cell 0 rfl
    have HO := Lib.hid hown
    have P0 := Lib.hid b0
    have hsz : w.heap.size + 1 ≤ wr.heap.size := b0.lt
    clear hown b0
    by_cases hlt : k < N
    · have i1 : (k : Int) < (N : Int) := by omega
      obtain ⟨⟨p1, p2⟩, p3, p4⟩ := HP.out k hlt
      have HM := Lib.hid (spM_succ wm r N k)
      have hll : (spM wm r N k).length ≤ 134217728 := by rw [spM_length]; omega
      go_wp2_with (first
        | (go_at_call 52; refine (HQ.out _ _ p3 p4).mono ?_; rintro e w' ⟨rfl, rfl⟩)
        | (at_builtin; refine wpList_app1g rfl _ _ rfl (w.heap.size + 1) _ (spM wm r N k) rfl HO.out _ _ rfl rfl hll hsz ?_; intro v3 w3 hown3 hb3 hg3; have O3 := Lib.hid hown3; have P3 := Lib.hid (P0.out.belowB hb3 (by omega)); have B3 := Below.trans hB (hb3.mono (by omega)); clear hown3 hb3 hg3))
      go_roundw
      case rel => exact ⟨k + 1, by omega, by go_num, by rw [HM.out]; exact O3.out, P3.out, B3⟩
      case measure => simp [intOf]; omega
    · obtain rfl : k = N := by omega
      go_wp2
      go_ret2
      exact ⟨_, rfl, own_mono HO.out (by omega), hB⟩

theorem SpreadHoles_both (wm : Int) (cs : List Int) (r n : Int) : ∃ (rl : List Int) (rc : Int), rl.length ≤ 3000 ∧
    (∀ v w, Sl w v cs → Calls Try.prog 33 #[.agg #[.int .i64 wm, v], .int .i64 r, .int .i64 n] w fun e w' => ∃ v', e = .returned (.tuple #[v', .int .i64 rc]) ∧ w'.ownsRow w.heap.size 2 1 v' rl.length (I64 rl) ∧ Below w.heap.size w w') ∧
    (∀ v w, Sl w v cs → Calls Try.prog 32 #[.agg #[.int .i64 wm, v], .int .i64 r, .int .i64 n] w fun e w' => ∃ v', e = .returned (.tuple #[v', .int .i64 rc]) ∧ w'.ownsRow w.heap.size 2 1 v' rl.length (I64 rl) ∧ Below w.heap.size w w') := by
  cases hs : dvB wm cs with
  | false => exact ⟨[], _, Nat.zero_le _, fun v w hv => SpreadHoles_i1 v cs wm r n w hv hs, fun v w hv => SpreadHoles_s1 v cs wm r n w hv hs⟩
  | true =>
    cases hn : inB n 1 2000 with
    | false => exact ⟨[], _, Nat.zero_le _, fun v w hv => SpreadHoles_i2 v cs wm r n w hv hs hn, fun v w hv => SpreadHoles_s2 v cs wm r n w hv hs hn⟩
    | true =>
      cases hc : hasB cs r with
      | false => exact ⟨[], _, Nat.zero_le _, fun v w hv => SpreadHoles_i3 v cs wm r n w hv hs hn hc, fun v w hv => SpreadHoles_s3 v cs wm r n w hv hs hn hc⟩
      | true =>
        have h := inB_iff.1 hn
        obtain ⟨N, rfl⟩ := Int.eq_ofNat_of_zero_le (show 0 ≤ n by omega)
        exact ⟨spM wm r N N, _, by rw [spM_length]; omega, fun v w hv => SpreadHoles_i0 v cs wm r N w hv hs hn hc, fun v w hv => SpreadHoles_s0 v cs wm r N w hv hs hn hc⟩
end Go.Proofs.Ytlfahiaoekcepaa
