/- The setting of hands: LiftsToRight in the program and in the reference. -/
import Derived.Test.YtfddibdncniekaaDoorHnR
namespace Go.Proofs.YtfddibdncniekaaDoor
open Go.RowKit
attribute [local go_sem ↓] Go.wp_at_zero Go.wp_at_succ

/-- None of the first k lifts is right. -/
def NoLift (gs : List Int) (h q : Int) (k : Nat) : Prop := ∀ j, j < k → rgB gs h (qK gs q j) = false
theorem NoLift.zero (gs : List Int) (h q : Int) : NoLift gs h q 0 := fun _ h => absurd h (Nat.not_lt_zero _)
theorem NoLift.succ {gs : List Int} {h q : Int} {k : Nat} (h0 : NoLift gs h q k) (he : rgB gs h (qK gs q k) = false) : NoLift gs h q (k + 1) := fun j hj => by
  rcases Nat.lt_or_ge j k with h1 | h1
  · exact h0 j h1
  · have : j = k := by omega
    subst this; exact he
theorem lift_first (gs : List Int) (h q : Int) (m : Nat) : NoLift gs h q m ∨ ∃ k, k < m ∧ rgB gs h (qK gs q k) = true ∧ NoLift gs h q k := by
  induction m with
  | zero => exact .inl (NoLift.zero _ _ _)
  | succ m ih =>
    rcases ih with h1 | ⟨k, h1, h2, h3⟩
    · cases hf : rgB gs h (qK gs q m) with
      | true => exact .inr ⟨m, by omega, hf, h1⟩
      | false => exact .inl (h1.succ hf)
    · exact .inr ⟨k, by omega, h2, h3⟩
theorem hsB_Q {gs : List Int} (h1 : 1 ≤ gs.length) {h : Int} (hh : 0 ≤ h ∧ h ≤ 11) (q : Int) (k : Nat) : hsB gs h (qK gs q k) = true := by
  have := qK_in h1 q k
  exact hsB_iff.2 ⟨hh, by omega, by omega⟩
theorem act_l_K (v : Value) (gs : List Int) (h q : Int) (k : Nat) (w : World) (hv : Sl w v gs) (h1 : 1 ≤ gs.length) (hh : 0 ≤ h ∧ h ≤ 11) :
    Calls Tryd.prog 57 #[.agg #[v], .agg #[.int .i64 h, .int .i64 (qK gs q k)], .int .u8 108] w fun e w' => (∃ x : Int, e = .returned (.tuple #[.agg #[.int .i64 h, .int .i64 (qK gs q (k + 1))], .int .i64 x])) ∧ Below w.heap.size w w' := by
  have e := act_l v gs h (qK gs q k) w hv h1 (hsB_Q h1 hh q k)
  rw [qK_succ] at e
  exact e.mono fun _ _ ⟨he, hb⟩ => ⟨⟨_, he⟩, hb⟩
theorem l23Step_l_K (v : Value) (gs : List Int) (h q : Int) (k : Nat) (w : World) (hv : Sl w v gs) (h1 : 1 ≤ gs.length) (hh : 0 ≤ h ∧ h ≤ 11) :
    Calls Tryd.prog 54 #[.agg #[v], .agg #[.int .i64 h, .int .i64 (qK gs q k)], .int .u8 108] w fun e w' => (∃ x : Int, e = .returned (.tuple #[.agg #[.int .i64 h, .int .i64 (qK gs q (k + 1))], .int .i64 x])) ∧ Below w.heap.size w w' := by
  have e := l23Step_l v gs h (qK gs q k) w hv h1 (hsB_Q h1 hh q k)
  rw [qK_succ] at e
  exact e.mono fun _ _ ⟨he, hb⟩ => ⟨⟨_, he⟩, hb⟩
set_option maxHeartbeats 4000000 in
theorem LiftsToRight_i1 (v : Value) (gs : List Int) (h q : Int) (w : World) (hv : Sl w v gs) (hs : hnB gs h q = false) :
    Calls Tryd.prog 37 #[.agg #[v], .agg #[.int .i64 h, .int .i64 q]] w fun e w' => e = .returned (.tuple #[.int .i64 0, .int .i64 1]) ∧ Below w.heap.size w w' := by
  have H1 := Lib.hid (fun w' (hb : Below w.heap.size w w') => ValidHands_i v gs h q w' (hv.below hb))
  have HB := Lib.hid hs
  clear hv hs
  go_enter Tryd.func37, Tryd.ntmps37
  go_wp2_with fail
  refine (H1.out _ (by go_grown)).mono ?_
  rintro e w1 ⟨rfl, hb⟩
  rw [HB.out]
  go_wp2
  go_ret2
  exact ⟨rfl, Below.trans (by go_grown) (hb.mono (by simp; omega))⟩
set_option maxHeartbeats 4000000 in
theorem LiftsToRight_s1 (v : Value) (gs : List Int) (h q : Int) (w : World) (hv : Sl w v gs) (hs : hnB gs h q = false) :
    Calls Tryd.prog 38 #[.agg #[v], .agg #[.int .i64 h, .int .i64 q]] w fun e w' => e = .returned (.tuple #[.int .i64 0, .int .i64 1]) ∧ Below w.heap.size w w' := by
  have H1 := Lib.hid (fun w' (hb : Below w.heap.size w w') => l23Ok_s v gs h q w' (hv.below hb))
  have HB := Lib.hid hs
  clear hv hs
  go_enter Tryd.func38, Tryd.ntmps38
  go_wp2_with fail
  refine (H1.out _ (by go_grown)).mono ?_
  rintro e w1 ⟨rfl, hb⟩
  rw [HB.out]
  go_wp2
  go_ret2
  exact ⟨rfl, Below.trans (by go_grown) (hb.mono (by simp; omega))⟩
set_option maxHeartbeats 4000000 in
theorem LiftsToRight_i3 (v : Value) (gs : List Int) (h q : Int) (w : World) (hv : Sl w v gs) (hs : hnB gs h q = true) (hno : NoLift gs h q gs.length) :
    Calls Tryd.prog 37 #[.agg #[v], .agg #[.int .i64 h, .int .i64 q]] w fun e w' => e = .returned (.tuple #[.int .i64 0, .int .i64 3]) ∧ Below w.heap.size w w' := by
  have H1 := Lib.hid (fun w' (hb : Below w.heap.size w w') => ValidHands_i v gs h q w' (hv.below hb))
  have HB := Lib.hid hs
  obtain ⟨hw, hss⟩ := hnB_iff.1 hs
  obtain ⟨hh, g3, g4⟩ := hsB_iff.1 hss
  obtain ⟨_, h1, hl⟩ := whB_iff.1 hw
  have H2 := Lib.hid (fun k w' (hb : Below w.heap.size w w') => isRight_any v gs h (qK gs q k) w' (hv.below hb) hw (hsB_Q h1 hh q k))
  have H3 := Lib.hid (fun k w' (hb : Below w.heap.size w w') => act_l_K v gs h q k w' (hv.below hb) h1 hh)
  have HQ := Lib.hid (qK_zero g3 (show q < (gs.length : Int) by omega))
  have HNO := Lib.hid hno
  obtain ⟨A, c, rfl, hac, hac', _⟩ := hv.open_
  clear hv hs hw hss hno
  go_enter Tryd.func37, Tryd.ntmps37
  obtain ⟨k0, k1⟩ := bx2 w 31 28 #[.slice A gs.length c] #[.int .i64 h, .int .i64 q]
  have HK0 := Lib.hid k0
  have HK1 := Lib.hid k1
  clear k0 k1
  go_wp2_with fail
  refine (H1.out _ (by go_grown)).mono ?_
  rintro e w1 ⟨rfl, hb1⟩
  rw [HB.out]
  have J0 := Lib.hid (HK0.out.below hb1)
  have J1 := Lib.hid (HK1.out.below hb1)
  have q0 := J0.out.cell 0 rfl
  have B1 : Below w.heap.size w w1 := Below.trans (by go_grown) (hb1.mono (by simp; omega))
  clear hb1 HK0 HK1
  go_wp2_with fail
  go_loopw [14] (fun i wr => ∃ k : Nat, k ≤ gs.length ∧ i = .int .i64 k ∧ Blk wr w.heap.size 31 #[.slice A gs.length c] ∧ Blk wr (w.heap.size + 1) 28 #[.int .i64 h, .int .i64 (qK gs q k)] ∧ Below w.heap.size w wr) (fun i _ => gs.length - (intOf i).toNat)
  case atStart => exact ⟨0, Nat.zero_le _, rfl, J0.out, by rw [HQ.out]; exact J1.out, B1⟩
  case round =>
    obtain ⟨k, hk, rfl, b0, b1, hB⟩ := hrel
    have q0 := b0.cell 0 rfl
    have q1 := b1.cell 0 rfl
    have q2 := b1.cell 1 rfl
    have P0 := Lib.hid b0
    have P1 := Lib.hid b1
    clear b0 b1
    by_cases hkk : k < gs.length
    · skip
      have i1 : (k : Int) < (gs.length : Int) := by omega
      go_wp2_with fail
      refine (H2.out k _ hB).mono ?_
      rintro e w2 ⟨rfl, hb2⟩
      rw [HNO.out k hkk]
      have G0 := Lib.hid (P0.out.below hb2)
      have G1 := Lib.hid (P1.out.below hb2)
      have B2 := hB.trans (hb2.mono hB.size)
      have q0 := G0.out.cell 0 rfl
      have q1 := G1.out.cell 0 rfl
      have q2 := G1.out.cell 1 rfl
      clear hb2 hB P0 P1
      go_wp2_with fail
      refine (H3.out k _ B2).mono ?_
      rintro e w3 ⟨⟨x, rfl⟩, hb3⟩
      have b0 := G0.out.below hb3
      have b1 := G1.out.below hb3
      have B3 := B2.trans (hb3.mono B2.size)
      have q1 := b1.cell 0 rfl
      have q2 := b1.cell 1 rfl
      have f1 := b1.frozen 0
      have f2 := b1.frozen 1
      have z1 := b1.lt
      have M0 := Lib.hid b0
      have M1 := Lib.hid b1
      clear b0 b1 hb3 B2 G0 G1
      go_wp2
      go_roundw
      case rel =>
        refine ⟨k + 1, by omega, by go_num, ?_, ?_, ?_⟩
        · refine Blk.far (Blk.far M0.out ?_ _) ?_ _ <;> simp
        · exact Blk.put2 M1.out _ _
        · go_grown
      case measure => simp [intOf]; omega

    · obtain rfl : k = gs.length := by omega
      go_wp2
      go_ret2
      exact ⟨rfl, hB⟩
set_option maxHeartbeats 4000000 in
theorem LiftsToRight_s3 (v : Value) (gs : List Int) (h q : Int) (w : World) (hv : Sl w v gs) (hs : hnB gs h q = true) (hno : NoLift gs h q gs.length) :
    Calls Tryd.prog 38 #[.agg #[v], .agg #[.int .i64 h, .int .i64 q]] w fun e w' => e = .returned (.tuple #[.int .i64 0, .int .i64 3]) ∧ Below w.heap.size w w' := by
  have H1 := Lib.hid (fun w' (hb : Below w.heap.size w w') => l23Ok_s v gs h q w' (hv.below hb))
  have HB := Lib.hid hs
  obtain ⟨hw, hss⟩ := hnB_iff.1 hs
  obtain ⟨hh, g3, g4⟩ := hsB_iff.1 hss
  obtain ⟨_, h1, hl⟩ := whB_iff.1 hw
  have H2 := Lib.hid (fun k w' (hb : Below w.heap.size w w') => l23Right_any v gs h (qK gs q k) w' (hv.below hb) hw (hsB_Q h1 hh q k))
  have H3 := Lib.hid (fun k w' (hb : Below w.heap.size w w') => l23Step_l_K v gs h q k w' (hv.below hb) h1 hh)
  have HQ := Lib.hid (qK_zero g3 (show q < (gs.length : Int) by omega))
  have HNO := Lib.hid hno
  obtain ⟨A, c, rfl, hac, hac', _⟩ := hv.open_
  clear hv hs hw hss hno
  go_enter Tryd.func38, Tryd.ntmps38
  obtain ⟨k0, k1⟩ := bx2 w 31 28 #[.slice A gs.length c] #[.int .i64 h, .int .i64 q]
  have HK0 := Lib.hid k0
  have HK1 := Lib.hid k1
  clear k0 k1
  go_wp2_with fail
  refine (H1.out _ (by go_grown)).mono ?_
  rintro e w1 ⟨rfl, hb1⟩
  rw [HB.out]
  have J0 := Lib.hid (HK0.out.below hb1)
  have J1 := Lib.hid (HK1.out.below hb1)
  have q0 := J0.out.cell 0 rfl
  have B1 : Below w.heap.size w w1 := Below.trans (by go_grown) (hb1.mono (by simp; omega))
  clear hb1 HK0 HK1
  go_wp2_with fail
  go_loopw [6] (fun i wr => ∃ k : Nat, k ≤ gs.length ∧ i = .int .i64 k ∧ Blk wr w.heap.size 31 #[.slice A gs.length c] ∧ Blk wr (w.heap.size + 1) 28 #[.int .i64 h, .int .i64 (qK gs q k)] ∧ Below w.heap.size w wr) (fun i _ => gs.length - (intOf i).toNat)
  case atStart => exact ⟨0, Nat.zero_le _, rfl, J0.out, by rw [HQ.out]; exact J1.out, B1⟩
  case round =>
    obtain ⟨k, hk, rfl, b0, b1, hB⟩ := hrel
    have q0 := b0.cell 0 rfl
    have q1 := b1.cell 0 rfl
    have q2 := b1.cell 1 rfl
    have P0 := Lib.hid b0
    have P1 := Lib.hid b1
    clear b0 b1
    by_cases hkk : k < gs.length
    · skip
      have i1 : (k : Int) < (gs.length : Int) := by omega
      go_wp2_with fail
      refine (H2.out k _ hB).mono ?_
      rintro e w2 ⟨rfl, hb2⟩
      rw [HNO.out k hkk]
      have G0 := Lib.hid (P0.out.below hb2)
      have G1 := Lib.hid (P1.out.below hb2)
      have B2 := hB.trans (hb2.mono hB.size)
      have q0 := G0.out.cell 0 rfl
      have q1 := G1.out.cell 0 rfl
      have q2 := G1.out.cell 1 rfl
      clear hb2 hB P0 P1
      go_wp2_with fail
      refine (H3.out k _ B2).mono ?_
      rintro e w3 ⟨⟨x, rfl⟩, hb3⟩
      have b0 := G0.out.below hb3
      have b1 := G1.out.below hb3
      have B3 := B2.trans (hb3.mono B2.size)
      have q1 := b1.cell 0 rfl
      have q2 := b1.cell 1 rfl
      have f1 := b1.frozen 0
      have f2 := b1.frozen 1
      have z1 := b1.lt
      have M0 := Lib.hid b0
      have M1 := Lib.hid b1
      clear b0 b1 hb3 B2 G0 G1
      go_wp2
      go_roundw
      case rel =>
        refine ⟨k + 1, by omega, by go_num, ?_, ?_, ?_⟩
        · refine Blk.alloc (Blk.far (Blk.far M0.out ?_ _) ?_ _) _ <;> simp
        · exact Blk.alloc (Blk.put2 M1.out _ _) _
        · go_grown
      case measure => simp [intOf]; omega

    · obtain rfl : k = gs.length := by omega
      go_wp2
      go_ret2
      exact ⟨rfl, hB⟩
set_option maxHeartbeats 4000000 in
theorem LiftsToRight_i0 (v : Value) (gs : List Int) (h q : Int) (w : World) (hv : Sl w v gs) (hs : hnB gs h q = true) (K : Nat) (hK : K < gs.length) (hf : rgB gs h (qK gs q K) = true) (hno : NoLift gs h q K) :
    Calls Tryd.prog 37 #[.agg #[v], .agg #[.int .i64 h, .int .i64 q]] w fun e w' => e = .returned (.tuple #[.int .i64 K, .int .i64 0]) ∧ Below w.heap.size w w' := by
  have H1 := Lib.hid (fun w' (hb : Below w.heap.size w w') => ValidHands_i v gs h q w' (hv.below hb))
  have HB := Lib.hid hs
  obtain ⟨hw, hss⟩ := hnB_iff.1 hs
  obtain ⟨hh, g3, g4⟩ := hsB_iff.1 hss
  obtain ⟨_, h1, hl⟩ := whB_iff.1 hw
  have H2 := Lib.hid (fun k w' (hb : Below w.heap.size w w') => isRight_any v gs h (qK gs q k) w' (hv.below hb) hw (hsB_Q h1 hh q k))
  have H3 := Lib.hid (fun k w' (hb : Below w.heap.size w w') => act_l_K v gs h q k w' (hv.below hb) h1 hh)
  have HQ := Lib.hid (qK_zero g3 (show q < (gs.length : Int) by omega))
  have HNO := Lib.hid hno
  have HF := Lib.hid hf
  clear hf
  obtain ⟨A, c, rfl, hac, hac', _⟩ := hv.open_
  clear hv hs hw hss hno
  go_enter Tryd.func37, Tryd.ntmps37
  obtain ⟨k0, k1⟩ := bx2 w 31 28 #[.slice A gs.length c] #[.int .i64 h, .int .i64 q]
  have HK0 := Lib.hid k0
  have HK1 := Lib.hid k1
  clear k0 k1
  go_wp2_with fail
  refine (H1.out _ (by go_grown)).mono ?_
  rintro e w1 ⟨rfl, hb1⟩
  rw [HB.out]
  have J0 := Lib.hid (HK0.out.below hb1)
  have J1 := Lib.hid (HK1.out.below hb1)
  have q0 := J0.out.cell 0 rfl
  have B1 : Below w.heap.size w w1 := Below.trans (by go_grown) (hb1.mono (by simp; omega))
  clear hb1 HK0 HK1
  go_wp2_with fail
  go_loopw [14] (fun i wr => ∃ k : Nat, k ≤ K ∧ i = .int .i64 k ∧ Blk wr w.heap.size 31 #[.slice A gs.length c] ∧ Blk wr (w.heap.size + 1) 28 #[.int .i64 h, .int .i64 (qK gs q k)] ∧ Below w.heap.size w wr) (fun i _ => gs.length - (intOf i).toNat)
  case atStart => exact ⟨0, Nat.zero_le _, rfl, J0.out, by rw [HQ.out]; exact J1.out, B1⟩
  case round =>
    obtain ⟨k, hk, rfl, b0, b1, hB⟩ := hrel
    have q0 := b0.cell 0 rfl
    have q1 := b1.cell 0 rfl
    have q2 := b1.cell 1 rfl
    have P0 := Lib.hid b0
    have P1 := Lib.hid b1
    clear b0 b1
    by_cases hkk : k < K
    · skip
      have i1 : (k : Int) < (gs.length : Int) := by omega
      go_wp2_with fail
      refine (H2.out k _ hB).mono ?_
      rintro e w2 ⟨rfl, hb2⟩
      rw [HNO.out k hkk]
      have G0 := Lib.hid (P0.out.below hb2)
      have G1 := Lib.hid (P1.out.below hb2)
      have B2 := hB.trans (hb2.mono hB.size)
      have q0 := G0.out.cell 0 rfl
      have q1 := G1.out.cell 0 rfl
      have q2 := G1.out.cell 1 rfl
      clear hb2 hB P0 P1
      go_wp2_with fail
      refine (H3.out k _ B2).mono ?_
      rintro e w3 ⟨⟨x, rfl⟩, hb3⟩
      have b0 := G0.out.below hb3
      have b1 := G1.out.below hb3
      have B3 := B2.trans (hb3.mono B2.size)
      have q1 := b1.cell 0 rfl
      have q2 := b1.cell 1 rfl
      have f1 := b1.frozen 0
      have f2 := b1.frozen 1
      have z1 := b1.lt
      have M0 := Lib.hid b0
      have M1 := Lib.hid b1
      clear b0 b1 hb3 B2 G0 G1
      go_wp2
      go_roundw
      case rel =>
        refine ⟨k + 1, by omega, by go_num, ?_, ?_, ?_⟩
        · refine Blk.far (Blk.far M0.out ?_ _) ?_ _ <;> simp
        · exact Blk.put2 M1.out _ _
        · go_grown
      case measure => simp [intOf]; omega

    · obtain rfl : k = K := by omega
      have i1 : (k : Int) < (gs.length : Int) := by omega
      go_wp2_with fail
      refine (H2.out k _ hB).mono ?_
      rintro e w2 ⟨rfl, hb2⟩
      rw [HF.out]
      have G0 := Lib.hid (P0.out.below hb2)
      have G1 := Lib.hid (P1.out.below hb2)
      have B2 := hB.trans (hb2.mono hB.size)
      have q0 := G0.out.cell 0 rfl
      have q1 := G1.out.cell 0 rfl
      have q2 := G1.out.cell 1 rfl
      clear hb2 hB P0 P1

      go_wp2
      go_ret2
      exact ⟨rfl, B2⟩
set_option maxHeartbeats 4000000 in
theorem LiftsToRight_s0 (v : Value) (gs : List Int) (h q : Int) (w : World) (hv : Sl w v gs) (hs : hnB gs h q = true) (K : Nat) (hK : K < gs.length) (hf : rgB gs h (qK gs q K) = true) (hno : NoLift gs h q K) :
    Calls Tryd.prog 38 #[.agg #[v], .agg #[.int .i64 h, .int .i64 q]] w fun e w' => e = .returned (.tuple #[.int .i64 K, .int .i64 0]) ∧ Below w.heap.size w w' := by
  have H1 := Lib.hid (fun w' (hb : Below w.heap.size w w') => l23Ok_s v gs h q w' (hv.below hb))
  have HB := Lib.hid hs
  obtain ⟨hw, hss⟩ := hnB_iff.1 hs
  obtain ⟨hh, g3, g4⟩ := hsB_iff.1 hss
  obtain ⟨_, h1, hl⟩ := whB_iff.1 hw
  have H2 := Lib.hid (fun k w' (hb : Below w.heap.size w w') => l23Right_any v gs h (qK gs q k) w' (hv.below hb) hw (hsB_Q h1 hh q k))
  have H3 := Lib.hid (fun k w' (hb : Below w.heap.size w w') => l23Step_l_K v gs h q k w' (hv.below hb) h1 hh)
  have HQ := Lib.hid (qK_zero g3 (show q < (gs.length : Int) by omega))
  have HNO := Lib.hid hno
  have HF := Lib.hid hf
  clear hf
  obtain ⟨A, c, rfl, hac, hac', _⟩ := hv.open_
  clear hv hs hw hss hno
  go_enter Tryd.func38, Tryd.ntmps38
  obtain ⟨k0, k1⟩ := bx2 w 31 28 #[.slice A gs.length c] #[.int .i64 h, .int .i64 q]
  have HK0 := Lib.hid k0
  have HK1 := Lib.hid k1
  clear k0 k1
  go_wp2_with fail
  refine (H1.out _ (by go_grown)).mono ?_
  rintro e w1 ⟨rfl, hb1⟩
  rw [HB.out]
  have J0 := Lib.hid (HK0.out.below hb1)
  have J1 := Lib.hid (HK1.out.below hb1)
  have q0 := J0.out.cell 0 rfl
  have B1 : Below w.heap.size w w1 := Below.trans (by go_grown) (hb1.mono (by simp; omega))
  clear hb1 HK0 HK1
  go_wp2_with fail
  go_loopw [6] (fun i wr => ∃ k : Nat, k ≤ K ∧ i = .int .i64 k ∧ Blk wr w.heap.size 31 #[.slice A gs.length c] ∧ Blk wr (w.heap.size + 1) 28 #[.int .i64 h, .int .i64 (qK gs q k)] ∧ Below w.heap.size w wr) (fun i _ => gs.length - (intOf i).toNat)
  case atStart => exact ⟨0, Nat.zero_le _, rfl, J0.out, by rw [HQ.out]; exact J1.out, B1⟩
  case round =>
    obtain ⟨k, hk, rfl, b0, b1, hB⟩ := hrel
    have q0 := b0.cell 0 rfl
    have q1 := b1.cell 0 rfl
    have q2 := b1.cell 1 rfl
    have P0 := Lib.hid b0
    have P1 := Lib.hid b1
    clear b0 b1
    by_cases hkk : k < K
    · skip
      have i1 : (k : Int) < (gs.length : Int) := by omega
      go_wp2_with fail
      refine (H2.out k _ hB).mono ?_
      rintro e w2 ⟨rfl, hb2⟩
      rw [HNO.out k hkk]
      have G0 := Lib.hid (P0.out.below hb2)
      have G1 := Lib.hid (P1.out.below hb2)
      have B2 := hB.trans (hb2.mono hB.size)
      have q0 := G0.out.cell 0 rfl
      have q1 := G1.out.cell 0 rfl
      have q2 := G1.out.cell 1 rfl
      clear hb2 hB P0 P1
      go_wp2_with fail
      refine (H3.out k _ B2).mono ?_
      rintro e w3 ⟨⟨x, rfl⟩, hb3⟩
      have b0 := G0.out.below hb3
      have b1 := G1.out.below hb3
      have B3 := B2.trans (hb3.mono B2.size)
      have q1 := b1.cell 0 rfl
      have q2 := b1.cell 1 rfl
      have f1 := b1.frozen 0
      have f2 := b1.frozen 1
      have z1 := b1.lt
      have M0 := Lib.hid b0
      have M1 := Lib.hid b1
      clear b0 b1 hb3 B2 G0 G1
      go_wp2
      go_roundw
      case rel =>
        refine ⟨k + 1, by omega, by go_num, ?_, ?_, ?_⟩
        · refine Blk.alloc (Blk.far (Blk.far M0.out ?_ _) ?_ _) _ <;> simp
        · exact Blk.alloc (Blk.put2 M1.out _ _) _
        · go_grown
      case measure => simp [intOf]; omega

    · obtain rfl : k = K := by omega
      have i1 : (k : Int) < (gs.length : Int) := by omega
      go_wp2_with fail
      refine (H2.out k _ hB).mono ?_
      rintro e w2 ⟨rfl, hb2⟩
      rw [HF.out]
      have G0 := Lib.hid (P0.out.below hb2)
      have G1 := Lib.hid (P1.out.below hb2)
      have B2 := hB.trans (hb2.mono hB.size)
      have q0 := G0.out.cell 0 rfl
      have q1 := G1.out.cell 0 rfl
      have q2 := G1.out.cell 1 rfl
      clear hb2 hB P0 P1

      go_wp2
      go_ret2
      exact ⟨rfl, B2⟩
theorem LiftsToRight_both (gs : List Int) (h q : Int) : ∃ ra rb : Int,
    (∀ v w, Sl w v gs → Calls Tryd.prog 37 #[.agg #[v], .agg #[.int .i64 h, .int .i64 q]] w fun e w' => e = .returned (.tuple #[.int .i64 ra, .int .i64 rb]) ∧ Below w.heap.size w w') ∧
    (∀ v w, Sl w v gs → Calls Tryd.prog 38 #[.agg #[v], .agg #[.int .i64 h, .int .i64 q]] w fun e w' => e = .returned (.tuple #[.int .i64 ra, .int .i64 rb]) ∧ Below w.heap.size w w') := by
  cases hs : hnB gs h q with
  | false => exact ⟨_, _, fun v w hv => LiftsToRight_i1 v gs h q w hv hs, fun v w hv => LiftsToRight_s1 v gs h q w hv hs⟩
  | true =>
    rcases lift_first gs h q gs.length with hno | ⟨K, hK, hf, hno⟩
    · exact ⟨_, _, fun v w hv => LiftsToRight_i3 v gs h q w hv hs hno, fun v w hv => LiftsToRight_s3 v gs h q w hv hs hno⟩
    · exact ⟨_, _, fun v w hv => LiftsToRight_i0 v gs h q w hv hs K hK hf hno, fun v w hv => LiftsToRight_s0 v gs h q w hv hs K hK hf hno⟩
end Go.Proofs.YtfddibdncniekaaDoor
