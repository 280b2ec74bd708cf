/- The setting of hands: which states strike rightly (StrikesRight), in the program and in the reference. -/
import Derived.Test.YtfddibdncniekaaDoorHnA
namespace Go.Proofs.YtfddibdncniekaaDoor
open Go.RowKit
attribute [local go_sem ↓] Go.wp_at_zero Go.wp_at_succ

/-- The hour and the notch after k hours. -/
def hK (h : Int) (k : Nat) : Int := (h + (k : Int)) % 12
def qK (gs : List Int) (q : Int) (k : Nat) : Int := (q + (k : Int)) % (gs.length : Int)
theorem hK_zero {h : Int} (h1 : 0 ≤ h ∧ h ≤ 11) : hK h 0 = h := by unfold hK; omega
theorem hK_in (h : Int) (k : Nat) : 0 ≤ hK h k ∧ hK h k ≤ 11 := by unfold hK; omega
theorem hK_succ (h : Int) (k : Nat) : inH (hK h k) = hK h (k + 1) := by unfold inH hK; omega
theorem qK_zero {gs : List Int} {q : Int} (h1 : 0 ≤ q) (h2 : q < (gs.length : Int)) : qK gs q 0 = q := by simp [qK, Int.emod_eq_of_lt h1 h2]
theorem qK_in {gs : List Int} (h : 1 ≤ gs.length) (q : Int) (k : Nat) : 0 ≤ qK gs q k ∧ qK gs q k < gs.length := ⟨(gap_ix h (q + k)).1, (gap_ix h (q + k)).2.1⟩
theorem qK_succ (gs : List Int) (q : Int) (k : Nat) : nxQ gs (qK gs q k) = qK gs q (k + 1) := by
  rw [nxQ, qK, qK, Int.emod_add_emod]
  congr 1
  omega
theorem gap_qK (gs : List Int) (q : Int) (k : Nat) : gapM gs (qK gs q k) = gapM gs (q + (k : Int)) := by rw [gapM, gapM, qK, Int.emod_emod]
theorem hsB_K {gs : List Int} (h1 : 1 ≤ gs.length) (h q : Int) (k : Nat) : hsB gs (hK h k) (qK gs q k) = true := by
  have := hK_in h k
  have := qK_in h1 q k
  exact hsB_iff.2 ⟨⟨by omega, by omega⟩, by omega, by omega⟩
/-- Hour k + 1 is struck rightly. -/
def Rg (gs : List Int) (h q : Int) (k : Nat) : Prop := gapM gs (q + (k : Int)) % 12 = hK h (k + 1)
instance (gs : List Int) (h q : Int) (k : Nat) : Decidable (Rg gs h q k) := inferInstanceAs (Decidable (_ = _))
def RgTo (gs : List Int) (h q : Int) (k : Nat) : Prop := ∀ j, j < k → Rg gs h q j
instance (gs : List Int) (h q : Int) (k : Nat) : Decidable (RgTo gs h q k) := inferInstanceAs (Decidable (∀ j, j < k → Rg gs h q j))
theorem RgTo.zero (gs : List Int) (h q : Int) : RgTo gs h q 0 := fun _ h => absurd h (Nat.not_lt_zero _)
theorem RgTo.succ {gs : List Int} {h q : Int} {k : Nat} (h0 : RgTo gs h q k) (he : Rg gs h q k) : RgTo gs h q (k + 1) := fun j hj => by
  rcases Nat.lt_or_ge j k with h1 | h1
  · exact h0 j h1
  · have : j = k := by omega
    subst this; exact he
def rgB (gs : List Int) (h q : Int) : Bool := decide (RgTo gs h q (12 * gs.length))
theorem rg_f {gs : List Int} {h q : Int} {k : Nat} (hk : k < 12 * gs.length) (hn : ¬ Rg gs h q k) : rgB gs h q = false := decide_eq_false fun e => hn (e k hk)
theorem rg_t {gs : List Int} {h q : Int} {k : Nat} (h0 : RgTo gs h q k) (hk : 12 * gs.length ≤ k) : rgB gs h q = true := decide_eq_true fun j hj => h0 j (by omega)

theorem act_f_K (v : Value) (gs : List Int) (h q : Int) (k : Nat) (w : World) (hv : Sl w v gs) (h1 : 1 ≤ gs.length) :
    Calls Tryd.prog 57 #[.agg #[v], .agg #[.int .i64 (hK h k), .int .i64 (qK gs q k)], .int .u8 102] w fun e w' => e = .returned (.tuple #[.agg #[.int .i64 (hK h (k + 1)), .int .i64 (qK gs q (k + 1))], .int .i64 (gapM gs (q + (k : Int)))]) ∧ Below w.heap.size w w' := by
  have e := act_f v gs (hK h k) (qK gs q k) w hv h1 (hsB_K h1 h q k)
  rw [hK_succ, qK_succ, gap_qK] at e
  exact e
set_option maxHeartbeats 8000000 in
theorem isRight_any (v : Value) (gs : List Int) (h q : Int) (w : World) (hv : Sl w v gs) (hw : whB gs = true) (hs : hsB gs h q = true) :
    Calls Tryd.prog 63 #[.agg #[v], .agg #[.int .i64 h, .int .i64 q]] w fun e w' => e = .returned (.bool (rgB gs h q)) ∧ Below w.heap.size w w' := by
  obtain ⟨⟨g1, g2⟩, g3, g4⟩ := hsB_iff.1 hs
  obtain ⟨_, h1, hl⟩ := whB_iff.1 hw
  have H2 := Lib.hid (fun k w' (hb : Below w.heap.size w w') => act_f_K v gs h q k w' (hv.below hb) h1)
  have HG := Lib.hid (fun k : Int => gapM_in hw k)
  have HH := Lib.hid (hK_zero ⟨g1, g2⟩)
  have HQ := Lib.hid (qK_zero g3 (show q < (gs.length : Int) by omega))
  obtain ⟨A, c, rfl, hac, hac', _⟩ := hv.open_
  have l1 : (1 : Int) ≤ (gs.length : Int) := by omega
  have l2 : (gs.length : Int) ≤ 24 := by omega
  clear hv hw hs
  go_enter Tryd.func63, Tryd.ntmps63
  obtain ⟨k0, k1⟩ := bx2 w 31 28 #[.slice A gs.length c] #[.int .i64 h, .int .i64 q]
  have HK0 := Lib.hid k0
  have HK1 := Lib.hid k1
  clear k0 k1
  go_wp2_with fail
  go_loopw [5] (fun i wr => ∃ k : Nat, k ≤ 12 * gs.length ∧ i = .int .i64 ((12 * gs.length : Int) - (k : Int)) ∧ RgTo gs h q k ∧ Blk wr w.heap.size 31 #[.slice A gs.length c] ∧ Blk wr (w.heap.size + 1) 28 #[.int .i64 (hK h k), .int .i64 (qK gs q k)] ∧ Below w.heap.size w wr) (fun i _ => (intOf i).toNat)
  case atStart => exact ⟨0, Nat.zero_le _, by go_num, RgTo.zero _ _ _, HK0.out, by rw [HH.out, HQ.out]; exact HK1.out, by go_grown⟩
  case round =>
    obtain ⟨k, hk, rfl, hup, b0, b1, hB⟩ := hrel
    have q0 := b0.cell 0 rfl
    have q1 := b1.cell 0 rfl
    have q2 := b1.cell 1 rfl
    have P0 := Lib.hid b0
    have P1 := Lib.hid b1
    have HU := Lib.hid hup
    clear b0 b1 hup
    by_cases hlt : k < 12 * gs.length
    · have i1 : (0 : Int) < 12 * (gs.length : Int) - (k : Int) := by omega
      have i2 : (k : Int) < 12 * (gs.length : Int) := by omega
      obtain ⟨p1, p2⟩ := HG.out (q + (k : Int))
      obtain ⟨p3, p4⟩ := hK_in h (k + 1)
      go_wp2_with fail
      refine (H2.out k _ hB).mono ?_
      rintro e w2 ⟨rfl, hb2⟩
      have b0 := P0.out.below hb2
      have b1 := P1.out.below hb2
      have B2 := hB.trans (hb2.mono hB.size)
      have q1 := b1.cell 0 rfl
      have q2 := b1.cell 1 rfl
      have f1 := b1.frozen 0
      have f2 := b1.frozen 1
      have z1 := b1.lt
      have G0 := Lib.hid b0
      have G1 := Lib.hid b1
      clear b0 b1 hb2 hB P0 P1
      by_cases hr : Rg gs h q k
      · have HU2 := Lib.hid (HU.out.succ hr)
        have hbq : (gapM gs (q + (k : Int)) % 12 != hK h (k + 1)) = false := by unfold Rg at hr; simp [hr]
        clear hr
        go_wp2
        go_roundw
        case rel =>
          refine ⟨k + 1, by omega, by go_num, HU2.out, ?_, ?_, ?_⟩
          · refine Blk.alloc (Blk.far (Blk.far G0.out ?_ _) ?_ _) _ <;> simp
          · exact Blk.alloc (Blk.put2 G1.out _ _) _
          · go_grown
        case measure => simp [intOf]; omega

      · have HR := Lib.hid (rg_f hlt hr)
        have hbq : (gapM gs (q + (k : Int)) % 12 != hK h (k + 1)) = true := by unfold Rg at hr; simpa using hr
        clear hr
        go_wp2
        go_ret
        exact ⟨ret_b HR.out.symm, by go_grown⟩
    · have HR := Lib.hid (rg_t HU.out (by omega : 12 * gs.length ≤ k))
      go_wp2
      go_ret
      exact ⟨ret_b HR.out.symm, hB⟩

theorem l23Step_f_K (v : Value) (gs : List Int) (h q : Int) (k : Nat) (w : World) (hv : Sl w v gs) (h1 : 1 ≤ gs.length) :
    Calls Tryd.prog 54 #[.agg #[v], .agg #[.int .i64 (hK h k), .int .i64 (qK gs q k)], .int .u8 102] w fun e w' => e = .returned (.tuple #[.agg #[.int .i64 (hK h (k + 1)), .int .i64 (qK gs q (k + 1))], .int .i64 (gapM gs (q + (k : Int)))]) ∧ Below w.heap.size w w' := by
  have e := l23Step_f v gs (hK h k) (qK gs q k) w hv h1 (hsB_K h1 h q k)
  rw [hK_succ, qK_succ, gap_qK] at e
  exact e
set_option maxHeartbeats 8000000 in
theorem l23Right_any (v : Value) (gs : List Int) (h q : Int) (w : World) (hv : Sl w v gs) (hw : whB gs = true) (hs : hsB gs h q = true) :
    Calls Tryd.prog 73 #[.agg #[v], .agg #[.int .i64 h, .int .i64 q]] w fun e w' => e = .returned (.bool (rgB gs h q)) ∧ Below w.heap.size w w' := by
  obtain ⟨⟨g1, g2⟩, g3, g4⟩ := hsB_iff.1 hs
  obtain ⟨_, h1, hl⟩ := whB_iff.1 hw
  have H2 := Lib.hid (fun k w' (hb : Below w.heap.size w w') => l23Step_f_K v gs h q k w' (hv.below hb) h1)
  have HG := Lib.hid (fun k : Int => gapM_in hw k)
  have HH := Lib.hid (hK_zero ⟨g1, g2⟩)
  have HQ := Lib.hid (qK_zero g3 (show q < (gs.length : Int) by omega))
  obtain ⟨A, c, rfl, hac, hac', _⟩ := hv.open_
  have l1 : (1 : Int) ≤ (gs.length : Int) := by omega
  have l2 : (gs.length : Int) ≤ 24 := by omega
  clear hv hw hs
  go_enter Tryd.func73, Tryd.ntmps73
  obtain ⟨k0, k1⟩ := bx2 w 31 28 #[.slice A gs.length c] #[.int .i64 h, .int .i64 q]
  have HK0 := Lib.hid k0
  have HK1 := Lib.hid k1
  clear k0 k1
  go_wp2_with fail
  go_loopw [5] (fun i wr => ∃ k : Nat, k ≤ 12 * gs.length ∧ i = .int .i64 (k : Int) ∧ RgTo gs h q k ∧ Blk wr w.heap.size 31 #[.slice A gs.length c] ∧ Blk wr (w.heap.size + 1) 28 #[.int .i64 (hK h k), .int .i64 (qK gs q k)] ∧ Below w.heap.size w wr) (fun i _ => 12 * gs.length - (intOf i).toNat)
  case atStart => exact ⟨0, Nat.zero_le _, by go_num, RgTo.zero _ _ _, HK0.out, by rw [HH.out, HQ.out]; exact HK1.out, by go_grown⟩
  case round =>
    obtain ⟨k, hk, rfl, hup, b0, b1, hB⟩ := hrel
    have q0 := b0.cell 0 rfl
    have q1 := b1.cell 0 rfl
    have q2 := b1.cell 1 rfl
    have P0 := Lib.hid b0
    have P1 := Lib.hid b1
    have HU := Lib.hid hup
    clear b0 b1 hup
    by_cases hlt : k < 12 * gs.length
    · have i1 : (0 : Int) < 12 * (gs.length : Int) - (k : Int) := by omega
      have i2 : (k : Int) < 12 * (gs.length : Int) := by omega
      obtain ⟨p1, p2⟩ := HG.out (q + (k : Int))
      obtain ⟨p3, p4⟩ := hK_in h (k + 1)
      go_wp2_with fail
      refine (H2.out k _ hB).mono ?_
      rintro e w2 ⟨rfl, hb2⟩
      have b0 := P0.out.below hb2
      have b1 := P1.out.below hb2
      have B2 := hB.trans (hb2.mono hB.size)
      have q1 := b1.cell 0 rfl
      have q2 := b1.cell 1 rfl
      have f1 := b1.frozen 0
      have f2 := b1.frozen 1
      have z1 := b1.lt
      have G0 := Lib.hid b0
      have G1 := Lib.hid b1
      clear b0 b1 hb2 hB P0 P1
      by_cases hr : Rg gs h q k
      · have HU2 := Lib.hid (HU.out.succ hr)
        by_cases hz : hK h (k + 1) = 0
        · have z0 : (hK h (k + 1) == 0) = true := by simp [hz]
          have hbq : (gapM gs (q + (k : Int)) != 12) = false := by unfold Rg at hr; simp; omega
          clear hr hz
          go_wp2
          go_roundw
          case rel =>
            refine ⟨k + 1, by omega, by go_num, HU2.out, ?_, ?_, ?_⟩
            · refine Blk.alloc (Blk.far (Blk.far G0.out ?_ _) ?_ _) _ <;> simp
            · exact Blk.alloc (Blk.put2 G1.out _ _) _
            · go_grown
          case measure => simp [intOf]; omega

        · have z0 : (hK h (k + 1) == 0) = false := by simpa using hz
          have hbq : (gapM gs (q + (k : Int)) != hK h (k + 1)) = false := by unfold Rg at hr; simp; omega
          clear hr hz
          go_wp2
          go_roundw
          case rel =>
            refine ⟨k + 1, by omega, by go_num, HU2.out, ?_, ?_, ?_⟩
            · refine Blk.alloc (Blk.far (Blk.far G0.out ?_ _) ?_ _) _ <;> simp
            · exact Blk.alloc (Blk.put2 G1.out _ _) _
            · go_grown
          case measure => simp [intOf]; omega

      · have HR := Lib.hid (rg_f hlt hr)
        by_cases hz : hK h (k + 1) = 0
        · have z0 : (hK h (k + 1) == 0) = true := by simp [hz]
          have hbq : (gapM gs (q + (k : Int)) != 12) = true := by unfold Rg at hr; simp; omega
          clear hr hz
          go_wp2
          go_ret
          exact ⟨ret_b HR.out.symm, by go_grown⟩
        · have z0 : (hK h (k + 1) == 0) = false := by simpa using hz
          have hbq : (gapM gs (q + (k : Int)) != hK h (k + 1)) = true := by unfold Rg at hr; simp; omega
          clear hr hz
          go_wp2
          go_ret
          exact ⟨ret_b HR.out.symm, by go_grown⟩
    · have HR := Lib.hid (rg_t HU.out (by omega : 12 * gs.length ≤ k))
      go_wp2
      go_ret
      exact ⟨ret_b HR.out.symm, hB⟩

set_option maxHeartbeats 2000000 in
theorem StrikesRight_i1 (v : Value) (gs : List Int) (h q : Int) (w : World) (hv : Sl w v gs) (hs : hnB gs h q = false) :
    Calls Tryd.prog 42 #[.agg #[v], .agg #[.int .i64 h, .int .i64 q]] w fun e w' => e = .returned (.tuple #[.bool false, .int .i64 1]) ∧ Below w.heap.size w w' := by
  have H1 := Lib.hid (fun w' (hb : Below w.heap.size w w') => ValidHands_i v gs h q w' (hv.below hb))
  have HB := Lib.hid hs
  clear hv hs
  go_enter Tryd.func42, Tryd.ntmps42
  go_wp2_with fail
  refine (H1.out _ (by go_grown)).mono ?_
  rintro e w1 ⟨rfl, hb⟩
  rw [HB.out]
  go_wp2
  go_ret2
  exact ⟨rfl, Below.trans (by go_grown) (hb.mono (by simp; omega))⟩

set_option maxHeartbeats 2000000 in
theorem StrikesRight_i0 (v : Value) (gs : List Int) (h q : Int) (w : World) (hv : Sl w v gs) (hs : hnB gs h q = true) :
    Calls Tryd.prog 42 #[.agg #[v], .agg #[.int .i64 h, .int .i64 q]] w fun e w' => e = .returned (.tuple #[.bool (rgB gs h q), .int .i64 0]) ∧ Below w.heap.size w w' := by
  have H1 := Lib.hid (fun w' (hb : Below w.heap.size w w') => ValidHands_i v gs h q w' (hv.below hb))
  have H2 := Lib.hid (fun w' (hb : Below w.heap.size w w') => isRight_any v gs h q w' (hv.below hb) (hnB_iff.1 hs).1 (hnB_iff.1 hs).2)
  have HB := Lib.hid hs
  clear hv hs
  go_enter Tryd.func42, Tryd.ntmps42
  obtain ⟨k0, k1⟩ := bx2 w 31 28 #[v] #[.int .i64 h, .int .i64 q]
  have HK0 := Lib.hid k0
  have HK1 := Lib.hid k1
  clear k0 k1
  go_wp2_with fail
  refine (H1.out _ (by go_grown)).mono ?_
  rintro e w1 ⟨rfl, hb1⟩
  rw [HB.out]
  have q0 := (HK0.out.below hb1).cell 0 rfl
  have q1 := (HK1.out.below hb1).cell 0 rfl
  have q2 := (HK1.out.below hb1).cell 1 rfl
  have B1 : Below w.heap.size w w1 := Below.trans (by go_grown) (hb1.mono (by simp; omega))
  clear hb1 HK0 HK1
  go_wp2_with fail
  refine (H2.out _ B1).mono ?_
  rintro e w2 ⟨rfl, hb2⟩
  go_wp2
  go_ret2
  exact ⟨rfl, B1.trans (hb2.mono B1.size)⟩




end Go.Proofs.YtfddibdncniekaaDoor
