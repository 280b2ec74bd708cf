/- Chimes: rows that are orders of the same bells (rowBells, l22Rows); slices.Equal, slices.Index, abs, l00Same. -/
import Derived.Test.YtgaohmbgjjhdbaaRwR
import Derived.Test.YtgaohmbgjjhdbaaChW
namespace Go.Proofs.Ytgaohmbgjjhdbaa
open Go.RowKit
attribute [local go_sem ↓] Go.wp_at_zero Go.wp_at_succ
attribute [local go_sem] cell?_grow frozen?_grow

def RowsTo (R : List (List Int)) (k : Nat) : Prop := ∀ i, i < k → ordB (rx R i) (rx R 0).length = true
instance (R : List (List Int)) (k : Nat) : Decidable (RowsTo R k) := by unfold RowsTo; infer_instance
theorem RowsTo.zero (R : List (List Int)) : RowsTo R 0 := fun _ h => absurd h (Nat.not_lt_zero _)
theorem RowsTo.succ {R : List (List Int)} {k : Nat} (h : RowsTo R k) (he : ordB (rx R k) (rx R 0).length = true) : RowsTo R (k + 1) := fun j hj => by
  rcases Nat.lt_or_ge j k with h3 | h3
  · exact h j h3
  · have : j = k := by omega
    subst this; exact he
/-- Whether the rows are orders of the same bells. -/
def rowK (R : List (List Int)) : Bool := decide (¬ R.length = 0) && (inB ((rx R 0).length : Int) 1 8 && decide (RowsTo R R.length))
theorem rowK_iff {R : List (List Int)} : rowK R = true ↔ (¬ R.length = 0) ∧ (1 ≤ (rx R 0).length ∧ (rx R 0).length ≤ 8) ∧ RowsTo R R.length := by
  simp only [rowK, Bool.and_eq_true, decide_eq_true_eq, inB_iff]
  constructor
  · rintro ⟨h1, h2, h3⟩; exact ⟨h1, by omega, h3⟩
  · rintro ⟨h1, h2, h3⟩; exact ⟨h1, by omega, h3⟩
theorem rk1 {R : List (List Int)} (h : R.length = 0) : rowK R = false := by simp [rowK, h]
theorem rk2 {R : List (List Int)} (h : inB ((rx R 0).length : Int) 1 8 = false) : rowK R = false := by simp [rowK, h]
theorem rk3 {R : List (List Int)} {k : Nat} (hk : k < R.length) (h : ordB (rx R k) (rx R 0).length = false) : rowK R = false := by
  rw [Bool.eq_false_iff]
  intro hr
  have := (rowK_iff.1 hr).2.2 k hk
  rw [h] at this; cases this
/-- The number of bells of such rows, or 0. -/
def rowN (R : List (List Int)) : Int := if rowK R = true then ((rx R 0).length : Int) else 0
theorem rn_f {R : List (List Int)} (h : rowK R = false) : rowN R = 0 := by simp [rowN, h]
theorem rn_t {R : List (List Int)} (h : rowK R = true) : rowN R = ((rx R 0).length : Int) := by simp [rowN, h]

set_option maxHeartbeats 4000000 in
theorem rowBells_any (v : Value) (R : List (List Int)) (w : World) (hv : RdR w v R) (hl : ∀ i, i < R.length → (rx R i).length ≤ 134217728) :
    Calls Try.prog 50 #[v] w fun e w' => e = .returned (.int .i64 (rowN R)) ∧ Below w.heap.size w w' := by
  have HV := Lib.hid hv
  have HL := Lib.hid hl
  obtain ⟨A, c, rfl, hac, hac'⟩ := hv.form
  clear hv hl
  by_cases h0 : R.length = 0
  · have HK := Lib.hid (rn_f (rk1 h0))
    rw [HK.out]
    rw [h0]
    clear h0 hac HV HL
    go_enter Try.func50, Try.ntmps50
    go_wp2
    go_ret
    exact ⟨rfl, Below.refl _ _⟩
  · obtain ⟨b0, o0, A0, c0, rfl, hb0, hu0, hs0⟩ := HV.out.at_ (i := 0) (by omega)
    have a0 : w.cell? ⟨b0, o0, none⟩ = some (.slice A0 (rx R 0).length c0) := hu0
    have i0 : ¬ (R.length : Int) = 0 := by omega
    have i00 : ((R.length : Int) == 0) = false := by simpa using i0
    have i01 : (0 : Int) < (R.length : Int) := by omega
    clear hu0 hs0
    rcases Bool.eq_false_or_eq_true (inB ((rx R 0).length : Int) 1 8) with h1 | h1
    · have HW := Lib.hid (fun w => within_any ((rx R 0).length : Int) 1 8 w)
      have H1 := Lib.hid h1
      obtain ⟨l1, l2⟩ := inB_iff.1 h1
      have ln : ¬ ((rx R 0).length : Int) = 0 := by omega
      clear h1
      go_enter Try.func50, Try.ntmps50
      go_wp2_with fail
      refine (HW.out _).mono ?_
      rintro e w' ⟨rfl, rfl⟩
      rw [H1.out]
      go_wp2
      go_loopw [23] (fun i wr => ∃ j : Nat, j ≤ R.length ∧ i = .int .i64 j ∧ Hid (RowsTo R j) ∧ Below w.heap.size w wr) (fun i _ => R.length - (intOf i).toNat)
      case atStart => exact ⟨0, Nat.zero_le _, rfl, RowsTo.zero _, Below.refl _ _⟩
      case round =>
        obtain ⟨j, hj, rfl, hR, hB⟩ := hrel
        have HB := Lib.hid hB
        by_cases hlt : j < R.length
        · obtain ⟨b1, o1, A1, c1, e1, hb1, hu1, hs1⟩ := (HV.out.below hB).at_ hlt
          injection e1 with e1
          injection e1 with e1 e2
          subst e1 e2
          have i1 : (j : Int) < (R.length : Int) := by omega
          have hlj := HL.out j hlt
          have HS := Lib.hid hs1
          clear hs1 hB a0
          go_wp2_with fail
          refine (isOrder_any _ (rx R j) ((rx R 0).length : Int) _ HS.out hlj).mono ?_
          rintro e w2 ⟨rfl, hb2⟩
          have HB2 : Hid (Below w.heap.size w w2) := HB.out.trans (hb2.mono HB.out.size)
          rcases Bool.eq_false_or_eq_true (ordB (rx R j) ((rx R 0).length : Int)) with ho | ho
          · have HO := Lib.hid ho
            rw [ho]
            clear ho hb2
            go_wp2
            go_roundw
            case rel => exact ⟨j + 1, by omega, by go_num, hR.out.succ HO.out, HB2.out⟩
            case measure => simp [intOf]; omega
          · have HO := Lib.hid (rn_f (rk3 hlt ho))
            rw [ho]
            clear ho hb2
            go_wp2
            go_ret
            exact ⟨ret_i HO.out.symm, HB2.out⟩
        · obtain rfl : j = R.length := by omega
          have HK := Lib.hid (rn_t (rowK_iff.2 ⟨h0, by omega, hR.out⟩))
          clear hR
          go_wp2
          go_ret
          exact ⟨ret_i HK.out.symm, HB.out⟩
    · have HW := Lib.hid (fun w => within_any ((rx R 0).length : Int) 1 8 w)
      have H1 := Lib.hid h1
      have HK := Lib.hid (rn_f (rk2 h1))
      rw [HK.out]
      clear h1
      go_enter Try.func50, Try.ntmps50
      go_wp2_with fail
      refine (HW.out _).mono ?_
      rintro e w' ⟨rfl, rfl⟩
      rw [H1.out]
      go_wp2
      go_ret
      exact ⟨rfl, Below.refl _ _⟩

set_option maxHeartbeats 4000000 in
theorem l22Rows_any (v : Value) (R : List (List Int)) (w : World) (hv : RdR w v R) :
    Calls Try.prog 48 #[v] w fun e w' => e = .returned (.bool (rowK R)) ∧ Below w.heap.size w w' := by
  have HV := Lib.hid hv
  obtain ⟨A, c, rfl, hac, hac'⟩ := hv.form
  clear hv
  by_cases h0 : R.length = 0
  · have HK := Lib.hid (rk1 h0)
    rw [HK.out]
    rw [h0]
    clear h0 hac HV
    go_enter Try.func48, Try.ntmps48
    go_wp2
    go_ret
    exact ⟨rfl, Below.refl _ _⟩
  · obtain ⟨b0, o0, A0, c0, rfl, hb0, hu0, hs0⟩ := HV.out.at_ (i := 0) (by omega)
    have a0 : w.cell? ⟨b0, o0, none⟩ = some (.slice A0 (rx R 0).length c0) := hu0
    have i0 : ¬ (R.length : Int) = 0 := by omega
    have i00 : ((R.length : Int) == 0) = false := by simpa using i0
    have i01 : (0 : Int) < (R.length : Int) := by omega
    clear hu0 hs0
    rcases Bool.eq_false_or_eq_true (inB ((rx R 0).length : Int) 1 8) with h1 | h1
    · have HW := Lib.hid (fun w => l00In_any ((rx R 0).length : Int) 1 8 w)
      have H1 := Lib.hid h1
      have HA0 := Lib.hid a0
      obtain ⟨l1, l2⟩ := inB_iff.1 h1
      clear h1
      go_enter Try.func48, Try.ntmps48
      go_wp2_with fail
      refine (HW.out _).mono ?_
      rintro e w' ⟨rfl, rfl⟩
      rw [H1.out]
      go_wp2
      go_loopw [3] (fun i wr => ∃ j : Nat, j ≤ R.length ∧ i = .int .i64 j ∧ Hid (RowsTo R j) ∧ Below w.heap.size w wr) (fun i _ => R.length - (intOf i).toNat)
      case atStart => exact ⟨0, Nat.zero_le _, rfl, RowsTo.zero _, Below.refl _ _⟩
      case round =>
        obtain ⟨j, hj, rfl, hR, hB⟩ := hrel
        have HB := Lib.hid hB
        by_cases hlt : j < R.length
        · obtain ⟨b1, o1, A1, c1, e1, hb1, hu1, hs1⟩ := (HV.out.below hB).at_ hlt
          injection e1 with e1
          injection e1 with e1 e2
          subst e1 e2
          have a1 : wr.cell? ⟨b0, o0, none⟩ = some (.slice A0 (rx R 0).length c0) := (hB.cell (p := ⟨b0, o0, none⟩) hb0).trans HA0.out
          have i1 : (j : Int) < (R.length : Int) := by omega
          have HS := Lib.hid hs1
          clear hs1 hB a0
          go_wp2_with fail
          refine wp_region_grow (by kernel_rfl) (by kernel_rfl) ?_
          repeat (go_big_quiet_step (((go_at_call 79; exact grow_same (l22Order_any _ (rx R j) ((rx R 0).length : Int) _ (Sl.grow HS.out _))))))
          refine wpQuiet_nil ?_
          intro w2 hb2
          have HB2 : Hid (Below w.heap.size w w2) := HB.out.trans (hb2.mono HB.out.size)
          rcases Bool.eq_false_or_eq_true (ordB (rx R j) ((rx R 0).length : Int)) with ho | ho
          · have HO := Lib.hid ho
            rw [ho]
            clear ho hb2
            go_wp2
            go_roundw
            case rel => exact ⟨j + 1, by omega, by go_num, hR.out.succ HO.out, HB2.out⟩
            case measure => simp [intOf]; omega
          · have HO := Lib.hid (rk3 hlt ho)
            rw [ho]
            clear ho hb2
            go_wp2
            go_ret
            exact ⟨ret_b HO.out.symm, HB2.out⟩
        · obtain rfl : j = R.length := by omega
          have HK := Lib.hid (rowK_iff.2 ⟨h0, by omega, hR.out⟩)
          clear hR
          go_wp2
          go_ret
          exact ⟨ret_b HK.out.symm, HB.out⟩
    · have HW := Lib.hid (fun w => l00In_any ((rx R 0).length : Int) 1 8 w)
      have H1 := Lib.hid h1
      have HK := Lib.hid (rk2 h1)
      rw [HK.out]
      clear h1
      go_enter Try.func48, Try.ntmps48
      go_wp2_with fail
      refine (HW.out _).mono ?_
      rintro e w' ⟨rfl, rfl⟩
      rw [H1.out]
      go_wp2
      go_ret
      exact ⟨rfl, Below.refl _ _⟩
end Go.Proofs.Ytgaohmbgjjhdbaa
