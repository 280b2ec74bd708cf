/- The law's own small helper f6rows: whether two lists of rows are equal. -/
import Derived.Test.YtgaohmbgjjhdbaaRwR
import Derived.Test.YtgaohmbgjjhdbaaF6
namespace Go.Proofs.Ytgaohmbgjjhdbaa
open Go.RowKit
attribute [local go_sem ↓] Go.wp_at_zero Go.wp_at_succ
attribute [local go_sem] cell?_grow frozen?_grow

theorem f6same_t (va vb : Value) (xs : List Int) (w : World) (ha : Sl w va xs) (hb : Sl w vb xs) :
    Calls Try.prog 77 #[va, vb] w fun e w' => e = .returned (.bool true) ∧ Below w.heap.size w w' := by
  have h := f6same_any va vb xs xs w ha hb
  rw [eqL_self] at h
  exact h.mono fun e w' ⟨he, n, hw⟩ => ⟨he, by rw [hw]; exact below_drewN (Below.refl _ _) n⟩
set_option maxHeartbeats 4000000 in
theorem f6rows_b (va vb : Value) (R : List (List Int)) (w : World) (ha : RdR w va R) (hb : RdR w vb R) :
    Calls Try.prog 40 #[va, vb] w fun e w' => e = .returned (.bool true) ∧ Below w.heap.size w w' := by
  have HA := Lib.hid ha
  have HB := Lib.hid hb
  obtain ⟨A, c, rfl, hac, hac'⟩ := ha.form
  obtain ⟨B, d, rfl, hbd, hbd'⟩ := hb.form
  clear ha hb
  go_enter Try.func40, Try.ntmps40
  go_wp2_with fail
  go_loopw [5] (fun i wr => ∃ j : Nat, j ≤ R.length ∧ i = .int .i64 j ∧ Below w.heap.size w wr) (fun i _ => R.length - (intOf i).toNat)
  case atStart => exact ⟨0, Nat.zero_le _, rfl, Below.refl _ _⟩
  case round =>
    obtain ⟨j, hj, rfl, hBl⟩ := hrel
    by_cases hlt : j < R.length
    · obtain ⟨ga, oa, Au, cu, rfl, hga, hua, hsa⟩ := (HA.out.below hBl).at_ hlt
      obtain ⟨gb, ob, Av, cv, rfl, hgb, hub, hsb⟩ := (HB.out.below hBl).at_ hlt
      have S1 := Lib.hid hsa
      have S2 := Lib.hid hsb
      have i1 : (j : Int) < (R.length : Int) := by omega
      clear hsa hsb
      go_wp2_with fail
      refine wp_region_grow (by kernel_rfl) (by kernel_rfl) ?_
      repeat (go_big_quiet_step (((go_at_call 77; exact grow_of (f6same_t _ _ (rx R j) _ (Sl.grow S1.out _) (Sl.grow S2.out _))))))
      refine wpQuiet_nil ?_
      intro w6 hb6
      have B6 : Below w.heap.size w w6 := hBl.trans (hb6.mono hBl.size)
      clear hb6
      go_wp2
      go_roundw
      case rel => exact ⟨j + 1, by omega, by go_num, B6⟩
      case measure => simp [intOf]; omega
    · obtain rfl : j = R.length := by omega
      go_wp2
      go_ret
      exact ⟨rfl, hBl⟩
end Go.Proofs.Ytgaohmbgjjhdbaa
