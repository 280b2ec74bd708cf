/- Floor division: impl.floorDiv, impl.floorMod, and the reference's l02Down, l19Mod. -/
import Derived.Test.YtgaohmbgjjhdbaaAid
namespace Go.Proofs.Ytgaohmbgjjhdbaa
open Go.RowKit

theorem neg_tdiv' {n d : Int} (h : n < 0) : n.tdiv d = -((-n) / d) := by
  have e : n = -(-n) := by omega
  rw [e, Int.neg_tdiv, Int.tdiv_eq_ediv_of_nonneg (by omega)]
  simp
theorem neg_tmod' {n d : Int} (h : n < 0) : n.tmod d = -((-n) % d) := by
  have e : n = -(-n) := by omega
  rw [e, Int.neg_tmod, Int.tmod_eq_emod_of_nonneg (by omega)]
  simp
theorem div_bd {p d : Int} (hp : 0 ≤ p) (hd : 0 < d) : 0 ≤ p / d ∧ p / d ≤ p := ⟨Int.ediv_nonneg hp (by omega), Int.ediv_le_self _ hp⟩
theorem floor_neg0 {n d : Int} (hd : 0 < d) (h : (-n) % d = 0) : n / d = -((-n) / d) := by
  have h1 := Int.mul_ediv_add_emod (-n) d
  rw [h] at h1
  have h2 : n = (-((-n) / d)) * d + 0 := by
    have : -n = d * ((-n) / d) := by omega
    rw [Int.neg_mul, Int.mul_comm ((-n) / d) d, ← this]; omega
  conv => lhs; rw [h2, Int.add_zero, Int.mul_ediv_cancel _ (by omega)]
theorem floor_neg1 {n d : Int} (hd : 0 < d) (h : ¬ (-n) % d = 0) : n / d = -((-n) / d) - 1 := by
  have h1 := Int.mul_ediv_add_emod (-n) d
  have h3 := Int.emod_nonneg (-n) (show d ≠ 0 by omega)
  have h4 := Int.emod_lt_of_pos (-n) hd
  have e : d * (-((-n) / d) - 1) = -(d * ((-n) / d)) - d := by rw [Int.mul_sub, Int.mul_neg, Int.mul_one]
  exact (Int.ediv_emod_unique (r := d - (-n) % d) (q := -((-n) / d) - 1) hd |>.2 ⟨by rw [e]; omega, by omega, by omega⟩).1
theorem floor_rest (n d : Int) : n - n / d * d = n % d := by have := Int.mul_ediv_add_emod n d; rw [Int.mul_comm] at this; omega
theorem div_abs {n d : Int} (hd : 0 < d) (h1 : -4611686018427387904 ≤ n) (h2 : n ≤ 4611686018427387904) : -4611686018427387905 ≤ n / d ∧ n / d ≤ 4611686018427387904 := by
  by_cases h : 0 ≤ n
  · have := div_bd h hd; omega
  · have := div_bd (p := -n) (by omega) hd
    by_cases h0 : (-n) % d = 0
    · rw [floor_neg0 hd h0]; omega
    · rw [floor_neg1 hd h0]; omega
theorem rest_abs {n d : Int} (hd : 0 < d) (h1 : -4611686018427387904 ≤ n) (h2 : n ≤ 4611686018427387904) (hd2 : d ≤ 4611686018427387904) : -9223372036854775808 ≤ n / d * d ∧ n / d * d ≤ 9223372036854775807 := by
  have := floor_rest n d
  have h3 := Int.emod_nonneg n (show d ≠ 0 by omega)
  have h4 := Int.emod_lt_of_pos n hd
  omega

set_option maxHeartbeats 400000 in
theorem floorDiv_any (n d : Int) (w : World) (hd : 0 < d) (h1 : -4611686018427387904 ≤ n) (h2 : n ≤ 4611686018427387904) :
    Calls Try.prog 91 #[.int .i64 n, .int .i64 d] w fun e w' => e = .returned (.int .i64 (n / d)) ∧ w = w' := by
  by_cases h : 0 ≤ n
  · have hb := div_bd h hd
    have hm := Int.emod_nonneg n (show d ≠ 0 by omega)
    go_enter Try.func91, Try.ntmps91
    go_wp2
    go_ret
    exact ⟨rfl, rfl⟩
  · have hb := div_bd (p := -n) (d := d) (by omega) hd
    have hm := Int.emod_nonneg (-n) (show d ≠ 0 by omega)
    by_cases h0 : (-n) % d = 0
    · have HF := Lib.hid (floor_neg0 hd h0)
      have h5 : ¬ (-((-n) % d) < 0) := by omega
      have e1 : IntKind.i64.wrap (n.tdiv d) = -((-n) / d) := by rw [neg_tdiv' (by omega)]; exact IntWalk.i64_in _ (by omega)
      have e2 : n.tmod d = -((-n) % d) := neg_tmod' (by omega)
      clear h0
      go_enter Try.func91, Try.ntmps91
      go_wp2
      go_ret
      exact ⟨ret_i HF.out.symm, rfl⟩
    · have HF := Lib.hid (floor_neg1 hd h0)
      have h5 : -((-n) % d) < 0 := by omega
      have e1 : IntKind.i64.wrap (n.tdiv d) = -((-n) / d) := by rw [neg_tdiv' (by omega)]; exact IntWalk.i64_in _ (by omega)
      have e2 : n.tmod d = -((-n) % d) := neg_tmod' (by omega)
      clear h0
      go_enter Try.func91, Try.ntmps91
      go_wp2
      go_ret
      exact ⟨ret_i HF.out.symm, rfl⟩

set_option maxHeartbeats 400000 in
theorem l02Down_any (n d : Int) (w : World) (hd : 0 < d) (h1 : -4611686018427387904 ≤ n) (h2 : n ≤ 4611686018427387904) :
    Calls Try.prog 92 #[.int .i64 n, .int .i64 d] w fun e w' => e = .returned (.int .i64 (n / d)) ∧ w = w' := by
  by_cases h : 0 ≤ n
  · have hb := div_bd h hd
    have hm := Int.emod_nonneg n (show d ≠ 0 by omega)
    go_enter Try.func92, Try.ntmps92
    go_wp2
    go_ret
    exact ⟨rfl, rfl⟩
  · have hb := div_bd (p := -n) (d := d) (by omega) hd
    have hm := Int.emod_nonneg (-n) (show d ≠ 0 by omega)
    by_cases h0 : (-n) % d = 0
    · have HF := Lib.hid (floor_neg0 hd h0)
      have h5 : ¬ (-((-n) % d) < 0) := by omega
      have e1 : IntKind.i64.wrap (n.tdiv d) = -((-n) / d) := by rw [neg_tdiv' (by omega)]; exact IntWalk.i64_in _ (by omega)
      have e2 : n.tmod d = -((-n) % d) := neg_tmod' (by omega)
      clear h0
      go_enter Try.func92, Try.ntmps92
      go_wp2
      go_ret
      exact ⟨ret_i HF.out.symm, rfl⟩
    · have HF := Lib.hid (floor_neg1 hd h0)
      have h5 : -((-n) % d) < 0 := by omega
      have e1 : IntKind.i64.wrap (n.tdiv d) = -((-n) / d) := by rw [neg_tdiv' (by omega)]; exact IntWalk.i64_in _ (by omega)
      have e2 : n.tmod d = -((-n) % d) := neg_tmod' (by omega)
      clear h0
      go_enter Try.func92, Try.ntmps92
      go_wp2
      go_ret
      exact ⟨ret_i HF.out.symm, rfl⟩

set_option maxHeartbeats 400000 in
theorem floorMod_any (n d : Int) (w : World) (hd : 0 < d) (hd2 : d ≤ 4611686018427387904) (h1 : -4611686018427387904 ≤ n) (h2 : n ≤ 4611686018427387904) :
    Calls Try.prog 72 #[.int .i64 n, .int .i64 d] w fun e w' => e = .returned (.int .i64 (n % d)) ∧ w = w' := by
  have hr := rest_abs hd h1 h2 hd2
  have HR := Lib.hid (floor_rest n d)
  have h3 := Int.emod_nonneg n (show d ≠ 0 by omega)
  have h4 := Int.emod_lt_of_pos n hd
  have h5 : -9223372036854775808 ≤ n - n / d * d ∧ n - n / d * d ≤ 9223372036854775807 := by have := HR.out; omega
  go_enter Try.func72, Try.ntmps72
  go_wp2_with (go_at_call 91; refine (floorDiv_any n d _ hd h1 h2).mono ?_; rintro e w' ⟨rfl, rfl⟩)
  go_ret
  exact ⟨ret_i HR.out, rfl⟩

set_option maxHeartbeats 400000 in
theorem l19Mod_any (n d : Int) (w : World) (hd : 0 < d) (hd2 : d ≤ 4611686018427387904) (h1 : -4611686018427387904 ≤ n) (h2 : n ≤ 4611686018427387904) :
    Calls Try.prog 74 #[.int .i64 n, .int .i64 d] w fun e w' => e = .returned (.int .i64 (n % d)) ∧ w = w' := by
  have hr := rest_abs hd h1 h2 hd2
  have HR := Lib.hid (floor_rest n d)
  have h3 := Int.emod_nonneg n (show d ≠ 0 by omega)
  have h4 := Int.emod_lt_of_pos n hd
  have h5 : -9223372036854775808 ≤ n - n / d * d ∧ n - n / d * d ≤ 9223372036854775807 := by have := HR.out; omega
  go_enter Try.func74, Try.ntmps74
  go_wp2_with (go_at_call 92; refine (l02Down_any n d _ hd h1 h2).mono ?_; rintro e w' ⟨rfl, rfl⟩)
  go_ret
  exact ⟨ret_i HR.out, rfl⟩
end Go.Proofs.Ytgaohmbgjjhdbaa
