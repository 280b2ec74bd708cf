/- Count wheels: which wheels and notches are valid, the gaps, and runs of gaps, in the program and in the reference. -/
import Derived.Test.YtcffmkdjameokaaBx
import Derived.Test.YtcffmkdjameokaaRkM
import Derived.Handy
import Derived.Deep.RegionHeld3
import Derived.Deep.DrawnRows
namespace Go.Proofs.Ytcffmkdjameokaa
open Go.RowKit
attribute [local go_sem ↓] Go.wp_at_zero Go.wp_at_succ

/-- A valid wheel. -/
def whB (gs : List Int) : Bool := allBlows gs && inB gs.length 1 24
theorem whB_iff {gs : List Int} : whB gs = true ↔ (∀ g ∈ gs, 1 ≤ g ∧ g ≤ 12) ∧ 1 ≤ gs.length ∧ gs.length ≤ 24 := by
  simp only [whB, Bool.and_eq_true, allBlows_iff, inB_iff]
  constructor
  · rintro ⟨h1, h2, h3⟩; exact ⟨h1, by omega, by omega⟩
  · rintro ⟨h1, h2, h3⟩; exact ⟨h1, by omega, by omega⟩
/-- A gap; the first follows the last. -/
def gapM (gs : List Int) (k : Int) : Int := ix gs (k % (gs.length : Int)).toNat
theorem gap_ix {gs : List Int} (h : 1 ≤ gs.length) (k : Int) : 0 ≤ k % (gs.length : Int) ∧ k % (gs.length : Int) < gs.length ∧ (k % (gs.length : Int)).toNat < gs.length := by
  have h1 := Int.emod_nonneg k (show (gs.length : Int) ≠ 0 by omega)
  have h2 := Int.emod_lt_of_pos k (show (0 : Int) < (gs.length : Int) by omega)
  omega
theorem gapM_in {gs : List Int} (h : whB gs = true) (k : Int) : 1 ≤ gapM gs k ∧ gapM gs k ≤ 12 := by
  obtain ⟨h1, h2, h3⟩ := whB_iff.1 h
  exact h1 _ (ix_mem (gap_ix h2 k).2.2)
/-- Gaps from a notch on. -/
def manyM (gs : List Int) (k : Int) (n : Nat) : List Int := (List.range n).map fun j : Nat => gapM gs (k + (j : Int))
theorem manyM_length (gs : List Int) (k : Int) (n : Nat) : (manyM gs k n).length = n := by simp [manyM]
theorem manyM_succ (gs : List Int) (k : Int) (n : Nat) : manyM gs k (n + 1) = manyM gs k n ++ [gapM gs (k + (n : Int))] := by simp [manyM, List.range_succ]
theorem ix_manyM {gs : List Int} {k : Int} {n j : Nat} (h : j < n) : ix (manyM gs k n) j = gapM gs (k + (j : Int)) := by
  rw [ix_eq (by rw [manyM_length]; exact h)]; simp [manyM]
/-- The code of a wheel and a notch. -/
def whC (gs : List Int) (k : Int) : Int := if whB gs = true then (if inB k 0 ((gs.length : Int) - 1) = true then 0 else 2) else 1

set_option maxHeartbeats 400000 in
theorem isBlowsW_any (n : Int) (w : World) :
    Calls Try.prog 37 #[.int .i64 n] w fun e w' => e = .returned (.bool (inB n 1 12)) ∧ w = w' := by
  go_enter Try.func37, Try.ntmps37
  go_wp2_with (go_at_call 38; refine (within_any _ _ _ _).mono ?_; rintro e w' ⟨rfl, rfl⟩)
  go_ret
  exact ⟨rfl, rfl⟩
set_option maxHeartbeats 400000 in
theorem l20BlowsW_any (n : Int) (w : World) :
    Calls Try.prog 41 #[.int .i64 n] w fun e w' => e = .returned (.bool (inB n 1 12)) ∧ w = w' := by
  go_enter Try.func41, Try.ntmps41
  go_wp2_with (go_at_call 36; refine (l00In_any _ _ _ _).mono ?_; rintro e w' ⟨rfl, rfl⟩)
  go_ret
  exact ⟨rfl, rfl⟩

theorem inB_len {n : Nat} : inB (n : Int) 1 24 = (decide ((1 : Int) ≤ (n : Int)) && decide ((n : Int) ≤ 24)) := rfl

set_option maxHeartbeats 2000000 in
theorem ValidCountWheel_i (v : Value) (gs : List Int) (w : World) (hv : Sl w v gs) :
    Calls Try.prog 26 #[.agg #[v]] w fun e w' => e = .returned (.bool (whB gs)) ∧ Below w.heap.size w w' := by
  obtain ⟨A, c, rfl, hac, hac', HA⟩ := hv.open_
  clear hv
  go_enter Try.func26, Try.ntmps26
  go_wp2_with fail
  go_loop [8] (fun i => ∃ k : Nat, k ≤ gs.length ∧ i = .int .i64 k ∧ BlowsTo gs k) (fun i => gs.length - (intOf i).toNat)
  case atStart => exact ⟨0, Nat.zero_le _, rfl, BlowsTo.zero _⟩
  case round =>
    obtain ⟨k, hk, rfl, hbt⟩ := hrel
    by_cases hlt : k < gs.length
    · obtain ⟨ba, oa, rfl, hba, hca⟩ := HA.out k hlt
      have ca := hca k hlt
      clear hca HA
      by_cases hb : inB (ix gs k) 1 12 = true
      · go_wp2_with (go_at_call 37; refine (isBlowsW_any _ _).mono ?_; rintro e w' ⟨rfl, rfl⟩)
        go_round
        case rel => exact ⟨k + 1, by omega, by go_num, hbt.succ hb⟩
        case measure => simp [intOf]; omega
      · have hb' : inB (ix gs k) 1 12 = false := by simpa using hb
        have hf := allBlows_at hlt hb'
        clear hb
        go_wp2_with (go_at_call 37; refine (isBlowsW_any _ _).mono ?_; rintro e w' ⟨rfl, rfl⟩)
        go_ret
        exact ⟨ret_b (by rw [whB, hf]; rfl), by go_grown⟩
    · have hall := hbt.all (by omega : gs.length ≤ k)
      by_cases h1 : 1 ≤ gs.length
      · have d1 : decide ((1 : Int) ≤ (gs.length : Int)) = true := decide_eq_true (by omega)
        go_wp2
        go_ret
        exact ⟨ret_b (by rw [whB, hall, inB_len, d1]; simp), by go_grown⟩
      · have d1 : decide ((1 : Int) ≤ (gs.length : Int)) = false := decide_eq_false (by omega)
        go_wp2
        go_ret
        exact ⟨ret_b (by rw [whB, hall, inB_len, d1]; simp), by go_grown⟩

set_option maxHeartbeats 2000000 in
theorem l20Ok_s (v : Value) (gs : List Int) (w : World) (hv : Sl w v gs) :
    Calls Try.prog 33 #[.agg #[v]] w fun e w' => e = .returned (.bool (whB gs)) ∧ Below w.heap.size w w' := by
  obtain ⟨A, c, rfl, hac, hac', HA⟩ := hv.open_
  clear hv
  go_enter Try.func33, Try.ntmps33
  go_wp2_with fail
  go_loop [3] (fun i => ∃ k : Nat, k ≤ gs.length ∧ i = .int .i64 k ∧ BlowsTo gs k) (fun i => gs.length - (intOf i).toNat)
  case atStart => exact ⟨0, Nat.zero_le _, rfl, BlowsTo.zero _⟩
  case round =>
    obtain ⟨k, hk, rfl, hbt⟩ := hrel
    by_cases hlt : k < gs.length
    · obtain ⟨ba, oa, rfl, hba, hca⟩ := HA.out k hlt
      have ca := hca k hlt
      clear hca HA
      by_cases hb : inB (ix gs k) 1 12 = true
      · go_wp2_with (go_at_call 41; refine (l20BlowsW_any _ _).mono ?_; rintro e w' ⟨rfl, rfl⟩)
        go_round
        case rel => exact ⟨k + 1, by omega, by go_num, hbt.succ hb⟩
        case measure => simp [intOf]; omega
      · have hb' : inB (ix gs k) 1 12 = false := by simpa using hb
        have hf := allBlows_at hlt hb'
        clear hb
        go_wp2_with (go_at_call 41; refine (l20BlowsW_any _ _).mono ?_; rintro e w' ⟨rfl, rfl⟩)
        go_ret
        exact ⟨ret_b (by rw [whB, hf]; rfl), by go_grown⟩
    · have hall := hbt.all (by omega : gs.length ≤ k)
      go_wp2_with (go_at_call 36; refine (l00In_any _ _ _ _).mono ?_; rintro e w' ⟨rfl, rfl⟩)
      go_ret
      exact ⟨ret_b (by rw [whB, hall]; simp), by go_grown⟩

set_option maxHeartbeats 1000000 in
theorem isNotch_any (v : Value) (gs : List Int) (k : Int) (w : World) (hv : Sl w v gs) :
    Calls Try.prog 39 #[.agg #[v], .int .i64 k] w fun e w' => e = .returned (.bool (inB k 0 ((gs.length : Int) - 1))) ∧ Below w.heap.size w w' := by
  obtain ⟨A, c, rfl, hac, hac', HA⟩ := hv.open_
  clear hv HA
  go_enter Try.func39, Try.ntmps39
  go_wp2_with (go_at_call 38; refine (within_any _ _ _ _).mono ?_; rintro e w' ⟨rfl, rfl⟩)
  go_ret
  exact ⟨rfl, by go_grown⟩

theorem whC_bad {gs : List Int} {k : Int} (h : whB gs = false) : whC gs k = 1 := by rw [whC, if_neg (by simp [h])]
theorem whC_far {gs : List Int} {k : Int} (h : whB gs = true) (h' : inB k 0 ((gs.length : Int) - 1) = false) : whC gs k = 2 := by rw [whC, if_pos h, if_neg (by simp [h'])]
theorem whC_ok {gs : List Int} {k : Int} (h : whB gs = true) (h' : inB k 0 ((gs.length : Int) - 1) = true) : whC gs k = 0 := by rw [whC, if_pos h, if_pos h']

end Go.Proofs.Ytcffmkdjameokaa
