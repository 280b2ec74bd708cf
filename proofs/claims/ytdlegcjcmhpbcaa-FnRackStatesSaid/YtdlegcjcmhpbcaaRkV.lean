/- Racks: which racks are valid, in the program and in the reference. -/
import Derived.Test.YtdlegcjcmhpbcaaStRack
import Derived.Test.YtdlegcjcmhpbcaaRkM
namespace Go.Proofs.Ytdlegcjcmhpbcaa
open Go.RowKit

set_option maxHeartbeats 400000 in
theorem isBlows_any (n : Int) (w : World) :
    Calls Try.prog 40 #[.int .i64 n] w fun e w' => e = .returned (.bool (inB n 1 12)) ∧ w = w' := by
  go_enter Try.func40, Try.ntmps40
  go_wp2_with (go_at_call 41; refine (within_any _ _ _ _).mono ?_; rintro e w' ⟨rfl, rfl⟩)
  go_ret
  exact ⟨rfl, rfl⟩
set_option maxHeartbeats 400000 in
theorem l20Blows_any (n : Int) (w : World) :
    Calls Try.prog 42 #[.int .i64 n] w fun e w' => e = .returned (.bool (inB n 1 12)) ∧ w = w' := by
  go_enter Try.func42, Try.ntmps42
  go_wp2_with (go_at_call 27; refine (l00In_any _ _ _ _).mono ?_; rintro e w' ⟨rfl, rfl⟩)
  go_ret
  exact ⟨rfl, rfl⟩

set_option maxHeartbeats 1000000 in
theorem ValidRack_i (v : Value) (ds : List Int) (wn : Int) (w : World) (hv : Sl w v ds) :
    Calls Try.prog 23 #[.agg #[v, .int .i64 wn]] w fun e w' => e = .returned (.bool (rkB ds wn)) ∧ Below w.heap.size w w' := by
  obtain ⟨A, c, rfl, hac, hac', HA⟩ := hv.open_
  clear hv
  go_enter Try.func23, Try.ntmps23
  go_wp2_with fail
  go_loop [8] (fun i => ∃ k : Nat, k ≤ ds.length ∧ i = .int .i64 k ∧ BlowsTo ds k) (fun i => ds.length - (intOf i).toNat)
  case atStart => exact ⟨0, Nat.zero_le _, rfl, BlowsTo.zero _⟩
  case round =>
    obtain ⟨k, hk, rfl, hbt⟩ := hrel
    by_cases hlt : k < ds.length
    · obtain ⟨ba, oa, rfl, hba, hca⟩ := HA.out k hlt
      have ca := hca k hlt
      clear hca HA
      by_cases hb : inB (ix ds k) 1 12 = true
      · go_wp2_with (go_at_call 40; refine (isBlows_any _ _).mono ?_; rintro e w' ⟨rfl, rfl⟩)
        go_round
        case rel => exact ⟨k + 1, by omega, by go_num, hbt.succ hb⟩
        case measure => simp [intOf]; omega
      · have hb' : inB (ix ds k) 1 12 = false := by simpa using hb
        have hf := allBlows_at hlt hb'
        clear hb
        go_wp2_with (go_at_call 40; refine (isBlows_any _ _).mono ?_; rintro e w' ⟨rfl, rfl⟩)
        go_ret
        exact ⟨ret_b (by rw [rkB, hf]; rfl), by go_grown⟩
    · have hall := hbt.all (by omega : ds.length ≤ k)
      by_cases h12 : ds.length = 12
      · have hb1 : ((ds.length : Int) == 12) = true := by simp; omega
        have H12 := Lib.hid h12
        clear h12
        go_wp2_with (go_at_call 41; refine (within_any _ _ _ _).mono ?_; rintro e w' ⟨rfl, rfl⟩)
        go_ret
        exact ⟨ret_b (by rw [rkB, hall, H12.out]; rfl), by go_grown⟩
      · have hb1 : ((ds.length : Int) == 12) = false := by simp; omega
        go_wp2_with (go_at_call 41; refine (within_any _ _ _ _).mono ?_; rintro e w' ⟨rfl, rfl⟩)
        go_ret
        exact ⟨ret_b (by rw [rkB, decide_eq_false h12]; simp), by go_grown⟩

set_option maxHeartbeats 1000000 in
theorem l21Ok_s (v : Value) (ds : List Int) (wn : Int) (w : World) (hv : Sl w v ds) :
    Calls Try.prog 26 #[.agg #[v, .int .i64 wn]] w fun e w' => e = .returned (.bool (rkB ds wn)) ∧ Below w.heap.size w w' := by
  obtain ⟨A, c, rfl, hac, hac', HA⟩ := hv.open_
  clear hv
  go_enter Try.func26, Try.ntmps26
  go_wp2_with fail
  go_loop [3] (fun i => ∃ k : Nat, k ≤ ds.length ∧ i = .int .i64 k ∧ BlowsTo ds k) (fun i => ds.length - (intOf i).toNat)
  case atStart => exact ⟨0, Nat.zero_le _, rfl, BlowsTo.zero _⟩
  case round =>
    obtain ⟨k, hk, rfl, hbt⟩ := hrel
    by_cases hlt : k < ds.length
    · obtain ⟨ba, oa, rfl, hba, hca⟩ := HA.out k hlt
      have ca := hca k hlt
      clear hca HA
      by_cases hb : inB (ix ds k) 1 12 = true
      · go_wp2_with (go_at_call 42; refine (l20Blows_any _ _).mono ?_; rintro e w' ⟨rfl, rfl⟩)
        go_round
        case rel => exact ⟨k + 1, by omega, by go_num, hbt.succ hb⟩
        case measure => simp [intOf]; omega
      · have hb' : inB (ix ds k) 1 12 = false := by simpa using hb
        have hf := allBlows_at hlt hb'
        clear hb
        go_wp2_with (go_at_call 42; refine (l20Blows_any _ _).mono ?_; rintro e w' ⟨rfl, rfl⟩)
        go_ret
        exact ⟨ret_b (by rw [rkB, hf]; rfl), by go_grown⟩
    · have hall := hbt.all (by omega : ds.length ≤ k)
      by_cases h12 : ds.length = 12
      · have hb1 : ((ds.length : Int) == 12) = true := by simp; omega
        have H12 := Lib.hid h12
        clear h12
        go_wp2_with (go_at_call 27; refine (l00In_any _ _ _ _).mono ?_; rintro e w' ⟨rfl, rfl⟩)
        go_ret
        exact ⟨ret_b (by rw [rkB, hall, H12.out]; rfl), by go_grown⟩
      · have hb1 : ((ds.length : Int) == 12) = false := by simp; omega
        go_wp2_with (go_at_call 27; refine (l00In_any _ _ _ _).mono ?_; rintro e w' ⟨rfl, rfl⟩)
        go_ret
        exact ⟨ret_b (by rw [rkB, decide_eq_false h12]; simp), by go_grown⟩


end Go.Proofs.Ytdlegcjcmhpbcaa
