/- Contracts of szInt64S and toInt64S: the measure of a slice of numbers, and its copy. -/
import Derived.Test.YtgaohmbgjjhdbaaAid
namespace Go.Proofs.Ytgaohmbgjjhdbaa
open Go.RowKit

/-- The first k elements of xs, zeros behind. -/
def copied (xs : List Int) (k : Nat) : List Int := xs.take k ++ List.replicate (xs.length - k) 0
theorem copied_zero (xs : List Int) : copied xs 0 = List.replicate xs.length 0 := by simp [copied]
theorem copied_all (xs : List Int) : copied xs xs.length = xs := by simp [copied]
theorem copied_length {xs : List Int} {k : Nat} (h : k ≤ xs.length) : (copied xs k).length = xs.length := by
  simp [copied]; omega
theorem copied_set {xs : List Int} {k : Nat} (h : k < xs.length) : (I64 (copied xs k)).set k (.int .i64 (ix xs k)) = I64 (copied xs (k + 1)) := by
  have e : (I64 (copied xs k)).set k (.int .i64 (ix xs k)) = I64 ((copied xs k).set k (ix xs k)) := by simp [I64, List.map_set]
  have hl : (xs.take k).length = k := by rw [List.length_take]; omega
  obtain ⟨m, hm⟩ : ∃ m, xs.length - k = m + 1 := ⟨xs.length - k - 1, by omega⟩
  have hm' : xs.length - (k + 1) = m := by omega
  rw [e, copied, copied, hm, hm', List.set_append_right _ _ (by omega), hl, Nat.sub_self, take_succ_ix h, List.append_assoc]
  rfl
theorem I64_replicate (n : Nat) : List.replicate n (Value.int .i64 0) = I64 (List.replicate n 0) := by simp [I64]

set_option maxHeartbeats 400000 in
theorem szInt64S_fits (v : Value) (xs : List Int) (left : Int) (w : World) (hv : Sl w v xs) (h : (xs.length : Int) ≤ left) (hl : left ≤ 1048576) :
    Calls Try.prog 47 #[v, .int .i64 left] w fun e w' => e = .returned (.int .i64 (left - xs.length)) ∧ w = w' := by
  obtain ⟨A, c, rfl, hac, hac', _⟩ := hv.open_
  go_enter Try.func47, Try.ntmps47
  go_wp2
  go_ret
  exact ⟨rfl, rfl⟩
set_option maxHeartbeats 400000 in
theorem szInt64S_big (v : Value) (xs : List Int) (left : Int) (w : World) (hv : Sl w v xs) (h : left < (xs.length : Int)) (h0 : 0 ≤ left) :
    Calls Try.prog 47 #[v, .int .i64 left] w fun e w' => e = .returned (.int .i64 (-1)) ∧ w = w' := by
  obtain ⟨A, c, rfl, hac, hac', _⟩ := hv.open_
  go_enter Try.func47, Try.ntmps47
  go_wp2
  go_ret
  exact ⟨rfl, rfl⟩

set_option maxHeartbeats 1000000 in
theorem toInt64S_any (v : Value) (xs : List Int) (w : World) (hv : Sl w v xs) (hl : xs.length ≤ 1048576) :
    Calls Try.prog 43 #[v] w fun e w' => ∃ v', e = .returned v' ∧ w'.ownsRow w.heap.size 2 1 v' xs.length (I64 xs) ∧ Below w.heap.size w w' := by
  obtain ⟨A, c, rfl, hac, hac', HA⟩ := hv.open_
  obtain ⟨i0, hi, hz0, hz1, hz2⟩ := info_parts int_info
  have HS := Lib.hid hv
  clear hv
  go_enter Try.func43, Try.ntmps43
  go_wp2_with (at_make; refine wpList_make_full _ rfl _ _ 60 rfl w.heap.size 2 i0 _ 1 Try.underlying60 hi hz0 hz1 _ _ _ _ xs.length rfl rfl rfl rfl (by rw [hz2]; omega) (by simp only [maxLen]; omega) (Nat.le_refl _) ?_; intro w1 hown hg)
  have hown1 : w1.ownsRow w.heap.size 2 1 (.slice (some ⟨w.heap.size, 0, none⟩) xs.length xs.length) xs.length (I64 (copied xs 0)) := by
    rw [copied_zero, ← I64_replicate, ← toList_madeCells_one]; simpa [Value.cells] using hown
  have hb1 : Below w.heap.size w w1 := below_of_grown hg (Nat.le_refl _) (fun k hk => by cases hk)
  clear hown hg
  go_wp2
  go_loopw [4] (fun i wr => ∃ k : Nat, k ≤ xs.length ∧ i = .int .i64 k ∧ wr.ownsRow w.heap.size 2 1 (.slice (some ⟨w.heap.size, 0, none⟩) xs.length xs.length) xs.length (I64 (copied xs k)) ∧ Below w.heap.size w wr) (fun i _ => xs.length - (intOf i).toNat)
  case atStart => exact ⟨0, Nat.zero_le _, rfl, hown1, hb1⟩
  case round =>
    obtain ⟨k, hk, rfl, hown, hb⟩ := hrel
    by_cases hlt : k < xs.length
    · obtain ⟨ba, oa, rfl, hba, hca⟩ := HA.out k hlt
      have ca : wr.cell? ⟨ba, oa + k, none⟩ = some (.int .i64 (ix xs k)) := (hb.cell (p := ⟨ba, oa + k, none⟩) hba).trans (hca k hlt)
      have co := hown.cellAt k (by omega)
      rw [I64_get (by rw [copied_length hk]; exact hlt)] at co
      have hfz := hown.frozenAt k
      obtain ⟨hs1, hs2⟩ := hown.stored k (.int .i64 (ix xs k))
      rw [copied_set hlt] at hs1
      have H1 := Lib.hid hs1
      have H2 := Lib.hid (hb.setCell (p := ⟨w.heap.size, k, none⟩) (Nat.le_refl _) (.int .i64 (ix xs k)))
      clear hs1 hs2 hb hown hca HA HS
      go_wp2
      go_roundw
      case rel => exact ⟨k + 1, by omega, by go_num, H1.out, H2.out⟩
      case measure => simp [intOf]; omega
    · have : k = xs.length := by omega
      subst this
      rw [copied_all] at hown
      go_wp2
      go_ret
      exact ⟨_, rfl, hown, hb⟩
end Go.Proofs.Ytgaohmbgjjhdbaa
