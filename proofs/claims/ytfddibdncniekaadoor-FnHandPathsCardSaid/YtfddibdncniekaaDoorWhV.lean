/- Count wheels: which wheels and notches are valid, the gaps, and runs of gaps, in the program and in the reference. -/
import Derived.Test.YtfddibdncniekaaDoorBx
import Derived.Test.YtfddibdncniekaaDoorRkM
import Derived.Handy
import Derived.Deep.RegionHeld3
import Derived.Deep.DrawnRows
namespace Go.Proofs.YtfddibdncniekaaDoor
open Go.RowKit
attribute [local go_sem ↓] Go.wp_at_zero Go.wp_at_succ

/-- A valid wheel. -/
def whB (gs : List Int) : Bool := allBlows gs && inB gs.length 1 24
theorem whB_iff {gs : List Int} : whB gs = true ↔ (∀ g ∈ gs, 1 ≤ g ∧ g ≤ 12) ∧ 1 ≤ gs.length ∧ gs.length ≤ 24 := by
  simp only [whB, Bool.and_eq_true, allBlows_iff, inB_iff]
  constructor
  · rintro ⟨h1, h2, h3⟩; exact ⟨h1, by omega, by omega⟩
  · rintro ⟨h1, h2, h3⟩; exact ⟨h1, by omega, by omega⟩
/-- A gap; the first follows the last. -/
def gapM (gs : List Int) (k : Int) : Int := ix gs (k % (gs.length : Int)).toNat
theorem gap_ix {gs : List Int} (h : 1 ≤ gs.length) (k : Int) : 0 ≤ k % (gs.length : Int) ∧ k % (gs.length : Int) < gs.length ∧ (k % (gs.length : Int)).toNat < gs.length := by
  have h1 := Int.emod_nonneg k (show (gs.length : Int) ≠ 0 by omega)
  have h2 := Int.emod_lt_of_pos k (show (0 : Int) < (gs.length : Int) by omega)
  omega
theorem gapM_in {gs : List Int} (h : whB gs = true) (k : Int) : 1 ≤ gapM gs k ∧ gapM gs k ≤ 12 := by
  obtain ⟨h1, h2, h3⟩ := whB_iff.1 h
  exact h1 _ (ix_mem (gap_ix h2 k).2.2)
/-- Gaps from a notch on. -/
def manyM (gs : List Int) (k : Int) (n : Nat) : List Int := (List.range n).map fun j : Nat => gapM gs (k + (j : Int))
theorem manyM_length (gs : List Int) (k : Int) (n : Nat) : (manyM gs k n).length = n := by simp [manyM]
theorem manyM_succ (gs : List Int) (k : Int) (n : Nat) : manyM gs k (n + 1) = manyM gs k n ++ [gapM gs (k + (n : Int))] := by simp [manyM, List.range_succ]
theorem ix_manyM {gs : List Int} {k : Int} {n j : Nat} (h : j < n) : ix (manyM gs k n) j = gapM gs (k + (j : Int)) := by
  rw [ix_eq (by rw [manyM_length]; exact h)]; simp [manyM]
/-- The code of a wheel and a notch. -/
def whC (gs : List Int) (k : Int) : Int := if whB gs = true then (if inB k 0 ((gs.length : Int) - 1) = true then 0 else 2) else 1

set_option maxHeartbeats 400000 in
theorem isBlowsW_any (n : Int) (w : World) :
    Calls Tryd.prog 93 #[.int .i64 n] w fun e w' => e = .returned (.bool (inB n 1 12)) ∧ w = w' := by
  go_enter Tryd.func93, Tryd.ntmps93
  go_wp2_with (go_at_call 94; refine (within_any _ _ _ _).mono ?_; rintro e w' ⟨rfl, rfl⟩)
  go_ret
  exact ⟨rfl, rfl⟩
set_option maxHeartbeats 400000 in
theorem l20BlowsW_any (n : Int) (w : World) :
    Calls Tryd.prog 96 #[.int .i64 n] w fun e w' => e = .returned (.bool (inB n 1 12)) ∧ w = w' := by
  go_enter Tryd.func96, Tryd.ntmps96
  go_wp2_with (go_at_call 82; refine (l00In_any _ _ _ _).mono ?_; rintro e w' ⟨rfl, rfl⟩)
  go_ret
  exact ⟨rfl, rfl⟩

theorem inB_len {n : Nat} : inB (n : Int) 1 24 = (decide ((1 : Int) ≤ (n : Int)) && decide ((n : Int) ≤ 24)) := rfl

set_option maxHeartbeats 2000000 in
theorem ValidCountWheel_i (v : Value) (gs : List Int) (w : World) (hv : Sl w v gs) :
    Calls Tryd.prog 70 #[.agg #[v]] w fun e w' => e = .returned (.bool (whB gs)) ∧ Below w.heap.size w w' := by
  obtain ⟨A, c, rfl, hac, hac', HA⟩ := hv.open_
  clear hv
  go_enter Tryd.func70, Tryd.ntmps70
  go_wp2_with fail
  go_loop [8] (fun i => ∃ k : Nat, k ≤ gs.length ∧ i = .int .i64 k ∧ BlowsTo gs k) (fun i => gs.length - (intOf i).toNat)
  case atStart => exact ⟨0, Nat.zero_le _, rfl, BlowsTo.zero _⟩
  case round =>
    obtain ⟨k, hk, rfl, hbt⟩ := hrel
    by_cases hlt : k < gs.length
    · obtain ⟨ba, oa, rfl, hba, hca⟩ := HA.out k hlt
      have ca := hca k hlt
      clear hca HA
      by_cases hb : inB (ix gs k) 1 12 = true
      · go_wp2_with (go_at_call 93; refine (isBlowsW_any _ _).mono ?_; rintro e w' ⟨rfl, rfl⟩)
        go_round
        case rel => exact ⟨k + 1, by omega, by go_num, hbt.succ hb⟩
        case measure => simp [intOf]; omega
      · have hb' : inB (ix gs k) 1 12 = false := by simpa using hb
        have hf := allBlows_at hlt hb'
        clear hb
        go_wp2_with (go_at_call 93; refine (isBlowsW_any _ _).mono ?_; rintro e w' ⟨rfl, rfl⟩)
        go_ret
        exact ⟨ret_b (by rw [whB, hf]; rfl), by go_grown⟩
    · have hall := hbt.all (by omega : gs.length ≤ k)
      by_cases h1 : 1 ≤ gs.length
      · have d1 : decide ((1 : Int) ≤ (gs.length : Int)) = true := decide_eq_true (by omega)
        go_wp2
        go_ret
        exact ⟨ret_b (by rw [whB, hall, inB_len, d1]; simp), by go_grown⟩
      · have d1 : decide ((1 : Int) ≤ (gs.length : Int)) = false := decide_eq_false (by omega)
        go_wp2
        go_ret
        exact ⟨ret_b (by rw [whB, hall, inB_len, d1]; simp), by go_grown⟩

set_option maxHeartbeats 2000000 in
theorem l20Ok_s (v : Value) (gs : List Int) (w : World) (hv : Sl w v gs) :
    Calls Tryd.prog 74 #[.agg #[v]] w fun e w' => e = .returned (.bool (whB gs)) ∧ Below w.heap.size w w' := by
  obtain ⟨A, c, rfl, hac, hac', HA⟩ := hv.open_
  clear hv
  go_enter Tryd.func74, Tryd.ntmps74
  go_wp2_with fail
  go_loop [3] (fun i => ∃ k : Nat, k ≤ gs.length ∧ i = .int .i64 k ∧ BlowsTo gs k) (fun i => gs.length - (intOf i).toNat)
  case atStart => exact ⟨0, Nat.zero_le _, rfl, BlowsTo.zero _⟩
  case round =>
    obtain ⟨k, hk, rfl, hbt⟩ := hrel
    by_cases hlt : k < gs.length
    · obtain ⟨ba, oa, rfl, hba, hca⟩ := HA.out k hlt
      have ca := hca k hlt
      clear hca HA
      by_cases hb : inB (ix gs k) 1 12 = true
      · go_wp2_with (go_at_call 96; refine (l20BlowsW_any _ _).mono ?_; rintro e w' ⟨rfl, rfl⟩)
        go_round
        case rel => exact ⟨k + 1, by omega, by go_num, hbt.succ hb⟩
        case measure => simp [intOf]; omega
      · have hb' : inB (ix gs k) 1 12 = false := by simpa using hb
        have hf := allBlows_at hlt hb'
        clear hb
        go_wp2_with (go_at_call 96; refine (l20BlowsW_any _ _).mono ?_; rintro e w' ⟨rfl, rfl⟩)
        go_ret
        exact ⟨ret_b (by rw [whB, hf]; rfl), by go_grown⟩
    · have hall := hbt.all (by omega : gs.length ≤ k)
      go_wp2_with (go_at_call 82; refine (l00In_any _ _ _ _).mono ?_; rintro e w' ⟨rfl, rfl⟩)
      go_ret
      exact ⟨ret_b (by rw [whB, hall]; simp), by go_grown⟩

set_option maxHeartbeats 1000000 in
theorem isNotch_any (v : Value) (gs : List Int) (k : Int) (w : World) (hv : Sl w v gs) :
    Calls Tryd.prog 95 #[.agg #[v], .int .i64 k] w fun e w' => e = .returned (.bool (inB k 0 ((gs.length : Int) - 1))) ∧ Below w.heap.size w w' := by
  obtain ⟨A, c, rfl, hac, hac', HA⟩ := hv.open_
  clear hv HA
  go_enter Tryd.func95, Tryd.ntmps95
  go_wp2_with (go_at_call 94; refine (within_any _ _ _ _).mono ?_; rintro e w' ⟨rfl, rfl⟩)
  go_ret
  exact ⟨rfl, by go_grown⟩

theorem whC_bad {gs : List Int} {k : Int} (h : whB gs = false) : whC gs k = 1 := by rw [whC, if_neg (by simp [h])]
theorem whC_far {gs : List Int} {k : Int} (h : whB gs = true) (h' : inB k 0 ((gs.length : Int) - 1) = false) : whC gs k = 2 := by rw [whC, if_pos h, if_neg (by simp [h'])]
theorem whC_ok {gs : List Int} {k : Int} (h : whB gs = true) (h' : inB k 0 ((gs.length : Int) - 1) = true) : whC gs k = 0 := by rw [whC, if_pos h, if_pos h']

set_option maxHeartbeats 4000000 in
theorem l20Many_any (v : Value) (gs : List Int) (k : Int) (n : Nat) (w : World) (hv : Sl w v gs) (h1 : 1 ≤ gs.length) (h2 : 0 ≤ k) (h3 : k ≤ 1000000) (h4 : n ≤ 1000000) :
    Calls Tryd.prog 110 #[.agg #[v], .int .i64 k, .int .i64 n] w fun e w' => ∃ v', e = .returned v' ∧ w'.ownsRow w.heap.size 2 1 v' (manyM gs k n).length (I64 (manyM gs k n)) ∧ Below w.heap.size w w' := by
  obtain ⟨A, c, rfl, hac, hac', HA⟩ := hv.open_
  clear hv
  have g1 : (1 : Int) ≤ (gs.length : Int) := by omega
  go_enter Tryd.func110, Tryd.ntmps110
  have k0 := Lib.hid (bx1 w 31 #[.slice A gs.length c])
  go_wp2_with fail
  go_loopw [7, 8] (fun x i wr => ∃ j : Nat, j ≤ n ∧ i = .int .i64 j ∧ wr.ownsRow (w.heap.size + 1) 2 1 x (manyM gs k j).length (I64 (manyM gs k j)) ∧ Blk wr w.heap.size 31 #[.slice A gs.length c] ∧ Below w.heap.size w wr) (fun _ i _ => n - (intOf i).toNat)
  case atStart => exact ⟨0, by omega, by go_num, own_lit (w.alloc (.cells #[.slice A gs.length c] 31)) (w.heap.size + 1) (by simp) (Nat.le_refl _) _, k0.out.alloc _, by go_grown⟩
  case round =>
    obtain ⟨j, hj, rfl, hown, b0, hB⟩ := hrel
    obtain ⟨Ax, cx, rfl⟩ := own_form hown
    by_cases hlt : j < n
    · have i0 : (j : Int) < (n : Int) := by omega
      obtain ⟨i1, i2, i3⟩ := gap_ix h1 (k + (j : Int))
      obtain ⟨b, o, rfl, hb, hc⟩ := HA.out _ i3
      have HSr := Lib.hid (fun (w' : World) (hw : Below (w.heap.size + 1) wr w') => (⟨(b0.belowB hw (Nat.lt_succ_self _)).cell 0 rfl, (World.cell?_of_block (a := ⟨b, o + ((k + (j : Int)) % (gs.length : Int)).toNat, none⟩) (hw.block b (by omega))).trans ((hB.cell (p := ⟨b, o + ((k + (j : Int)) % (gs.length : Int)).toNat, none⟩) hb).trans (hc _ i3))⟩ : w'.cell? ⟨w.heap.size, 0, none⟩ = some (.slice (some ⟨b, o, none⟩) gs.length c) ∧ w'.cell? ⟨b, o + ((k + (j : Int)) % (gs.length : Int)).toNat, none⟩ = some (.int .i64 (gapM gs (k + (j : Int))))))
      have hsz : w.heap.size + 1 ≤ wr.heap.size := b0.lt
      obtain ⟨q0, q1⟩ := HSr.out wr (Below.refl _ _)
      have HM := Lib.hid (manyM_succ gs k j)
      have hll : (manyM gs k j).length ≤ 134217728 := by rw [manyM_length]; omega
      have HO := Lib.hid hown
      have HK := Lib.hid b0
      have e0 : IntKind.i64.wrap (k + (j : Int)) = k + (j : Int) := IntWalk.i64_in _ (by omega)
      have e1 : (k + (j : Int)).tmod (gs.length : Int) = (k + (j : Int)) % (gs.length : Int) := IntWalk.rem_in _ _ (by omega)
      have e2 : IntKind.i64.wrap ((k + (j : Int)) % (gs.length : Int)) = (k + (j : Int)) % (gs.length : Int) := IntWalk.i64_in _ (by omega)
      have i4 : 0 ≤ k + (j : Int) := by omega
      have n1 : ¬ gs = [] := fun e => by rw [e] at h1; simp at h1
      have n2 : ((gs.length : Int) == 0) = false := by simp [n1]
      have n3 : ¬ (gs.length : Int) = 0 := by omega
      clear hown b0 HA hc
      go_wp2_with fail
      go_region_held3 (fun w' => w'.cell? ⟨w.heap.size, 0, none⟩ = some (.slice (some ⟨b, o, none⟩) gs.length c) ∧ w'.cell? ⟨b, o + ((k + (j : Int)) % (gs.length : Int)).toNat, none⟩ = some (.int .i64 (gapM gs (k + (j : Int))))) (first | assumption | (refine HSr.out _ ?_; go_grown; done) | (refine HSr.out _ (Below.trans ?_ hb3); go_grown; done) | go_keep)
        ((refine step_app1 rfl _ _ (by rfl) (w.heap.size + 1) _ (manyM gs k j) (by rfl) ((HO.out.alloc _).drew) _ wr.heap.size (by rfl) (heap_alloc_new wr _) hll (by simp; omega) ?_; intro b3 c3 w3 hown3 hb3 hg3))
      have B3 : Below (w.heap.size + 1) wr w3 := Below.trans (by go_grown) hb3
      have hk3 := Lib.hid (HK.out.belowB B3 (Nat.lt_succ_self _))
      have HO3 := Lib.hid hown3
      have B4 : Below w.heap.size w w3 := hB.trans (B3.mono (by omega))
      clear hb3 hg3 hown3 e0 e1 e2 B3
      go_wp2
      go_roundw
      case rel => exact ⟨j + 1, by omega, by go_num, by rw [HM.out]; simpa using HO3.out, hk3.out, B4⟩
      case measure => simp [intOf]; omega
    · obtain rfl : j = n := by omega
      have HO := Lib.hid hown
      clear hown b0
      go_wp2
      go_ret
      exact ⟨_, rfl, own_mono HO.out (by omega), hB⟩
end Go.Proofs.YtfddibdncniekaaDoor
