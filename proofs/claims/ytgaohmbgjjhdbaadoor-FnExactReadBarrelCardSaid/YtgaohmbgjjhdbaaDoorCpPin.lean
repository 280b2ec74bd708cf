/- Contracts of szPinS and toPinS: the measure of a slice of pins, and its copy. -/
import Derived.Test.YtgaohmbgjjhdbaaDoorPxPin
import Derived.OwnWalk
namespace Go.Proofs.YtgaohmbgjjhdbaaDoor
open Go.RowKit

/-- The first k pairs of ps, zeros behind. -/
def copP (ps : List (Int × Int)) (k : Nat) : List (Int × Int) := ps.take k ++ List.replicate (ps.length - k) (0, 0)
theorem copP_zero (ps : List (Int × Int)) : copP ps 0 = List.replicate ps.length (0, 0) := by simp [copP]
theorem copP_all (ps : List (Int × Int)) : copP ps ps.length = ps := by simp [copP]
theorem copP_length {ps : List (Int × Int)} {k : Nat} (h : k ≤ ps.length) : (copP ps k).length = ps.length := by
  simp [copP]; omega
theorem copP_set {ps : List (Int × Int)} {k : Nat} (h : k < ps.length) : ((P64 (copP ps k)).set (k * 2) (.int .i64 (pi ps k).1)).set (k * 2 + 1) (.int .i64 (pi ps k).2) = P64 (copP ps (k + 1)) := by
  rw [P64_set (by rw [copP_length (by omega)]; exact h)]
  congr 1
  have hl : (ps.take k).length = k := by rw [List.length_take]; omega
  obtain ⟨m, hm⟩ : ∃ m, ps.length - k = m + 1 := ⟨ps.length - k - 1, by omega⟩
  have hm' : ps.length - (k + 1) = m := by omega
  rw [copP, copP, hm, hm', List.set_append_right _ _ (by omega), hl, Nat.sub_self, List.take_succ_eq_append_getElem h, pi_eq h, List.append_assoc]
  rfl
theorem P64_replicate (n : Nat) : P64 (List.replicate n (0, 0)) = List.replicate (n * 2) (Value.int .i64 0) := by
  induction n with
  | zero => rfl
  | succ n ih =>
    rw [List.replicate_succ, P64, ih, Nat.add_mul, Nat.one_mul, List.replicate_succ, List.replicate_succ]

theorem toList_madeCells_two (z : Value) (n : Nat) : (madeCells #[z, z] n).toList = List.replicate n z := by
  apply List.ext_getElem?
  intro j
  by_cases hj : j < n
  · have h2 : j % 2 = 0 ∨ j % 2 = 1 := by omega
    rcases h2 with h | h <;> simp [madeCells, hj, h]
  · simp [madeCells, hj]
set_option maxHeartbeats 400000 in
theorem szPinS_fits (v : Value) (ps : List (Int × Int)) (left : Int) (w : World) (hv : SlP w v ps) (h : (ps.length : Int) ≤ left) (hl : left ≤ 1048576) :
    Calls Tryd.prog 14 #[v, .int .i64 left] w fun e w' => e = .returned (.int .i64 (left - ps.length)) ∧ w = w' := by
  obtain ⟨A, c, rfl, hac, hac', _⟩ := hv.open_
  go_enter Tryd.func14, Tryd.ntmps14
  go_wp2
  go_ret
  exact ⟨rfl, rfl⟩
set_option maxHeartbeats 400000 in
theorem szPinS_big (v : Value) (ps : List (Int × Int)) (left : Int) (w : World) (hv : SlP w v ps) (h : left < (ps.length : Int)) (h0 : 0 ≤ left) :
    Calls Tryd.prog 14 #[v, .int .i64 left] w fun e w' => e = .returned (.int .i64 (-1)) ∧ w = w' := by
  obtain ⟨A, c, rfl, hac, hac', _⟩ := hv.open_
  go_enter Tryd.func14, Tryd.ntmps14
  go_wp2
  go_ret
  exact ⟨rfl, rfl⟩

set_option maxHeartbeats 2000000 in
theorem toPinS_any (v : Value) (ps : List (Int × Int)) (w : World) (hv : SlP w v ps) (hl : ps.length ≤ 1048576) :
    Calls Tryd.prog 17 #[v] w fun e w' => ∃ v', e = .returned v' ∧ w'.ownsRow w.heap.size 51 2 v' ps.length (P64 ps) ∧ Below w.heap.size w w' := by
  obtain ⟨A, c, rfl, hac, hac', HA⟩ := hv.open_
  obtain ⟨i0, hi, hz0, hz1, hz2⟩ := info_parts pin_info
  clear hv
  go_enter Tryd.func17, Tryd.ntmps17
  go_wp2_with (at_make; refine wpList_make_full _ rfl _ _ 27 rfl w.heap.size 51 i0 _ 2 Tryd.underlying27 hi hz0 hz1 _ _ _ _ ps.length rfl rfl rfl rfl (by rw [hz2]; omega) (by simp only [maxLen]; omega) (Nat.le_refl _) ?_; intro w1 hown hg)
  have hown1 : w1.ownsRow w.heap.size 51 2 (.slice (some ⟨w.heap.size, 0, none⟩) ps.length ps.length) ps.length (P64 (copP ps 0)) := by
    rw [copP_zero, P64_replicate, ← toList_madeCells_two]; simpa [Value.cells] using hown
  have hb1 : Below w.heap.size w w1 := below_of_grown hg (Nat.le_refl _) (fun k hk => by cases hk)
  clear hown hg
  go_wp2
  go_loopw [4] (fun i wr => ∃ k : Nat, k ≤ ps.length ∧ i = .int .i64 k ∧ wr.ownsRow w.heap.size 51 2 (.slice (some ⟨w.heap.size, 0, none⟩) ps.length ps.length) ps.length (P64 (copP ps k)) ∧ Below w.heap.size w wr) (fun i _ => ps.length - (intOf i).toNat)
  case atStart => exact ⟨0, Nat.zero_le _, rfl, hown1, hb1⟩
  case round =>
    obtain ⟨k, hk, rfl, hown, hb⟩ := hrel
    by_cases hlt : k < ps.length
    · obtain ⟨ba, oa, rfl, hba, hca⟩ := HA.out k hlt
      have a0 : wr.cell? ⟨ba, oa + k * 2, none⟩ = _ := (hb.cell (p := ⟨ba, oa + k * 2, none⟩) hba).trans (hca k hlt).1
      have a1 : wr.cell? ⟨ba, oa + k * 2 + 1, none⟩ = _ := (hb.cell (p := ⟨ba, oa + (k * 2 + 1), none⟩) hba).trans (hca k hlt).2
      have i1 : (k : Int) < (ps.length : Int) := by omega
      have HO := Lib.hid hown
      clear hca HA hown
      go_wp2_with fail
      refine (toPin_any _ _ _).mono ?_
      rintro e w2 ⟨rfl, hb2⟩
      have hown := own_below HO.out hb2
      have hget := P64_get (ps := copP ps k) (k := k) (by rw [copP_length hk]; exact hlt)
      have c0 := hown.cellAt (k * 2) (by omega)
      rw [hget.1] at c0
      have c1 := hown.cellAt (k * 2 + 1) (by omega)
      rw [hget.2] at c1
      have f0 := hown.frozenAt (k * 2)
      have f1 := hown.frozenAt (k * 2 + 1)
      obtain ⟨hs1, hs2⟩ := hown.stored (k * 2) (.int .i64 (pi ps k).1)
      obtain ⟨hs3, hs4⟩ := hs1.stored (k * 2 + 1) (.int .i64 (pi ps k).2)
      rw [copP_set hlt] at hs3
      have HS := Lib.hid hs3
      have HB := Lib.hid (((hb.trans (hb2.mono hb.size)).setCell (p := ⟨w.heap.size, k * 2, none⟩) (Nat.le_refl _) (.int .i64 (pi ps k).1)).setCell (p := ⟨w.heap.size, k * 2 + 1, none⟩) (Nat.le_refl _) (.int .i64 (pi ps k).2))
      clear hs1 hs2 hs3 hs4 hb hb2 hown hget a0 a1 HO
      go_wp2
      go_roundw
      case rel => exact ⟨k + 1, by omega, by go_num, HS.out, HB.out⟩
      case measure => simp [intOf]; omega
    · have : k = ps.length := by omega
      subst this
      rw [copP_all] at hown
      go_wp2
      go_ret
      exact ⟨_, rfl, hown, hb⟩
end Go.Proofs.YtgaohmbgjjhdbaaDoor
