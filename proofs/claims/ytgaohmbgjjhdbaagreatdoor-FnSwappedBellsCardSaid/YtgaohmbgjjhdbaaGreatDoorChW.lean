/- Chimes: the library's sort at numbers, and the program's isOrder. -/
import Derived.Test.YtgaohmbgjjhdbaaGreatDoorChW0
import Derived.Test.YtgaohmbgjjhdbaaGreatDoorShCb
import Derived.Sort.OwnSortedInts
namespace Go.Proofs.YtgaohmbgjjhdbaaGreatDoor
open Go.RowKit Go.Lib Go.Sort
attribute [local go_sem ↓] Go.wp_at_zero Go.wp_at_succ

theorem SortNum_any (v : Value) (xs : List Int) (base : Nat) (w : World) (ho : w.ownsRow base 2 1 v xs.length (I64 xs)) (hn : xs.length ≤ 134217728) :
    Calls Tryz.prog 46 #[v] w fun e w' => e = .returned (.tuple #[]) ∧ w'.ownsRow base 2 1 v (srtI xs).length (I64 (srtI xs)) ∧ Below base w w' := by
  rcases ho.2 with ⟨rfl, h0⟩ | ⟨g, cap, cur, rfl, hb, hg, h1, h2, h3, ht⟩
  · have hx : xs = [] := List.eq_nil_of_length_eq_zero h0
    subst hx
    exact (AnyM.slices_Sort_int_none YtgaohmbgjjhdbaaGreatDoor.sortNum none 0 w).mono fun e w' ⟨he, hw⟩ => by
      subst hw; exact ⟨he, by rw [show srtI [] = [] by simp [srtI]]; exact ho, Below.refl _ _⟩
  · have hlt : g < w.heap.size := (Array.getElem?_eq_some_iff.1 hg).1
    rw [Nat.mul_one] at ht
    refine (AnyM.slices_Sort_int YtgaohmbgjjhdbaaGreatDoor.sortNum g 0 cap xs w (holds_of_blockI hg (by simpa [I64] using ht)) hlt (by omega)).mono ?_
    rintro e w' ⟨he, n, os, rfl⟩
    refine ⟨he, ?_, below_of_grown (grownBy_sortedI _) (by omega) fun k hk => by cases hk; exact hb⟩
    rw [srtI_length]
    exact ownsRow_sortedI (List.length_mergeSort xs) hb hg h1 h2 h3

set_option maxHeartbeats 4000000 in
theorem isOrder_any (v : Value) (xs : List Int) (n : Int) (w : World) (hv : Sl w v xs) (hn : xs.length ≤ 134217728) :
    Calls Tryz.prog 22 #[v, .int .i64 n] w fun e w' => e = .returned (.bool (ordB xs n)) ∧ Below w.heap.size w w' := by
  have HV := Lib.hid hv
  obtain ⟨A, c, rfl, hac, hac', HA⟩ := hv.open_
  clear hv HA
  go_enter Tryz.func22, Tryz.ntmps22
  go_wp2_with fail
  refine (CloneAll_any _ xs _ HV.out hn).mono ?_
  rintro e w1 ⟨u, rfl, ho1, hb1⟩
  have HO1 := Lib.hid ho1
  have HB1 := Lib.hid hb1
  clear ho1 hb1
  go_wp2_with fail
  refine (SortNum_any u xs _ _ HO1.out hn).mono ?_
  rintro e w2 ⟨rfl, ho2, hb2⟩
  have HB2 : Hid (Below w.heap.size w w2) := HB1.out.trans hb2
  obtain ⟨A2, c2, rfl⟩ := own_form ho2
  obtain ⟨A3, c3, e3, hac3, hac3', HA3⟩ := (Sl.of_own ho2).open_
  injection e3 with e31 _ e33
  subst e31 e33
  have HLs := Lib.hid (srtI_length xs)
  rw [HLs.out] at hac3 HA3 ⊢
  clear ho2 hb2 HO1 HB1
  go_wp2
  go_loop [14] (fun i => ∃ k : Nat, k ≤ xs.length ∧ i = .int .i64 k ∧ OrdTo (srtI xs) k) (fun i => xs.length - (intOf i).toNat)
  case atStart => exact ⟨0, Nat.zero_le _, rfl, OrdTo.zero _⟩
  case round =>
    obtain ⟨k, hk, rfl, hs⟩ := hrel
    by_cases hlt : k < xs.length
    · obtain ⟨ba, oa, rfl, hba, hca⟩ := HA3.out k hlt
      have ca := hca k hlt
      have i1 : (k : Int) < (xs.length : Int) := by omega
      clear hca HA3
      by_cases he : ix (srtI xs) k = k
      · have HE := Lib.hid he
        rw [he] at ca
        clear he
        go_wp2
        go_round
        case rel => exact ⟨k + 1, by omega, by go_num, hs.succ HE.out⟩
        case measure => simp [intOf]; omega
      · have hbq : (ix (srtI xs) k != (k : Int)) = true := by simp [he]
        have HE := Lib.hid he
        clear he
        go_wp2
        go_ret
        exact ⟨ret_b (ord_f2 (ord_not hlt HE.out)).symm, HB2.out⟩
    · obtain rfl : k = xs.length := by omega
      have HE := Lib.hid hs
      clear hs
      go_wp2
      go_ret
      exact ⟨ret_b (ord_i (sort_ordP HE.out)).symm, HB2.out⟩

end Go.Proofs.YtgaohmbgjjhdbaaGreatDoor
