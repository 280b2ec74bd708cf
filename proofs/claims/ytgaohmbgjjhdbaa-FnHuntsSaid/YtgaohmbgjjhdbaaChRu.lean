/- Chimes: TrueRows walked, in the program and in the reference. -/
import Derived.Test.YtgaohmbgjjhdbaaChRt
namespace Go.Proofs.Ytgaohmbgjjhdbaa
open Go.RowKit
attribute [local go_sem ↓] Go.wp_at_zero Go.wp_at_succ
attribute [local go_sem] cell?_grow frozen?_grow

set_option maxRecDepth 100000 in
set_option maxHeartbeats 8000000 in
theorem TrueRows_i (v : Value) (R : List (List Int)) (w : World) (hv : RdR w v R) (hl : ∀ i, i < R.length → (rx R i).length ≤ 134217728) :
    Calls Try.prog 12 #[v] w fun e w' => e = .returned (.bool (trueB R)) ∧ Below w.heap.size w w' := by
  have HV := Lib.hid hv
  have HRB := Lib.hid (rowBells_any v R w hv hl)
  obtain ⟨A, c, rfl, hac, hac'⟩ := hv.form
  clear hv hl
  rcases Bool.eq_false_or_eq_true (rowK R) with hk | hk
  · have HK := Lib.hid hk
    have HN := Lib.hid (rn_t hk)
    obtain ⟨h0, ⟨l1, l2⟩, _⟩ := rowK_iff.1 hk
    have ln : (((rx R 0).length : Int) == 0) = false := by
      have : ¬ ((rx R 0).length : Int) = 0 := by omega
      simpa using this
    clear hk
    go_enter Try.func12, Try.ntmps12
    go_wp2_with fail
    refine HRB.out.mono ?_
    rintro e w1 ⟨rfl, hb1⟩
    rw [HN.out]
    have HB1 := Lib.hid hb1
    clear hb1
    go_wp2_with fail
    go_loopw [2, 14] (fun r i wr => r = .bool false ∧ ∃ k : Nat, k ≤ R.length ∧ i = .int .i64 k ∧ Hid (GoodTo R k) ∧ Below w.heap.size w wr) (fun _ i _ => R.length - (intOf i).toNat)
    case atStart => exact ⟨rfl, 0, Nat.zero_le _, rfl, GoodTo.zero _, HB1.out⟩
    case round =>
      obtain ⟨rfl, k, hkl, rfl, hG, hB⟩ := hrel
      obtain ⟨wo, rfl⟩ : ∃ x : World, x = wr := ⟨_, rfl⟩
      have HB := Lib.hid hB
      by_cases hlt : k < R.length
      · obtain ⟨b1, o1, A1, c1, rfl, hb1, hu1, hs1⟩ := (HV.out.below hB).at_ hlt
        have i1 : (k : Int) < (R.length : Int) := by omega
        have ikc : (k : Int) ≤ (c : Int) := by omega
        have HS1 := Lib.hid hs1
        obtain ⟨f1, f2, f3⟩ := row_facts HK.out hlt
        have F1 := Lib.hid f1
        have F2 := Lib.hid f2
        have hc1 : (rx R k).length ≤ c1 ∧ c1 ≤ 9223372036854775807 := by
          obtain ⟨_, _, e, h1, h2, _⟩ := hs1.open_
          injection e with _ _ e3
          omega
        obtain ⟨hc1, hc2⟩ := hc1
        clear hB hs1 f2 f1
        go_wp2_with fail
        go_loopw [2, 23] (fun r i wr => r = .bool false ∧ ∃ j : Nat, j ≤ k ∧ i = .int .i64 j ∧ Hid (DupTo R k j) ∧ Below wo.heap.size wo wr) (fun _ i _ => k - (intOf i).toNat)
        case atStart => exact ⟨rfl, 0, Nat.zero_le _, rfl, DupTo.zero _ _, Below.refl _ _⟩
        case round =>
          obtain ⟨rfl, j, hj, rfl, hD, hB2⟩ := hrel
          obtain ⟨wi, rfl⟩ : ∃ x : World, x = wr := ⟨_, rfl⟩
          have HB2 : Hid (Below w.heap.size w wi) := HB.out.trans (hB2.mono HB.out.size)
          have HB3 := Lib.hid hB2
          by_cases hjk : j < k
          · obtain ⟨b2, o2, A2, c2, e2, hb2, hu2, hs2⟩ := (HV.out.below HB2.out).at_ (i := j) (by omega)
            injection e2 with e2
            injection e2 with e2 e3
            subst e2 e3
            have HS2 := Lib.hid hs2
            have HS3 := Lib.hid (HS1.out.below hB2)
            have i2 : (j : Int) < (k : Int) := by omega
            clear hs2 hB2 hu1
            go_wp2_with fail
            refine (EqualN_any _ _ (rx R k) (rx R j) _ HS3.out HS2.out).mono ?_
            rintro e w2 ⟨rfl, n2, rfl⟩
            have HB4 : Hid (Below wo.heap.size wo (wi.drewN n2)) := below_drewN HB3.out _
            rcases Bool.eq_false_or_eq_true (eqL (rx R k) (rx R j)) with he | he
            · have HE := Lib.hid (tr_dup hlt hjk he)
              rw [he]
              clear he
              go_wp2
              go_ret
              exact ⟨ret_b HE.out.symm, below_drewN HB2.out _⟩
            · have HE := Lib.hid he
              rw [he]
              clear he
              go_wp2
              go_roundw
              case rel => exact ⟨rfl, j + 1, by omega, by go_num, hD.out.succ HE.out, HB4.out⟩
              case measure => simp [intOf]; omega
          · obtain rfl : j = k := by omega
            have hD' := hD
            clear hu1 hB2
            go_wp2_with fail
            go_loopw [2, 33] (fun r i wr => r = .bool false ∧ ∃ a : Nat, a ≤ (rx R j).length ∧ i = .int .i64 a ∧ Hid (0 < j → NearTo R j a) ∧ Below wi.heap.size wi wr) (fun _ i _ => (rx R j).length - (intOf i).toNat)
            case atStart => exact ⟨rfl, 0, Nat.zero_le _, rfl, fun _ => NearTo.zero _ _, Below.refl _ _⟩
            case round =>
              obtain ⟨rfl, a, ha, rfl, hN, hB5⟩ := hrel
              have HB6 : Hid (Below w.heap.size w wr) := HB2.out.trans (hB5.mono HB2.out.size)
              have HB7 := Lib.hid hB5
              by_cases hal : a < (rx R j).length
              · obtain ⟨_, _, e9, _, _, HA9⟩ := (HS1.out.below (HB3.out.trans (hB5.mono HB3.out.size))).open_
                injection e9 with e9 _ e10
                subst e9 e10
                obtain ⟨b3, o3, rfl, hb3, hc3⟩ := HA9.out a hal
                have a3 := hc3 a hal
                have i3 : (a : Int) < ((rx R j).length : Int) := by omega
                clear HA9 hc3 hB5
                by_cases hj0 : 0 < j
                · obtain ⟨b4, o4, A4, c4, e4, hb4, hu4, hs4⟩ := (HV.out.below HB6.out).at_ (i := j - 1) (by omega)
                  injection e4 with e4
                  injection e4 with e4 e5
                  subst e4 e5
                  obtain ⟨g1, g2, g3⟩ := row_facts HK.out (k := j - 1) (by omega)
                  have hm := row_mem HK.out hlt hal
                  have hni := near_i g2 hm (show a < (rx R (j - 1)).length by have := F1.out; omega)
                  have hq := List.idxOf_lt_length_of_mem hm
                  have HS4 := Lib.hid hs4
                  have i6 : (rx R (j - 1)).length ≤ 8 := by omega
                  have i7 : (rx R j).length ≤ 8 := by have := F1.out; omega
                  have HM := Lib.hid hm
                  obtain ⟨q, hqe⟩ : ∃ q, q = (rx R (j - 1)).idxOf (ix (rx R j) a) := ⟨_, rfl⟩
                  have HQ := Lib.hid hqe
                  rw [← hqe] at hq hni
                  have e6 : IntKind.i64.wrap ((q : Int) - (a : Int)) = (q : Int) - (a : Int) := IntWalk.i64_in _ (by omega)
                  have e7 : IntKind.i64.wrap ((j : Int) - 1) = ((j - 1 : Nat) : Int) := by rw [IntWalk.i64_in _ (by omega)]; omega
                  have e8 : (j : Int) - 1 = ((j - 1 : Nat) : Int) := by omega
                  have i4 : (0 : Int) < (j : Int) := by omega
                  have i5 : ((j - 1 : Nat) : Int) < (R.length : Int) := by omega
                  have HAB := Lib.hid (fun W => abs_any ((q : Int) - (a : Int)) W (by omega) (by omega))
                  obtain ⟨d, hd⟩ : ∃ d : Int, d = (if (q : Int) - (a : Int) < 0 then -((q : Int) - (a : Int)) else (q : Int) - (a : Int)) := ⟨_, rfl⟩
                  rw [← hd] at hni HAB
                  clear hd hqe hm g2 hs4 g1
                  go_wp2_with fail
                  refine (IndexN_any _ (rx R (j - 1)) (ix (rx R j) a) _ HS4.out HM.out).mono ?_
                  rintro e w' ⟨rfl, rfl⟩
                  rw [← HQ.out]
                  go_wp2_with fail
                  refine (HAB.out _).mono ?_
                  rintro e w' ⟨rfl, rfl⟩
                  rcases Bool.eq_false_or_eq_true (nearB (rx R (j - 1)) (ix (rx R j) a) a) with hn | hn
                  · have HN2 := Lib.hid hn
                    have hd2 : ¬ 1 < d := by rw [hn] at hni; simpa using hni
                    clear hn hni
                    go_wp2
                    go_roundw
                    case rel => exact ⟨rfl, a + 1, by omega, by go_num, fun h => (hN.out h).succ HN2.out, HB7.out⟩
                    case measure => simp [intOf]; omega
                  · have HN2 := Lib.hid (tr_near hlt hj0 hal hn)
                    have hd2 : 1 < d := by rw [hn] at hni; simpa using hni
                    clear hn hni
                    go_wp2
                    go_ret
                    exact ⟨ret_b HN2.out.symm, HB6.out⟩
                · obtain rfl : j = 0 := by omega
                  go_wp2
                  go_roundw
                  case rel => exact ⟨rfl, a + 1, by omega, by go_num, fun h => absurd h (by omega), HB7.out⟩
                  case measure => simp [intOf]; omega
              · obtain rfl : a = (rx R j).length := by omega
                have HG := Lib.hid (hG.out.succ ⟨hD'.out, hN.out⟩)
                clear hB5
                go_wp2
                go_roundw
                case rel => exact ⟨rfl, j + 1, by omega, by go_num, HG.out, HB6.out⟩
                case measure => simp [intOf]; omega
      · obtain rfl : k = R.length := by omega
        have HT := Lib.hid (tr_t HK.out hG.out)
        go_wp2
        go_ret
        exact ⟨ret_b HT.out.symm, HB.out⟩
  · have HN := Lib.hid (rn_f hk)
    have HT := Lib.hid (tr_f hk)
    clear hk
    go_enter Try.func12, Try.ntmps12
    go_wp2_with fail
    refine HRB.out.mono ?_
    rintro e w1 ⟨rfl, hb1⟩
    rw [HN.out]
    go_wp2
    go_ret
    exact ⟨ret_b HT.out.symm, hb1⟩
end Go.Proofs.Ytgaohmbgjjhdbaa
