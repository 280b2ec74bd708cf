/- Chimes: the text of a barrel in the reference (l01Dec, l22Text). -/
import Derived.Test.YtgaohmbgjjhdbaaGreatDoorTtB
import Derived.Laws.IdiomStrings
import Derived.Deep.CutBlock
import Derived.Deep.DeepCutAuto
namespace Go.Proofs.YtgaohmbgjjhdbaaGreatDoor
open Go.RowKit
attribute [local go_sem ↓] Go.wp_at_zero Go.wp_at_succ

theorem conv1 (w : World) (g c : Nat) (b : UInt8) (h : w.cell? ⟨g, 0, none⟩ = some (.int .u8 (b.toNat : Int))) :
    (convert 22 9 (.slice (some ⟨g, 0, none⟩) 1 c)).run Tryz.prog w = .ok (.string (bT [b])) w :=
  run_convert_bytes_back (P := Tryz.prog) w 22 9 5 ⟨g, 0, none⟩ c [b] Tryz.underlying22 Tryz.underlying5 Tryz.underlying9 (fun j hj => by
    obtain rfl : j = 0 := by simpa using hj
    exact h)
theorem lt_num {x : Int} (h0 : 0 ≤ x) (h1 : x ≤ 7) : IntKind.u8.wrap (97 + x) = 97 + x ∧ ((ltB x).toNat : Int) = 97 + x := by
  rcases (show x = 0 ∨ x = 1 ∨ x = 2 ∨ x = 3 ∨ x = 4 ∨ x = 5 ∨ x = 6 ∨ x = 7 by omega) with rfl | rfl | rfl | rfl | rfl | rfl | rfl | rfl <;> exact ⟨by decide +kernel, by decide +kernel⟩
theorem dg_num {n : Nat} (h0 : 1 ≤ n) (h1 : n ≤ 8) : IntKind.u8.wrap (48 + (n : Int)) = 48 + (n : Int) ∧ ((UInt8.ofNat (48 + n)).toNat : Int) = 48 + (n : Int) ∧ Lib.decDigits n = [UInt8.ofNat (48 + n)] := by
  refine ⟨?_, ?_, ?_⟩
  · rcases (show n = 1 ∨ n = 2 ∨ n = 3 ∨ n = 4 ∨ n = 5 ∨ n = 6 ∨ n = 7 ∨ n = 8 by omega) with rfl | rfl | rfl | rfl | rfl | rfl | rfl | rfl <;> decide +kernel
  · rcases (show n = 1 ∨ n = 2 ∨ n = 3 ∨ n = 4 ∨ n = 5 ∨ n = 6 ∨ n = 7 ∨ n = 8 by omega) with rfl | rfl | rfl | rfl | rfl | rfl | rfl | rfl <;> decide +kernel
  · rw [Lib.decDigits, dif_pos (by omega)]
set_option maxRecDepth 100000 in
set_option maxHeartbeats 4000000 in
theorem l01Dec_any (n : Nat) (h0 : 1 ≤ n) (h1 : n ≤ 8) (w : World) :
    Calls Tryz.prog 60 #[.int .i64 (n : Int)] w fun e w' => e = .returned (.string (bT (Lib.decDigits n))) ∧ Below w.heap.size w w' := by
  obtain ⟨e1, e2, e3⟩ := dg_num h0 h1
  have m1 : (n : Int).tmod 10 = (n : Int) := by rw [IntWalk.rem_in _ _ (by omega)]; omega
  have m2 : (n : Int).tdiv 10 = 0 := by rw [Int.tdiv_eq_ediv_of_nonneg (by omega)]; omega
  have n0 : ((n : Int) != 0) = true := by simp; omega
  have n1 : ¬ (n : Int) < 0 := by omega
  have n2 : ¬ n = 0 := by omega
  have HE := Lib.hid e3
  have kc := conv1 ((w.alloc (.cells #[] 5)).alloc (.cells #[.int .u8 (48 + (n : Int))] 5)) (w.heap.size + 1) 1 (UInt8.ofNat (48 + n)) (by rw [e2]; simp [go_sem])
  clear e2 e3
  go_enter Tryz.func60, Tryz.ntmps60
  go_wp2_with fail
  obtain ⟨W0, hW0⟩ : ∃ W0, W0 = w.alloc (.cells #[] 5) := ⟨_, rfl⟩
  obtain ⟨W1, hW1⟩ : ∃ W1, W1 = W0.alloc (.cells #[.int .u8 (48 + (n : Int))] 5) := ⟨_, rfl⟩
  go_loopw [3, 4, 5] (fun a3 a4 _ wr => (a4 = .int .i64 (n : Int) ∧ a3 = .slice (some ⟨w.heap.size, 0, none⟩) 0 0 ∧ wr = W0) ∨ (a4 = .int .i64 0 ∧ a3 = .slice (some ⟨w.heap.size + 1, 0, none⟩) 1 1 ∧ wr = W1)) (fun _ a _ _ => (intOf a).toNat)
  case atStart => exact Or.inl ⟨rfl, rfl, hW0.symm⟩
  case round =>
    rcases hrel with ⟨rfl, rfl, hw⟩ | ⟨rfl, rfl, hw⟩
    · subst hw
      go_wp2
      exact ⟨Or.inr ⟨rfl, rfl, by rw [hW1, hW0]⟩, by simp [intOf]; omega⟩
    · subst hw
      go_wp2
      go_ret
      exact ⟨by rw [HE.out, UInt8.ofNat_add]; rfl, by go_grown⟩

theorem tx_le (bl : Int) (ps : List (Int × Int)) (hp : ps.length ≤ 128) (hb : bl ≤ 8) {n : Nat} (h0 : 0 ≤ bl) (hn : n ≤ 64) : (txL bl ps n).length ≤ 1000000 - 1000 := by
  have h1 : (Lib.join (stsL ps n) [46]).length ≤ 200 * n := by
    clear hn
    induction n with
    | zero => simp [stsL_zero, Lib.join_nil]
    | succ n ih =>
      have hs := stL_length ps n
      by_cases h0 : n = 0
      · subst h0
        rw [stsL_succ, stsL_zero]
        simp only [List.nil_append, Lib.join_one]; omega
      · have hne : stsL ps n ≠ [] := fun e => by have := stsL_length ps n; rw [e] at this; simp at this; omega
        rw [stsL_succ, join_snoc _ _ _ hne]
        simp only [List.length_append, List.length_singleton]; omega
  have h2 := dec_le (n := bl.toNat) (by omega)
  rw [txL]
  simp only [List.length_append, List.length_singleton]
  omega
set_option maxRecDepth 100000 in
set_option maxHeartbeats 8000000 in
theorem l22Text_any (v : Value) (ps : List (Int × Int)) (S : Nat) (bl : Int) (w : World) (hv : SlP w v ps) (hs : brB (S : Int) bl ps = true) :
    Calls Tryz.prog 35 #[.agg #[.int .i64 (S : Int), .int .i64 bl, v]] w fun e w' => e = .returned (.string (bT (txL bl ps S))) ∧ Below w.heap.size w w' := by
  have HV := Lib.hid hv
  obtain ⟨⟨s1, s2⟩, ⟨l1, l2⟩, h3, hP⟩ := brB_iff.1 hs
  have HIN := Lib.hid (fun k (hk : k < ps.length) => pins_in hP hk)
  obtain ⟨A, c, rfl, hac, hac', HA⟩ := hv.open_
  obtain ⟨B, rfl⟩ := Int.eq_ofNat_of_zero_le (show 0 ≤ bl by omega)
  have HD := Lib.hid (fun w => l01Dec_any B (by omega) (by omega) w)
  clear hv hs hP
  go_enter Tryz.func35, Tryz.ntmps35
  have HK := Lib.hid (bx1 w 26 #[.int .i64 (S : Int), .int .i64 (B : Int), .slice A ps.length c])
  have hdl := dec_le (n := B) (by omega)
  have z0 := bT_size (Lib.decDigits B)
  have HT0 := Lib.hid (show bT (txL (B : Int) ps 0) = bT (Lib.decDigits B) ++ ⟨#[58]⟩ by rw [txL_zero, bT_app]; rfl)
  obtain ⟨bD, hbD⟩ : ∃ bD, bD = bT (Lib.decDigits B) := ⟨_, rfl⟩
  rw [← hbD] at HT0 z0 HD
  have y0 : bD.size ≤ 100 := by omega
  have n0 : ¬ 9223372036854775807 < bD.size + 1 := by omega
  clear hbD z0 hdl
  go_wp2_with fail
  refine (HD.out _).mono ?_
  rintro e w1 ⟨rfl, hb1⟩
  have J := Lib.hid (HK.out.below hb1)
  have HB1 := Lib.hid (show Below w.heap.size w w1 from Below.trans (by go_grown) (hb1.mono (by simp)))
  clear hb1 HK
  go_wp2_with fail
  go_loopw [3, 4] (fun a3 a wr => ∃ k : Nat, k ≤ S ∧ a = .int .i64 (k : Int) ∧ a3 = .string (bT (txL (B : Int) ps k)) ∧ Hid (Below w1.heap.size w1 wr)) (fun _ a _ => S - (intOf a).toNat)
  case atStart => exact ⟨0, by omega, by go_num, by rw [HT0.out], Lib.hid (Below.refl _ _)⟩
  case round =>
    obtain ⟨k, hk, rfl, rfl, hB⟩ := hrel
    obtain ⟨wi, rfl⟩ : ∃ y : World, y = wr := ⟨_, rfl⟩
    have J2 := Lib.hid (J.out.below hB.out)
    have q0 := J2.out.cell 0 rfl
    have zt := tx_le (B : Int) ps h3 (by omega) (n := k) (by omega) (by omega)
    have zs := bT_size (txL (B : Int) ps k)
    obtain ⟨t, ht⟩ : ∃ t, t = bT (txL (B : Int) ps k) := ⟨_, rfl⟩
    rw [← ht] at zs
    rw [← ht]
    have HT := Lib.hid ht
    have yt : t.size ≤ 1000000 := by omega
    have m0 : ¬ 9223372036854775807 < t.size + 1 := by omega
    clear ht zs zt
    by_cases hlt : k < S
    · have i1 : (k : Int) < (S : Int) := by omega
      obtain ⟨st, hst⟩ : ∃ st, st = stL ps k := ⟨_, rfl⟩
      obtain ⟨T2, hT0, hT1, hT2⟩ : ∃ T2 : ByteArray, (k = 0 → T2 = t) ∧ (0 < k → T2 = t ++ ⟨#[46]⟩) ∧ bT (txL (B : Int) ps (k + 1)) = T2 ++ bT st := by
        by_cases hk0 : k = 0
        · exact ⟨t, fun _ => rfl, fun h => absurd hk0 (by omega), by subst hk0; rw [txL_one, bT_app, HT.out, hst]⟩
        · exact ⟨t ++ ⟨#[46]⟩, fun h => absurd h hk0, fun _ => rfl, by rw [txL_succ _ _ (by omega), bT_app, bT_app, HT.out, hst]; rfl⟩
      have z2 : T2.size ≤ 1000001 := by
        by_cases hk0 : k = 0
        · rw [hT0 hk0]; omega
        · rw [hT1 (by omega), ByteArray.size_append]
          show t.size + 1 ≤ _
          omega
      have HX := Lib.hid hT2
      have HST := Lib.hid hst
      clear hT2 hst
      go_upto_if 18 with fail
      go_cut [3] (fun a3 wr => a3 = .string T2 ∧ wr = wi)
      case first =>
        by_cases hk0 : k = 0
        · have i2 : ¬ 0 < (k : Int) := by omega
          have HT0' := Lib.hid (hT0 hk0)
          clear hT0 hT1 HX HST hk0
          go_wp2_with fail
          go_meet
          rw [HT0'.out]; exact ⟨rfl, rfl⟩
        · have i2 : 0 < (k : Int) := by omega
          have HT1' := Lib.hid (hT1 (by omega))
          clear hT0 hT1 HX HST
          go_wp2_with fail
          go_meet
          rw [HT1'.out]; exact ⟨rfl, rfl⟩
      case rest =>
        obtain ⟨rfl, hw⟩ := hcut
        subst hw
        clear hT0 hT1
        go_wp2_with fail
        go_loopw [5, 6] (fun a5 a wr => ∃ j : Nat, j ≤ ps.length ∧ a = .int .i64 (j : Int) ∧ a5 = .string (bT (rowL ps k j)) ∧ Hid (Below w1.heap.size w1 wr)) (fun _ a _ => ps.length - (intOf a).toNat)
        case atStart => exact ⟨0, by omega, by go_num, rfl, hB⟩
        case round =>
          obtain ⟨j, hj, rfl, rfl, hB2⟩ := hrel
          obtain ⟨wj, rfl⟩ : ∃ y : World, y = wr := ⟨_, rfl⟩
          have J3 := Lib.hid (J.out.below hB2.out)
          have HBW := Lib.hid (HB1.out.trans (hB2.out.mono HB1.out.size))
          have q2 := J3.out.cell 2 rfl
          have zr := bT_size (rowL ps k j)
          have zr2 := rowL_length ps k j
          obtain ⟨r, hr⟩ : ∃ r, r = bT (rowL ps k j) := ⟨_, rfl⟩
          by_cases hlt2 : j < ps.length
          · rw [← hr] at zr
            rw [← hr]
            have HR := Lib.hid hr
            have yr : r.size ≤ 128 := by omega
            have nr : ¬ 9223372036854775807 < r.size + 1 := by omega
            clear hr zr zr2
            obtain ⟨ba, oa, rfl, hba, hca⟩ := HA.out j hlt2
            have a0 : wj.cell? ⟨ba, oa + j * 2, none⟩ = _ := (HBW.out.cell (p := ⟨ba, oa + j * 2, none⟩) hba).trans (hca j hlt2).1
            have a1 : wj.cell? ⟨ba, oa + j * 2 + 1, none⟩ = _ := (HBW.out.cell (p := ⟨ba, oa + (j * 2 + 1), none⟩) hba).trans (hca j hlt2).2
            have i3 : (j : Int) < (ps.length : Int) := by omega
            have i4 : (ps.length : Int) ≤ (c : Int) := by omega
            have hp := HIN.out j hlt2
            have HRS := Lib.hid (show rowL ps k (j + 1) = if (pi ps j).1 = (k : Int) then rowL ps k j ++ [ltB (pi ps j).2] else rowL ps k j by
              rw [rowL, bA]
              split
              · rw [List.map_append]; rfl
              · rfl)
            obtain ⟨y, hy⟩ : ∃ y, y = (pi ps j).1 := ⟨_, rfl⟩
            obtain ⟨x, hx⟩ : ∃ x, x = (pi ps j).2 := ⟨_, rfl⟩
            rw [← hy] at a0
            rw [← hx] at a1
            by_cases he : y = (k : Int)
            · have HRT := Lib.hid (show bT (rowL ps k (j + 1)) = r ++ bT [ltB x] by rw [HRS.out, if_pos (by rw [← hy]; exact he), bT_app, HR.out, hx])
              obtain ⟨x0, x1⟩ : 0 ≤ x ∧ x ≤ 7 := by rw [hx]; omega
              obtain ⟨eW, eN⟩ := lt_num x0 x1
              have kc := conv1 (wj.alloc (.cells #[.int .u8 (97 + x)] 5)) wj.heap.size 1 (ltB x) (by rw [eN]; simp [go_sem])
              obtain ⟨E, hE⟩ : ∃ E, E = bT [ltB x] := ⟨_, rfl⟩
              rw [← hE] at kc HRT
              have yE : E.size = 1 := by rw [hE]; rfl
              have n1 : ¬ 9223372036854775807 < r.size + E.size := by omega
              have HB3 := Lib.hid (show Below w1.heap.size w1 (wj.alloc (.cells #[.int .u8 (97 + x)] 5)) from hB2.out.trans (Below.mono (by go_grown : Below wj.heap.size wj _) hB2.out.size))
              subst he
              clear hca hp hy hx hE eN HRS
              go_wp2_with fail
              go_roundw
              case rel => exact ⟨j + 1, by omega, by go_num, by rw [HRT.out], HB3⟩
              case measure => simp [intOf]; omega
            · have HRT := Lib.hid (show bT (rowL ps k (j + 1)) = r by rw [HRS.out, if_neg (by rw [← hy]; exact he), HR.out])
              clear hca hp hy hx HRS
              go_wp2_with fail
              go_roundw
              case rel => exact ⟨j + 1, by omega, by go_num, by rw [HRT.out], hB2⟩
              case measure => simp [intOf]; omega
          · obtain rfl : j = ps.length := by omega
            by_cases he : rowL ps k ps.length = []
            · have e0 : bT (rowL ps k ps.length) = ⟨#[]⟩ := by rw [he]; rfl
              have HS2 := Lib.hid (show bT st = ⟨#[45]⟩ by rw [HST.out, stL, if_pos he]; rfl)
              rw [e0]
              have n1 : ¬ 9223372036854775807 < T2.size + 1 := by omega
              clear e0 hr zr zr2 he
              go_wp2_with fail
              go_roundw
              case rel => exact ⟨k + 1, by omega, by go_num, by rw [HX.out, HS2.out], hB2⟩
              case measure => simp [intOf]; omega
            · have HS2 := Lib.hid (show bT st = r by rw [HST.out, stL, if_neg he, hr])
              have n2 : (bT (rowL ps k ps.length)).toList.isEmpty = false := by rw [Lib.toList_data]; simp [bT, he]
              rw [← hr] at n2 zr
              rw [← hr]
              have n1 : ¬ 9223372036854775807 < T2.size + r.size := by omega
              clear hr zr2 he
              go_wp2_with fail
              go_roundw
              case rel => exact ⟨k + 1, by omega, by go_num, by rw [HX.out, HS2.out], hB2⟩
              case measure => simp [intOf]; omega
    · obtain rfl : k = S := by omega
      go_wp2_with fail
      go_ret
      exact ⟨by rw [HT.out]; rfl, HB1.out.trans (hB.out.mono HB1.out.size)⟩
end Go.Proofs.YtgaohmbgjjhdbaaGreatDoor
