/- Chimes: TrueRows walked in the reference; both together. -/
import Derived.Test.YtgaohmbgjjhdbaaChRu
namespace Go.Proofs.Ytgaohmbgjjhdbaa
open Go.RowKit
attribute [local go_sem ↓] Go.wp_at_zero Go.wp_at_succ
attribute [local go_sem] cell?_grow frozen?_grow

theorem near_0 {b : List Int} {x : Int} {a : Nat} (h : ix b a = x) : nearB b x a = true := by simp [nearB, h]
theorem near_1 {b : List Int} {x : Int} {a : Nat} (h0 : 0 < a) (h : ix b (a - 1) = x) : nearB b x a = true := by simp [nearB, h, h0]
theorem near_2 {b : List Int} {x : Int} {a : Nat} (h0 : a + 1 < b.length) (h : ix b (a + 1) = x) : nearB b x a = true := by simp [nearB, h, h0]
theorem near_no {b : List Int} {x : Int} {a : Nat} (h : ¬ ix b a = x) (h1 : 0 < a → ¬ ix b (a - 1) = x) (h2 : a + 1 < b.length → ¬ ix b (a + 1) = x) : nearB b x a = false := by
  simp only [nearB, Bool.or_eq_false_iff, Bool.and_eq_false_iff, decide_eq_false_iff_not]
  refine ⟨h, ?_, ?_⟩
  · by_cases h0 : 0 < a
    · exact Or.inr (h1 h0)
    · exact Or.inl h0
  · by_cases h0 : a + 1 < b.length
    · exact Or.inr (h2 h0)
    · exact Or.inl h0
set_option maxRecDepth 100000 in
set_option maxHeartbeats 16000000 in
theorem TrueRows_s (v : Value) (R : List (List Int)) (w : World) (hv : RdR w v R) :
    Calls Try.prog 10 #[v] w fun e w' => e = .returned (.bool (trueB R)) ∧ Below w.heap.size w w' := by
  have HV := Lib.hid hv
  have HRB := Lib.hid (l22Rows_any v R w hv)
  obtain ⟨A, c, rfl, hac, hac'⟩ := hv.form
  clear hv
  rcases Bool.eq_false_or_eq_true (rowK R) with hk | hk
  · have HK := Lib.hid hk
    clear hk
    go_enter Try.func10, Try.ntmps10
    go_wp2_with fail
    refine HRB.out.mono ?_
    rintro e w1 ⟨rfl, hb1⟩
    rw [HK.out]
    have HB1 := Lib.hid hb1
    clear hb1
    go_wp2_with fail
    go_loopw [2, 3] (fun r i wr => r = .bool false ∧ ∃ k : Nat, k ≤ R.length ∧ i = .int .i64 k ∧ Hid (GoodTo R k) ∧ Below w.heap.size w wr) (fun _ i _ => R.length - (intOf i).toNat)
    case atStart => exact ⟨rfl, 0, Nat.zero_le _, rfl, GoodTo.zero _, HB1.out⟩
    case round =>
      obtain ⟨rfl, k, hkl, rfl, hG, hB⟩ := hrel
      obtain ⟨wo, rfl⟩ : ∃ x : World, x = wr := ⟨_, rfl⟩
      have HB := Lib.hid hB
      by_cases hlt : k < R.length
      · obtain ⟨b1, o1, A1, c1, rfl, hb1, hu1, hs1⟩ := (HV.out.below hB).at_ hlt
        have i1 : (k : Int) < (R.length : Int) := by omega
        have HS1 := Lib.hid hs1
        have HU1 := Lib.hid hu1
        obtain ⟨f1, f2, f3⟩ := row_facts HK.out hlt
        have F1 := Lib.hid f1
        have F2 := Lib.hid f2
        clear hB hs1 f2 f1 hu1
        go_wp2_with fail
        go_loopw [2, 4] (fun r i wr => r = .bool false ∧ ∃ j : Nat, j ≤ k ∧ i = .int .i64 j ∧ Hid (DupTo R k j) ∧ Below wo.heap.size wo wr) (fun _ i _ => k - (intOf i).toNat)
        case atStart => exact ⟨rfl, 0, Nat.zero_le _, rfl, DupTo.zero _ _, Below.refl _ _⟩
        case round =>
          obtain ⟨rfl, j, hj, rfl, hD, hB2⟩ := hrel
          obtain ⟨wi, rfl⟩ : ∃ x : World, x = wr := ⟨_, rfl⟩
          have HB2 : Hid (Below w.heap.size w wi) := HB.out.trans (hB2.mono HB.out.size)
          have HB3 := Lib.hid hB2
          have u1 : wi.cell? ⟨b1, o1 + k, none⟩ = _ := (hB2.cell (p := ⟨b1, o1 + k, none⟩) hb1).trans HU1.out
          have zb1 : b1 < wi.heap.size := Nat.lt_of_lt_of_le hb1 hB2.size
          by_cases hjk : j < k
          · obtain ⟨b2, o2, A2, c2, e2, hb2, hu2, hs2⟩ := (HV.out.below HB2.out).at_ (i := j) (by omega)
            injection e2 with e2
            injection e2 with e2 e3
            subst e2 e3
            have HS2 := Lib.hid hs2
            have HS3 := Lib.hid (HS1.out.below hB2)
            have i2 : (j : Int) < (k : Int) := by omega
            have i3 : (j : Int) < (R.length : Int) := by omega
            clear hs2 hB2
            go_wp2_with fail
            refine wp_region_grow (by kernel_rfl) (by kernel_rfl) ?_
            repeat (go_big_quiet_step (((go_at_call 49; exact grow_drew (l00Same_any _ _ (rx R k) (rx R j) _ (Sl.grow HS3.out _) (Sl.grow HS2.out _))))))
            refine wpQuiet_nil ?_
            intro w2 hbw
            have HB4 : Hid (Below wo.heap.size wo w2) := HB3.out.trans (hbw.mono HB3.out.size)
            have HB5 : Hid (Below w.heap.size w w2) := HB2.out.trans (hbw.mono HB2.out.size)
            clear hbw
            rcases Bool.eq_false_or_eq_true (eqL (rx R k) (rx R j)) with he | he
            · have HE := Lib.hid (tr_dup hlt hjk he)
              rw [he]
              clear he
              go_wp2
              go_ret
              exact ⟨ret_b HE.out.symm, HB5.out⟩
            · have HE := Lib.hid he
              rw [he]
              clear he
              go_wp2
              go_roundw
              case rel => exact ⟨rfl, j + 1, by omega, by go_num, hD.out.succ HE.out, HB4.out⟩
              case measure => simp [intOf]; omega
          · obtain rfl : j = k := by omega
            have hD' := hD
            clear hB2
            go_wp2_with fail
            go_loopw [2, 5] (fun r i wr => r = .bool false ∧ ∃ a : Nat, a ≤ (rx R j).length ∧ i = .int .i64 a ∧ Hid (0 < j → NearTo R j a) ∧ wr = wi) (fun _ i _ => (rx R j).length - (intOf i).toNat)
            case atStart => exact ⟨rfl, 0, Nat.zero_le _, rfl, fun _ => NearTo.zero _ _, rfl⟩
            case round =>
              obtain ⟨rfl, a, ha, rfl, hN, hwi⟩ := hrel
              subst hwi
              have i1' : (j : Int) < (R.length : Int) := by omega
              by_cases hj0 : 0 < j
              · have i4 : (0 : Int) < (j : Int) := by omega
                by_cases hal : a < (rx R j).length
                · obtain ⟨_, _, e9, _, _, HA9⟩ := (HS1.out.below HB3.out).open_
                  injection e9 with e9 _ e10
                  subst e9 e10
                  obtain ⟨b3, o3, rfl, hb3, hc3⟩ := HA9.out a hal
                  have a3 := hc3 a hal
                  have i3 : (a : Int) < ((rx R j).length : Int) := by omega
                  clear HA9 hc3
                  obtain ⟨b4, o4, A4, c4, e4, hb4, hu4, hs4⟩ := (HV.out.below HB2.out).at_ (i := j - 1) (by omega)
                  injection e4 with e4
                  injection e4 with e4 e5
                  subst e4 e5
                  obtain ⟨g1, g2, g3⟩ := row_facts HK.out (k := j - 1) (by omega)
                  have G1 : Hid ((rx R (j - 1)).length = (rx R j).length) := by show _ = _; rw [g1, F1.out]
                  have hla : a < (rx R (j - 1)).length := by rw [G1.out]; exact hal
                  obtain ⟨_, _, e11, _, _, HA11⟩ := hs4.open_
                  injection e11 with e11 _ e12
                  subst e11 e12
                  obtain ⟨b5, o5, rfl, hb5, hc5⟩ := HA11.out a hla
                  have a5 := hc5 a hla
                  have i6 : (a : Int) < ((rx R (j - 1)).length : Int) := by omega
                  have i9 : ((rx R (j - 1)).length : Int) ≤ 8 := by omega
                  have e7 : IntKind.i64.wrap ((j : Int) - 1) = ((j - 1 : Nat) : Int) := by rw [IntWalk.i64_in _ (by omega)]; omega
                  have e8 : (j : Int) - 1 = ((j - 1 : Nat) : Int) := by omega
                  have i5 : ((j - 1 : Nat) : Int) < (R.length : Int) := by omega
                  have HC5 := Lib.hid hc5
                  clear HA11 hc5 g1 g2 hs4
                  by_cases h0 : ix (rx R (j - 1)) a = ix (rx R j) a
                  · have HN2 := Lib.hid (near_0 h0)
                    have q0 : (ix (rx R (j - 1)) a == ix (rx R j) a) = true := by simp [h0]
                    clear h0
                    go_wp2
                    go_roundw
                    case rel => exact ⟨rfl, a + 1, by omega, by go_num, fun h => (hN.out h).succ HN2.out, by first | rfl | simp⟩
                    case measure => simp [intOf]; omega
                  · have q0 : (ix (rx R (j - 1)) a == ix (rx R j) a) = false := by simp [h0]
                    by_cases ha0 : 0 < a
                    · have i7 : (0 : Int) < (a : Int) := by omega
                      have a6 : wr.cell? ⟨b5, o5 + (a - 1), none⟩ = _ := HC5.out (a - 1) (by omega)
                      have e15 : IntKind.i64.wrap ((a : Int) - 1) = ((a - 1 : Nat) : Int) := by rw [IntWalk.i64_in _ (by omega)]; omega
                      have e16 : (a : Int) - 1 = ((a - 1 : Nat) : Int) := by omega
                      have i10 : ((a - 1 : Nat) : Int) < ((rx R (j - 1)).length : Int) := by omega
                      by_cases h1 : ix (rx R (j - 1)) (a - 1) = ix (rx R j) a
                      · have HN2 := Lib.hid (near_1 ha0 h1)
                        have q1 : (ix (rx R (j - 1)) (a - 1) == ix (rx R j) a) = true := by simp [h1]
                        clear h1 h0
                        go_wp2
                        go_roundw
                        case rel => exact ⟨rfl, a + 1, by omega, by go_num, fun h => (hN.out h).succ HN2.out, by first | rfl | simp⟩
                        case measure => simp [intOf]; omega
                      · have q1 : (ix (rx R (j - 1)) (a - 1) == ix (rx R j) a) = false := by simp [h1]
                        by_cases hl2 : a + 1 < (rx R (j - 1)).length
                        · have i8 : (a : Int) + 1 < ((rx R (j - 1)).length : Int) := by omega
                          have a7 : wr.cell? ⟨b5, o5 + (a + 1), none⟩ = _ := HC5.out (a + 1) hl2
                          have n2 : ((a : Int) + 1).toNat = a + 1 := by omega
                          have i9a : (0 : Int) ≤ (a : Int) + 1 := by omega
                          by_cases h2 : ix (rx R (j - 1)) (a + 1) = ix (rx R j) a
                          · have HN2 := Lib.hid (near_2 hl2 h2)
                            have q2 : (ix (rx R (j - 1)) (a + 1) == ix (rx R j) a) = true := by simp [h2]
                            clear h2
                            go_wp2
                            go_roundw
                            case rel => exact ⟨rfl, a + 1, by omega, by go_num, fun h => (hN.out h).succ HN2.out, by first | rfl | simp⟩
                            case measure => simp [intOf]; omega
                          · have HN2 := Lib.hid (tr_near hlt hj0 hal (near_no h0 (fun _ => h1) (fun _ => h2)))
                            have q2 : (ix (rx R (j - 1)) (a + 1) == ix (rx R j) a) = false := by simp [h2]
                            clear h2
                            go_wp2
                            go_ret
                            exact ⟨ret_b HN2.out.symm, HB2.out⟩
                        · have HN2 := Lib.hid (tr_near hlt hj0 hal (near_no h0 (fun _ => h1) (fun h => absurd h hl2)))
                          have i8 : ¬ (a : Int) + 1 < ((rx R (j - 1)).length : Int) := by omega
                          go_wp2
                          go_ret
                          exact ⟨ret_b HN2.out.symm, HB2.out⟩
                    · have i7 : ¬ (0 : Int) < (a : Int) := by omega
                      by_cases hl2 : a + 1 < (rx R (j - 1)).length
                      · have i8 : (a : Int) + 1 < ((rx R (j - 1)).length : Int) := by omega
                        have a7 : wr.cell? ⟨b5, o5 + (a + 1), none⟩ = _ := HC5.out (a + 1) hl2
                        have n2 : ((a : Int) + 1).toNat = a + 1 := by omega
                        have i9a : (0 : Int) ≤ (a : Int) + 1 := by omega
                        by_cases h2 : ix (rx R (j - 1)) (a + 1) = ix (rx R j) a
                        · have HN2 := Lib.hid (near_2 hl2 h2)
                          have q2 : (ix (rx R (j - 1)) (a + 1) == ix (rx R j) a) = true := by simp [h2]
                          clear h2
                          go_wp2
                          go_roundw
                          case rel => exact ⟨rfl, a + 1, by omega, by go_num, fun h => (hN.out h).succ HN2.out, by first | rfl | simp⟩
                          case measure => simp [intOf]; omega
                        · have HN2 := Lib.hid (tr_near hlt hj0 hal (near_no h0 (fun h => absurd h ha0) (fun _ => h2)))
                          have q2 : (ix (rx R (j - 1)) (a + 1) == ix (rx R j) a) = false := by simp [h2]
                          clear h2
                          go_wp2
                          go_ret
                          exact ⟨ret_b HN2.out.symm, HB2.out⟩
                      · have HN2 := Lib.hid (tr_near hlt hj0 hal (near_no h0 (fun h => absurd h ha0) (fun h => absurd h hl2)))
                        have i8 : ¬ (a : Int) + 1 < ((rx R (j - 1)).length : Int) := by omega
                        go_wp2
                        go_ret
                        exact ⟨ret_b HN2.out.symm, HB2.out⟩
                · obtain rfl : a = (rx R j).length := by omega
                  have HG := Lib.hid (hG.out.succ ⟨hD'.out, hN.out⟩)
                  go_wp2
                  go_roundw
                  case rel => exact ⟨rfl, j + 1, by omega, by go_num, HG.out, HB2.out⟩
                  case measure => simp [intOf]; omega
              · obtain rfl : j = 0 := by omega
                have HG := Lib.hid (hG.out.succ ⟨hD'.out, fun h => absurd h (by omega)⟩)
                go_wp2
                go_roundw
                case rel => exact ⟨rfl, 0 + 1, by omega, by go_num, HG.out, HB2.out⟩
                case measure => simp [intOf]; omega
      · obtain rfl : k = R.length := by omega
        have HT := Lib.hid (tr_t HK.out hG.out)
        go_wp2
        go_ret
        exact ⟨ret_b HT.out.symm, HB.out⟩
  · have HN := Lib.hid hk
    have HT := Lib.hid (tr_f hk)
    clear hk
    go_enter Try.func10, Try.ntmps10
    go_wp2_with fail
    refine HRB.out.mono ?_
    rintro e w1 ⟨rfl, hb1⟩
    rw [HN.out]
    go_wp2
    go_ret
    exact ⟨ret_b HT.out.symm, hb1⟩

theorem TrueRows_both (R : List (List Int)) (hl : totR R ≤ 1048576) : ∃ rb : Bool,
    (∀ v w, RdR w v R → Calls Try.prog 12 #[v] w fun e w' => e = .returned (.bool rb) ∧ Below w.heap.size w w') ∧
    (∀ v w, RdR w v R → Calls Try.prog 10 #[v] w fun e w' => e = .returned (.bool rb) ∧ Below w.heap.size w w') :=
  ⟨trueB R, fun v w hv => TrueRows_i v R w hv (fun i hi => by have := row_le hi; unfold totR at hl; omega), fun v w hv => TrueRows_s v R w hv⟩
end Go.Proofs.Ytgaohmbgjjhdbaa
