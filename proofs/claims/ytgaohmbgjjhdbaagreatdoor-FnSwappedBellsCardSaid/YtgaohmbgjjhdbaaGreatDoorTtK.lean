/- Chimes: numbers read in the reference (l01Digit, l01Number). -/
import Derived.Test.YtgaohmbgjjhdbaaGreatDoorTtJ
import Derived.Deep.CutBlock
import Derived.Deep.DeepCutAuto
namespace Go.Proofs.YtgaohmbgjjhdbaaGreatDoor
open Go.RowKit
attribute [local go_sem ↓] Go.wp_at_zero Go.wp_at_succ

def dgB (b : UInt8) : Bool := decide (48 ≤ (b.toNat : Int)) && decide ((b.toNat : Int) ≤ 57)
theorem l01Digit_any (b : UInt8) (w : World) : Calls Tryz.prog 61 #[.int .u8 (b.toNat : Int)] w fun e w' => e = .returned (.bool (dgB b)) ∧ w' = w := by
  unfold dgB
  go_enter Tryz.func61, Tryz.ntmps61
  by_cases h1 : 48 ≤ (b.toNat : Int)
  · by_cases h2 : (b.toNat : Int) ≤ 57
    · go_wp2
      go_ret
      exact ⟨by simp; omega, rfl⟩
    · go_wp2
      go_ret
      exact ⟨by simp; omega, rfl⟩
  · go_wp2
    go_ret
    exact ⟨by simp; omega, rfl⟩
/-- The number that the first i digits spell. -/
def nv (t : List UInt8) : Nat → Int
  | 0 => 0
  | i + 1 => 10 * nv t i + (((t.getD i 0).toNat : Int) - 48)
def DgTo (t : List UInt8) (i : Nat) : Prop := ∀ j, j < i → dgB (t.getD j 0) = true
theorem nv_bound {t : List UInt8} : ∀ {i : Nat}, DgTo t i → 0 ≤ nv t i ∧ nv t i < 10 ^ i
  | 0, _ => ⟨by simp [nv], by simp [nv]⟩
  | i + 1, h => by
    have ih := nv_bound (i := i) fun j hj => h j (by omega)
    have hd := h i (by omega)
    simp only [dgB, Bool.and_eq_true, decide_eq_true_eq] at hd
    have e : (10 : Int) ^ (i + 1) = 10 * 10 ^ i := by rw [Int.pow_succ, Int.mul_comm]
    rw [nv, e]
    omega
theorem dgTo_all {t : List UInt8} {i : Nat} (h : DgTo t i) (hd : dgB (t.getD i 0) = true) : DgTo t (i + 1) := fun j hj => by
  rcases Nat.lt_or_ge j i with h' | h'
  · exact h j h'
  · obtain rfl : j = i := by omega
    exact hd
theorem pow17 {i : Nat} (h : i ≤ 17) : (10 : Int) ^ i ≤ 100000000000000000 := by
  have h1 : (10 : Nat) ^ i ≤ 10 ^ 17 := Nat.pow_le_pow_right (by decide) h
  have h2 : ((10 ^ i : Nat) : Int) ≤ ((10 ^ 17 : Nat) : Int) := by exact_mod_cast h1
  simpa using h2
theorem pow18 {i : Nat} (h : i ≤ 18) : (10 : Int) ^ i ≤ 1000000000000000000 := by
  have h1 : (10 : Nat) ^ i ≤ 10 ^ 18 := Nat.pow_le_pow_right (by decide) h
  have h2 : ((10 ^ i : Nat) : Int) ≤ ((10 ^ 18 : Nat) : Int) := by exact_mod_cast h1
  simpa using h2
theorem dg_in {d : Nat} (h0 : 1 ≤ d) (h1 : d ≤ 8) {t : List UInt8} (h : t = Lib.decDigits d) {i : Nat} (hi : i < t.length) : dgB (t[i]) = true := by
  have h3 : t = [UInt8.ofNat (48 + d)] := by rw [h, dec1 h1]
  subst h3
  obtain rfl : i = 0 := by simpa using hi
  show dgB (UInt8.ofNat (48 + d)) = true
  rcases (show d = 1 ∨ d = 2 ∨ d = 3 ∨ d = 4 ∨ d = 5 ∨ d = 6 ∨ d = 7 ∨ d = 8 by omega) with rfl | rfl | rfl | rfl | rfl | rfl | rfl | rfl <;> decide +kernel
theorem nv_dg {d : Nat} (h0 : 1 ≤ d) (h1 : d ≤ 8) {t : List UInt8} (h : t = Lib.decDigits d) : nv t t.length = d := by
  have h3 : t = [UInt8.ofNat (48 + d)] := by rw [h, dec1 h1]
  subst h3
  rcases (show d = 1 ∨ d = 2 ∨ d = 3 ∨ d = 4 ∨ d = 5 ∨ d = 6 ∨ d = 7 ∨ d = 8 by omega) with rfl | rfl | rfl | rfl | rfl | rfl | rfl | rfl <;> decide +kernel
theorem l01DecB_any (n : Int) (h0 : -9223372036854775808 ≤ n) (h1 : n ≤ 9223372036854775807) (w : World) :
    Calls Tryz.prog 60 #[.int .i64 n] w fun e w' => ∃ t : List UInt8, e = .returned (.string (bT t)) ∧ t.length ≤ 100 ∧ (∀ d : Nat, 1 ≤ d → d ≤ 8 → n = d → t = Lib.decDigits d) ∧ Below w.heap.size w w' := by
  by_cases h : ∃ d : Nat, 1 ≤ d ∧ d ≤ 8 ∧ n = d
  · obtain ⟨d, d0, d1, rfl⟩ := h
    refine (l01Dec_any d d0 d1 w).mono ?_
    rintro e w' ⟨rfl, hb⟩
    exact ⟨_, rfl, by rw [dec1 d1]; simp, fun d' _ _ e => by rw [show d = d' by omega], hb⟩
  · refine (l01DecZ_any n h0 h1 w).mono ?_
    rintro e w' ⟨t, rfl, ht, hb⟩
    exact ⟨t, rfl, ht, fun d a b e => absurd ⟨d, a, b, e⟩ h, hb⟩
set_option maxRecDepth 100000 in
set_option maxHeartbeats 4000000 in
theorem l01Number_any (s : List UInt8) (hs : s.length ≤ 1048576) (w : World) :
    Calls Tryz.prog 38 #[.string (bT s)] w fun e w' => ∃ (m : Int) (ok : Bool), e = .returned (.tuple #[.int .i64 m, .bool ok]) ∧ NumOk s m ok ∧ Below w.heap.size w w' := by
  have zs := bT_size s
  obtain ⟨bs, hbs⟩ : ∃ bs, bs = bT s := ⟨_, rfl⟩
  rw [← hbs] at zs ⊢
  have HB := Lib.hid hbs
  go_enter Tryz.func38, Tryz.ntmps38
  obtain ⟨b, hb⟩ : ∃ b : Bool, b = (s.head? == some 45) := ⟨_, rfl⟩
  go_upto_region 2 with fail
  go_cut [14] (fun a14 wr => a14 = .bool b ∧ wr = w)
  case first =>
    cases s with
    | nil =>
      have e0 : bs = ⟨#[]⟩ := by rw [hbs]; rfl
      subst hb e0
      clear hbs HB
      go_wp2_with fail
      go_meet
      exact ⟨rfl, rfl⟩
    | cons x r =>
      have n1 : bs.toList.isEmpty = false := by rw [Lib.toList_data, hbs]; simp [bT]
      have n2 : (0 : Int) < (bs.size : Int) := by rw [zs]; simp
      have n3 : 0 < bs.size := by omega
      have n4 : bs[0] = x := by subst hbs; rfl
      by_cases h5 : (x.toNat : Int) = 45
      · have hb2 : b = true := by rw [hb]; simp; exact UInt8.toNat_inj.1 (by simpa using (by omega : x.toNat = 45))
        subst hb2
        clear hbs HB hb zs
        go_wp2_with fail
        go_meet
        exact ⟨rfl, rfl⟩
      · have hb2 : b = false := by rw [hb]; simp; intro e; subst e; exact h5 (by decide)
        subst hb2
        clear hbs HB hb zs
        go_wp2_with fail
        go_meet
        exact ⟨by simp [h5], rfl⟩
  case rest =>
    obtain ⟨rfl, hw⟩ := hcut
    subst hw
    go_upto_if 14 with fail
    go_cut [4] (fun a4 wr => ∃ t : List UInt8, a4 = .string (bT t) ∧ Hid (∀ d : Nat, 1 ≤ d → d ≤ 8 → s = Lib.decDigits d → t = s) ∧ t.length ≤ s.length ∧ wr = wc)
    case first =>
      cases b with
      | false =>
        clear hb hbs
        go_wp2_with fail
        go_meet
        exact ⟨s, by rw [HB.out], Lib.hid (fun _ _ _ _ => rfl), Nat.le_refl _, rfl⟩
      | true =>
        obtain ⟨r, rfl⟩ : ∃ r, s = 45 :: r := by
          cases s with
          | nil => cases hb
          | cons x r => exact ⟨r, by simp at hb; rw [hb]⟩
        have hT : Hid (∀ d : Nat, 1 ≤ d → d ≤ 8 → (45 :: r : List UInt8) = Lib.decDigits d → r = 45 :: r) := fun d h0 h1 e => by
          rw [dec1 h1] at e
          injection e with e1 _
          rcases (show d = 1 ∨ d = 2 ∨ d = 3 ∨ d = 4 ∨ d = 5 ∨ d = 6 ∨ d = 7 ∨ d = 8 by omega) with rfl | rfl | rfl | rfl | rfl | rfl | rfl | rfl <;> exact absurd e1 (by decide)
        have hx : Hid (bs.extract 1 (r.length + 1) = bT r) := by
          show bs.extract 1 (r.length + 1) = bT r
          rw [hbs, bT_cut]; simp
        have zs2 : bs.size = r.length + 1 := by rw [zs]; simp
        clear hb zs hbs
        go_wp2_with fail
        go_meet
        exact ⟨r, by rw [hx.out], hT, by simp, rfl⟩
    case rest =>
      obtain ⟨t, rfl, hT, hl, hw⟩ := hcut
      subst hw
      have zt := bT_size t
      obtain ⟨bt, hbt⟩ : ∃ bt, bt = bT t := ⟨_, rfl⟩
      have hget : ∀ i (_ : i < t.length) (_ : i < bt.size), bt[i] = t[i] := fun i h h' => by subst hbt; rfl
      rw [← hbt] at zt ⊢
      have HGT := Lib.hid hget
      have HBT := Lib.hid hbt
      clear hget hbt hbs hb
      by_cases hl1 : t.length < 1
      · have hN : Hid (NumOk s 0 false) := fun d h0 h1 e => by
          have h2 := hT.out d h0 h1 e
          obtain ⟨_, _, _, p4⟩ := parse_dg h0 h1
          rw [h2, e, p4] at hl1; omega
        have n1 : (bt.size : Int) < 1 := by omega
        clear hl1 zt
        go_wp2_with fail
        go_ret2
        exact ⟨0, false, rfl, hN.out, by go_grown⟩
      · by_cases hl2 : 18 < t.length
        · have hN : Hid (NumOk s 0 false) := fun d h0 h1 e => by
            have h2 := hT.out d h0 h1 e
            obtain ⟨_, _, _, p4⟩ := parse_dg h0 h1
            rw [h2, e, p4] at hl2; omega
          have n1 : ¬ (bt.size : Int) < 1 := by omega
          have n2 : (18 : Int) < (bt.size : Int) := by omega
          clear hl1 hl2 zt
          go_wp2_with fail
          go_ret2
          exact ⟨0, Or.inl ⟨rfl, hN.out, by go_grown⟩⟩
        · have n1 : ¬ (bt.size : Int) < 1 := by omega
          have n2 : ¬ (18 : Int) < (bt.size : Int) := by omega
          have hl3 : t.length ≤ 18 := by omega
          have n3 : 1 ≤ t.length := by omega
          clear hl1 hl2
          go_wp2_with fail
          go_loopw [5, 6] (fun a5 a6 wr => ∃ i : Nat, i ≤ t.length ∧ a6 = .int .i64 (i : Int) ∧ a5 = .int .i64 (nv t i) ∧ Hid (DgTo t i) ∧ wr = wc) (fun _ a _ => t.length - (intOf a).toNat)
          case atStart => exact ⟨0, by omega, by go_num, rfl, Lib.hid (fun j hj => absurd hj (by omega)), rfl⟩
          case round =>
            obtain ⟨i, hi, rfl, rfl, hD, hw⟩ := hrel
            subst hw
            by_cases hlt : i < t.length
            · have i1 : (i : Int) < (bt.size : Int) := by omega
              have i2 : i < bt.size := by omega
              have hg := HGT.out i hlt i2
              have hg2 : t.getD i 0 = t[i] := by simp [List.getD, hlt]
              obtain ⟨x, hx⟩ : ∃ x, x = t[i] := ⟨_, rfl⟩
              rw [← hx] at hg hg2
              have HDG := Lib.hid (fun w => l01Digit_any x w)
              have HX := Lib.hid hx
              have HG2 := Lib.hid hg2
              obtain ⟨v0, v1⟩ := nv_bound hD.out
              have v2 := Int.lt_of_lt_of_le v1 (pow17 (i := i) (by omega))
              clear v1
              obtain ⟨N, hN⟩ : ∃ N, N = nv t i := ⟨_, rfl⟩
              rw [← hN] at v0 v2 ⊢
              have HN := Lib.hid hN
              clear hN hx hg2
              cases hd : dgB x with
              | false =>
                have hF : Hid (NumOk s 0 false) := fun d h0 h1 e => by
                  have h2 := hT.out d h0 h1 e
                  have h3 := dg_in h0 h1 (h2.trans e) hlt
                  rw [← HX.out, hd] at h3; cases h3
                go_wp2_with fail
                refine (HDG.out _).mono ?_
                rintro e w' ⟨rfl, rfl⟩
                rw [hd]
                go_wp2_with fail
                go_ret2
                exact ⟨0, false, rfl, hF.out, by go_grown⟩
              | true =>
                have hd2 := hd
                simp only [dgB, Bool.and_eq_true, decide_eq_true_eq] at hd2
                obtain ⟨d1, d2⟩ := hd2
                have w1 : wrap64 (10 * N) = 10 * N := IntWalk.wrap64_in _ (by omega)
                have w2 : ((x.toNat : Int) - 48) % 256 = (x.toNat : Int) - 48 := by omega
                have w3 : wrap64 (10 * N + ((x.toNat : Int) - 48)) = 10 * N + ((x.toNat : Int) - 48) := IntWalk.wrap64_in _ (by omega)
                go_wp2_with fail
                refine (HDG.out _).mono ?_
                rintro e w' ⟨rfl, rfl⟩
                rw [hd]
                have HD2 : Hid (DgTo t (i + 1)) := dgTo_all hD.out (by rw [HG2.out]; exact hd)
                have HNS : Hid (10 * N + ((x.toNat : Int) - 48) = nv t (i + 1)) := by show _ = _; rw [nv, HG2.out, HN.out]
                go_wp2_with fail
                exact ⟨⟨i + 1, by omega, by go_num, by rw [HNS.out], HD2, trivial⟩, by simp [intOf]; omega⟩
            · obtain rfl : i = t.length := by omega
              have i1 : ¬ (t.length : Int) < (bt.size : Int) := by omega
              obtain ⟨v0, v1⟩ := nv_bound hD.out
              have v2 := Int.lt_of_lt_of_le v1 (pow18 hl3)
              have HM : Hid (∀ d : Nat, 1 ≤ d → d ≤ 8 → s = Lib.decDigits d → t.length = s.length ∧ nv t t.length = d) := fun d h0 h1 e => by
                have h2 := hT.out d h0 h1 e
                exact ⟨by rw [h2], nv_dg h0 h1 (h2.trans e)⟩
              clear v1
              obtain ⟨N, hN⟩ : ∃ N, N = nv t t.length := ⟨_, rfl⟩
              rw [← hN] at v0 v2 HM ⊢
              clear hN
              by_cases hls : t.length < s.length
              · have i2 : (bt.size : Int) < (bs.size : Int) := by omega
                have w1 : wrap64 (-N) = -N := IntWalk.wrap64_in _ (by omega)
                have HD := Lib.hid (fun w => l01DecB_any (-N) (by omega) (by omega) w)
                have HN1 : Hid (∀ ok, NumOk s 0 ok ∧ NumOk s (-N) ok) := fun ok => ⟨fun d h0 h1 e => by have := (HM.out d h0 h1 e).1; omega, fun d h0 h1 e => by have := (HM.out d h0 h1 e).1; omega⟩
                go_wp2_with fail
                refine (HD.out _).mono ?_
                rintro e w' ⟨y, rfl, hy, _, hb⟩
                obtain ⟨by_, hby⟩ : ∃ by_, by_ = bT y := ⟨_, rfl⟩
                rw [← hby]
                have HB3 := Lib.hid hb
                clear hb hby HD
                by_cases hq : by_ = bs
                · have hE : (by_.toList == bs.toList) = true := by rw [hq]; exact beq_self_eq_true _
                  clear hq
                  go_wp2_with fail
                  go_ret2
                  exact ⟨_, _, rfl, (HN1.out _).2, HB3.out⟩
                · have hE : (by_.toList == bs.toList) = false := by
                    rw [beq_eq_false_iff_ne]
                    intro e
                    rw [Lib.toList_data, Lib.toList_data] at e
                    exact hq (ByteArray.ext (Array.toList_inj.1 e))
                  clear hq
                  go_wp2_with fail
                  go_ret2
                  exact ⟨_, _, rfl, (HN1.out _).1, HB3.out⟩
              · have i2 : ¬ (bt.size : Int) < (bs.size : Int) := by omega
                have HD := Lib.hid (fun w => l01DecB_any N (by omega) (by omega) w)
                go_wp2_with fail
                refine (HD.out _).mono ?_
                rintro e w' ⟨y, rfl, hy, hyd, hb⟩
                obtain ⟨by_, hby⟩ : ∃ by_, by_ = bT y := ⟨_, rfl⟩
                rw [← hby]
                have HB3 := Lib.hid hb
                have HBY := Lib.hid hby
                have HYD := Lib.hid hyd
                clear hb hby HD hyd
                by_cases hq : by_ = bs
                · have hE : (by_.toList == bs.toList) = true := by rw [hq]; exact beq_self_eq_true _
                  have HN1 : Hid (NumOk s N true) := fun d h0 h1 e => ⟨(HM.out d h0 h1 e).2, rfl⟩
                  clear hq
                  go_wp2_with fail
                  go_ret2
                  exact ⟨_, _, rfl, HN1.out, HB3.out⟩
                · have hE : (by_.toList == bs.toList) = false := by
                    rw [beq_eq_false_iff_ne]
                    intro e
                    rw [Lib.toList_data, Lib.toList_data] at e
                    exact hq (ByteArray.ext (Array.toList_inj.1 e))
                  have HN1 : Hid (NumOk s 0 false) := fun d h0 h1 e => absurd (by rw [HBY.out, HB.out, HYD.out d h0 h1 (HM.out d h0 h1 e).2, ← e]) hq
                  clear hq
                  go_wp2_with fail
                  go_ret2
                  exact ⟨_, _, rfl, HN1.out, HB3.out⟩
end Go.Proofs.YtgaohmbgjjhdbaaGreatDoor
