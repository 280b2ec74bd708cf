/- FnHunts is proved: the rows of a plain hunt are true, return to the first row, and a barrel plays rows in order; the answers are the reference's. No condition. -/
import Derived.Test.YtgaohmbgjjhdbaaHuP
import Derived.Test.YtgaohmbgjjhdbaaDrO
import Derived.Test.YtgaohmbgjjhdbaaF6r
import Derived.Test.YtgaohmbgjjhdbaaChRv
import Derived.Test.YtgaohmbgjjhdbaaChS
import Derived.Test.YtgaohmbgjjhdbaaRow3
import Derived.Test.YtgaohmbgjjhdbaaRowF
import Derived.Deep.RegionHeld3
import Derived.Deep.CutBlock
import Derived.Deep.DeepCutAuto
namespace Go.Proofs.Ytgaohmbgjjhdbaa
open Go.ChangeShapes Go.WideShapes Go.ChangeAt Go.RowKit
attribute [local go_sem ↓] Go.wp_at_zero Go.wp_at_succ

theorem hunt_cases (n : Nat) : ∃ (m : Nat) (L : Nat → List Int) (rc : Int), ((rc = 0 ∧ 3 ≤ n ∧ n ≤ 8 ∧ m = 2 * n ∧ L = hr n) ∨ ¬ rc = 0) ∧
    (∀ w, Calls Try.prog 38 #[.int .i64 (n : Int)] w fun e w' => ∃ v', e = .returned (.tuple #[v', .int .i64 rc]) ∧ RdR w' v' (rl m L) ∧ Below w.heap.size w w') ∧
    (∀ w, Calls Try.prog 39 #[.int .i64 (n : Int)] w fun e w' => ∃ v', e = .returned (.tuple #[v', .int .i64 rc]) ∧ RdR w' v' (rl m L) ∧ Below w.heap.size w w') := by
  cases h : inB (n : Int) 3 8 with
  | false =>
    refine ⟨0, hr 0, 2, Or.inr (by decide), fun w => (PlainHunt_i1 n w h).mono ?_, fun w => (PlainHunt_s1 n w h).mono ?_⟩ <;>
    exact fun e w' ⟨v, he, hr, hb⟩ => ⟨v, he, rows_rd hr, hb⟩
  | true =>
    obtain ⟨h1, h2⟩ := inB_iff.1 h
    refine ⟨2 * n, hr n, 0, Or.inl ⟨rfl, by omega, by omega, rfl, rfl⟩, fun w => (PlainHunt_i0 n w (by omega) (by omega)).mono ?_, fun w => (PlainHunt_s0 n w (by omega) (by omega)).mono ?_⟩ <;>
    exact fun e w' ⟨v, he, hr, hb⟩ => ⟨v, he, rows_rd hr, hb⟩
theorem rb_cases (R : List (List Int)) (hsm : R.length ≤ 13 ∧ ∀ i, i < R.length → (rx R i).length ≤ 6) : ∃ (st bl : Int) (ps : List (Int × Int)) (rc : Int),
    ((rc = 0 ∧ ∃ S N : Nat, st = (S : Int) ∧ bl = (N : Int) ∧ 1 ≤ N ∧ N ≤ 8 ∧ 1 ≤ S ∧ S ≤ 64 ∧ S = R.length * N ∧ (∀ i, i < R.length → (rx R i).length = N) ∧ brB (S : Int) (N : Int) ps = true ∧ plA ps S 0 S = ps ∧ ps.length = S ∧ ∀ t, t < S → pi ps t = ((t : Int), ix (rx R (t / N)) (t % N))) ∨ ¬ rc = 0) ∧
    (∀ v w, RdR w v R → Calls Try.prog 22 #[v] w fun e w' => ∃ v', e = .returned (.tuple #[.agg #[.int .i64 st, .int .i64 bl, v'], .int .i64 rc]) ∧ w'.ownsRow w.heap.size 62 2 v' ps.length (P64 ps) ∧ Below w.heap.size w w') ∧
    (∀ v w, RdR w v R → Calls Try.prog 21 #[v] w fun e w' => ∃ v', e = .returned (.tuple #[.agg #[.int .i64 st, .int .i64 bl, v'], .int .i64 rc]) ∧ w'.ownsRow w.heap.size 62 2 v' ps.length (P64 ps) ∧ Below w.heap.size w w') := by
  have hl : ∀ i, i < R.length → (rx R i).length ≤ 134217728 := fun i hi => by have := hsm.2 i hi; omega
  have hR := hsm.1
  cases hk : rowK R with
  | false => exact ⟨0, 0, [], 1, Or.inr (by decide), fun v w hv => RowsBarrel_i1 v R w hv hl hk, fun v w hv => RowsBarrel_s1 v R w hv hk⟩
  | true =>
    cases hf : rowFits R with
    | false => exact ⟨0, 0, [], 5, Or.inr (by decide), fun v w hv => RowsBarrel_i2 v R w hv hl (by omega) hk hf, fun v w hv => RowsBarrel_s2 v R w hv (by omega) hk hf⟩
    | true =>
      obtain ⟨h0, ⟨h1, h2⟩, _⟩ := rowK_iff.1 hk
      have hf' : R.length * (rx R 0).length ≤ 64 := by simpa [rowFits] using hf
      have hpos : 1 ≤ R.length * (rx R 0).length := Nat.mul_pos (by omega) h1
      have hb := rb_valid hk hf
      rw [← Int.natCast_mul] at hb
      exact ⟨_, _, _, 0, Or.inl ⟨rfl, R.length * (rx R 0).length, (rx R 0).length, by rw [Int.natCast_mul], rfl, h1, h2, hpos, hf', rfl, fun i hi => (row_facts hk hi).1, hb, rb_play hk, rbA_length _ _ _, fun t ht => rbA_at h1 ht⟩,
        fun v w hv => RowsBarrel_i0 v R w hv hl hk hf, fun v w hv => RowsBarrel_s0 v R w hv hk hf⟩
theorem hist {w : World} {A : Option Addr} {n c : Nat} {cs : List Value} (h : SlC w (.slice A n c) n cs) : n ≤ c := by
  obtain ⟨_, _, e, h1, _⟩ := h
  injection e with _ _ e3
  omega
theorem same_selfH (va vb : Value) (ps : List (Int × Int)) (st bl : Int) (w : World) (ha : SlP w va ps) (hb : SlP w vb ps) :
    Calls Try.prog 29 #[.agg #[.int .i64 st, .int .i64 bl, va], .agg #[.int .i64 st, .int .i64 bl, vb]] w fun e w' => e = .returned (.bool true) ∧ Below w.heap.size w w' := by
  have h := SameBarrel_s va vb ps ps st bl st bl w ha hb
  have e : sameB st bl ps st bl ps = true := by simp [sameB, eqP_self]
  rwa [e] at h

set_option maxRecDepth 100000 in
set_option maxHeartbeats 16000000 in
theorem hunts_walk (vb : Value) (bs : List Int) (W : World) (hv : SlB W vb bs) :
    Calls Try.prog 7 #[vb] W fun e W' => e = .returned (.bool true) ∧ Below W.heap.size W W' := by
  have HV := Lib.hid hv
  clear hv
  cases hbig : decide (4096 < bs.length) with
  | true =>
    go_enter Try.func7, Try.ntmps7
    go_wp2_with fail
    refine (f6big_any vb bs _ HV.out _ hbig).mono ?_
    rintro e w' ⟨rfl, rfl⟩
    go_wp2
    go_ret
    exact ⟨rfl, Below.refl _ _⟩
  | false =>
    have HBG := Lib.hid hbig
    clear hbig
    go_enter Try.func7, Try.ntmps7
    go_wp2_with fail
    refine (f6big_any vb bs _ HV.out _ HBG.out).mono ?_
    rintro e w' ⟨rfl, rfl⟩
    go_wp2_with fail
    refine (DrawPlainHunt_any vb bs W _ HV.out (Below.refl _ _)).mono ?_
    rintro e w1 ⟨n, hn, rfl, hb⟩
    have B1 := Lib.hid hb
    clear hb
    obtain ⟨m, L, rc, hcs, hpi, hps⟩ := hunt_cases n
    have HPI := Lib.hid hpi
    have HPS := Lib.hid hps
    have HCS := Lib.hid hcs
    clear hpi hps hcs
    go_wp2_with fail
    refine (HPI.out _).mono ?_
    rintro e w2 ⟨v2, rfl, hr2, hb2⟩
    obtain ⟨A2, c2, e2, _, _⟩ := hr2.form
    rw [rl_length] at e2
    subst e2
    have R2 := Lib.hid hr2
    have B2 := Lib.hid (B1.out.trans (hb2.mono B1.out.size))
    clear hr2 hb2 HPI B1
    go_wp2_with fail
    refine (HPS.out _).mono ?_
    rintro e w3 ⟨v3, rfl, hr3, hb3⟩
    obtain ⟨A3, c3, e3, _, _⟩ := hr3.form
    rw [rl_length] at e3
    subst e3
    have R3 := Lib.hid hr3
    have R2' := Lib.hid (R2.out.below hb3)
    have B3 := Lib.hid (B2.out.trans (hb3.mono B2.out.size))
    clear hr3 hb3 HPS R2 B2
    go_wp2_with fail
    refine (f6rows_b _ _ (rl m L) _ R2'.out R3.out).mono ?_
    rintro e w4 ⟨rfl, hb4⟩
    have R4 := Lib.hid (R2'.out.below hb4)
    have B4 := Lib.hid (B3.out.trans (hb4.mono B3.out.size))
    clear hb4 R2' R3 B3
    go_wp2_with fail
    refine (DrawTrueRows_any vb bs W _ HV.out B4.out).mono ?_
    rintro e w5 ⟨v5, R, rfl, hr5, hsm, hb5⟩
    obtain ⟨A5, c5, rfl, _, _⟩ := hr5.form
    have R5 := Lib.hid hr5
    have R4' := Lib.hid (R4.out.below hb5)
    have B5 := Lib.hid (B4.out.trans (hb5.mono B4.out.size))
    have HSM := Lib.hid hsm
    clear hr5 hb5 hsm R4 B4
    obtain ⟨st, bl, ps, r2, hcs2, hbi, hbs⟩ := rb_cases R HSM.out
    have HCS2 := Lib.hid hcs2
    have HBI := Lib.hid hbi
    have HBS := Lib.hid hbs
    clear hcs2 hbi hbs
    go_wp2_with fail
    refine (HBI.out _ _ R5.out).mono ?_
    rintro e w6 ⟨v6, rfl, ho6, hb6⟩
    obtain ⟨A6, c6, rfl⟩ := own_form ho6
    obtain ⟨wx, hwx⟩ : ∃ wx, wx = w6.alloc (.cells #[.int .i64 st, .int .i64 bl, .slice A6 ps.length c6] 33) := ⟨_, rfl⟩
    have HWX := Lib.hid hwx
    have hdx : Below w6.heap.size w6 wx := by subst hwx; go_grown
    have X6 : Hid (Blk wx w6.heap.size 33 #[.int .i64 st, .int .i64 bl, .slice A6 ps.length c6]) := by subst hwx; exact Blk.new _ _ _
    have O6 := Lib.hid (own_below ho6 hdx)
    have b6 := hb6.trans (hdx.mono hb6.size)
    have R5' := Lib.hid (R5.out.below b6)
    have R6 := Lib.hid (R4'.out.below b6)
    have B6 := Lib.hid (B5.out.trans (b6.mono B5.out.size))
    have zx : wx.heap.size = w6.heap.size + 1 := by subst hwx; simp
    clear hwx hdx b6 ho6 hb6 HBI R5 R4' B5
    go_wp2_with fail
    rw [← HWX.out]
    refine (HBS.out _ _ R5'.out).mono ?_
    rintro e w7 ⟨v7, rfl, ho7, hb7⟩
    obtain ⟨A7, c7, rfl⟩ := own_form ho7
    obtain ⟨wy, hwy⟩ : ∃ wy, wy = w7.alloc (.cells #[.int .i64 st, .int .i64 bl, .slice A7 ps.length c7] 33) := ⟨_, rfl⟩
    have HWY := Lib.hid hwy
    have hdy : Below w7.heap.size w7 wy := by subst hwy; go_grown
    have b7 := hb7.trans (hdy.mono hb7.size)
    have X7 := Lib.hid (X6.out.below b7)
    have Y7 : Hid (Blk wy w7.heap.size 33 #[.int .i64 st, .int .i64 bl, .slice A7 ps.length c7]) := by subst hwy; exact Blk.new _ _ _
    have P7 := Lib.hid (own_below O6.out b7)
    have Q7 := Lib.hid (own_below ho7 hdy)
    have R7 := Lib.hid (R5'.out.below b7)
    have R7' := Lib.hid (R6.out.below b7)
    have B7 := Lib.hid (B6.out.trans (b7.mono B6.out.size))
    have z7 := hb7.size
    have zy : wy.heap.size = w7.heap.size + 1 := by subst hwy; simp
    have hl := fun i (hi : i < R.length) => (show (rx R i).length ≤ 134217728 by have := HSM.out.2 i hi; omega)
    have HT1 := Lib.hid (fun w (hb : Below wy.heap.size wy w) => TrueRows_i _ R w (R7.out.below hb) hl)
    have HT2 := Lib.hid (fun w (hb : Below wy.heap.size wy w) => TrueRows_s _ R w (R7.out.below hb))
    clear hwy hdy b7 ho7 hb7 HBS R5' R6 B6 X6 O6 hl HWX
    go_wp2_with fail
    rw [← HWY.out]
    refine (HT1.out _ (Below.refl _ _)).mono ?_
    rintro e w8 ⟨rfl, hb8⟩
    have B8 := Lib.hid hb8
    clear hb8 HT1
    go_wp2_with fail
    refine (HT2.out _ B8.out).mono ?_
    rintro e w9 ⟨rfl, hb9⟩
    have b9 := B8.out.trans (hb9.mono B8.out.size)
    have X9 := Lib.hid (X7.out.below b9)
    have Y9 := Lib.hid (Y7.out.below b9)
    have P9 := Lib.hid (own_below P7.out b9)
    have Q9 := Lib.hid (own_below Q7.out b9)
    have R9 := Lib.hid (R7.out.below b9)
    have R9' := Lib.hid (R7'.out.below b9)
    have B9 := Lib.hid (B7.out.trans (b9.mono B7.out.size))
    have z9 := b9.size
    clear b9 hb9 B8 HT2 X7 Y7 P7 Q7 R7 R7' B7 HWY
    have c0 := X9.out.cell 0 rfl
    have c1 := X9.out.cell 1 rfl
    have c2' := X9.out.cell 2 rfl
    have cl := X9.out.lt
    have d0 := Y9.out.cell 0 rfl
    have d1 := Y9.out.cell 1 rfl
    have d2 := Y9.out.cell 2 rfl
    have dl := Y9.out.lt
    go_wp2_with fail
    refine (same_selfH _ _ ps st bl _ (SlP.of_own P9.out) (SlP.of_own Q9.out)).mono ?_
    rintro e w10 ⟨rfl, hb10⟩
    have X10 := Lib.hid (X9.out.below hb10)
    have P10 := Lib.hid (own_below P9.out hb10)
    have R10 := Lib.hid (R9.out.below hb10)
    have R10' := Lib.hid (R9'.out.below hb10)
    have B10 := Lib.hid (B9.out.trans (hb10.mono B9.out.size))
    clear hb10 X9 Y9 P9 Q9 R9 R9' B9 c0 c1 c2' cl d0 d1 d2 dl
    go_upto_if 71 with fail
    go_cut [] (fun wr => Below w10.heap.size w10 wr)
    case first =>
      rcases HCS2.out with ⟨hr20, S, N, hst, hbl, n1, n2, s1, s2, hS, hrl, hbr, hpl, hpsl, hpi⟩ | hr2n
      · subst hr20 hst hbl
        have HPI2 := Lib.hid hpi
        have HRL := Lib.hid hrl
        have HPSL := Lib.hid hpsl
        have hR0 : 0 < R.length := by
          rcases Nat.eq_zero_or_pos R.length with h | h
          · rw [h] at hS; omega
          · exact h
        have HPB := Lib.hid (fun w (hb : Below w10.heap.size w10 w) => PlayBarrel_i0 _ ps S S (N : Int) 0 w ((SlP.of_own P10.out).below hb) hbr (inB_t (by omega) (by omega)) (by omega))
        rw [hpl] at HPB
        obtain ⟨g5, o5, Au, cu, rfl, hg5, hu5, _⟩ := R10.out.at_ hR0
        rw [hrl 0 hR0] at hu5
        have HU5 := Lib.hid hu5
        have hST : (R.length : Int) * (N : Int) = (S : Int) := by rw [hS]; simp
        have eS : IntKind.i64.wrap ((R.length : Int) * (N : Int)) = (S : Int) := by rw [hST]; exact IntWalk.i64_in _ (by omega)
        have eS2 : IntKind.i64.wrap (S : Int) = (S : Int) := IntWalk.i64_in _ (by omega)
        have iR : (0 : Int) < (R.length : Int) := by omega
        have c0 := X10.out.cell 0 rfl
        have c1 := X10.out.cell 1 rfl
        have c2' := X10.out.cell 2 rfl
        have cl := X10.out.lt
        have HSN := Lib.hid hS
        clear hrl hbr hpl hpsl hpi hu5 hS hST
        go_wp2_with fail
        refine (HPB.out _ (by go_grown)).mono ?_
        rintro e w11 ⟨v11, rfl, ho11, hb11⟩
        have ho11' : w11.ownsRow w10.heap.size 62 2 v11 S (P64 ps) := by
          have h := own_mono (base' := w10.heap.size) ho11 (by simp)
          rw [HPSL.out] at h; exact h
        obtain ⟨g11, c11, rfl, _⟩ := ho11'.form (by omega)
        have HO11 := Lib.hid ho11'
        have R11 := Lib.hid (R10.out.below (Below.trans (by go_grown) (hb11.mono (by first | (simp; done) | (simp; omega) | omega))))
        have b11 : Below w10.heap.size w10 w11 := Below.trans (by go_grown) (hb11.mono (by first | (simp; done) | (simp; omega) | omega))
        have HB11 := Lib.hid b11
        have u5 : w11.cell? ⟨g5, o5, none⟩ = some (.slice Au N cu) := by
          have h := (b11.cell (p := ⟨g5, o5 + 0, none⟩) hg5).trans HU5.out
          simpa using h
        have hg5' : g5 < w11.heap.size := Nat.lt_of_lt_of_le hg5 b11.size
        have hg11 := (ho11'.lt g11 rfl).2
        have hcS : (S : Int) ≤ (c11 : Int) := by
          have h := hist (SlC.of_own ho11')
          omega
        clear ho11 ho11' hb11 b11 HPB c0 c1 c2' cl
        go_wp2_with fail
        go_loopw [16] (fun i wr => ∃ t q : Nat, t ≤ S ∧ i = .int .i64 (t : Int) ∧ wr = w11.drewN q) (fun i _ => S - (intOf i).toNat)
        case atStart => exact ⟨0, 0, Nat.zero_le _, by go_num, rfl⟩
        case round =>
          obtain ⟨t, q, ht, rfl, rfl⟩ := hrel
          by_cases hlt : t < S
          · obtain ⟨Y, hY⟩ : ∃ Y, Y = t / N := ⟨_, rfl⟩
            obtain ⟨Z, hZ⟩ : ∃ Z, Z = t % N := ⟨_, rfl⟩
            have hYR : Y < R.length := by rw [hY]; exact Nat.div_lt_of_lt_mul (by have := HSN.out; rw [Nat.mul_comm]; omega)
            have hZN : Z < N := by rw [hZ]; exact Nat.mod_lt _ (by omega)
            have hp := HPI2.out t hlt
            rw [← hY, ← hZ] at hp
            have hp0 := P64_get (ps := ps) (k := t) (by rw [HPSL.out]; exact hlt)
            rw [hp] at hp0
            obtain ⟨x, hx⟩ : ∃ x, x = ix (rx R Y) Z := ⟨_, rfl⟩
            have a0 : w11.cell? ⟨g11, t * 2, none⟩ = some (.int .i64 (t : Int)) := (HO11.out.cellAt (t * 2) (by omega)).trans hp0.1
            have a1 : w11.cell? ⟨g11, t * 2 + 1, none⟩ = some (.int .i64 x) := (HO11.out.cellAt (t * 2 + 1) (by omega)).trans (by rw [hx]; exact hp0.2)
            obtain ⟨_, _, Ay, cy, e5, hgy, huy, hsy⟩ := R11.out.at_ hYR
            injection e5 with e5
            injection e5 with e5 e6
            subst e5 e6
            obtain ⟨_, _, e9, _, hcy, HAy⟩ := hsy.open_
            injection e9 with e9 _ e10
            subst e9 e10
            obtain ⟨by_, oy, rfl, hby, hcey⟩ := HAy.out Z (by rw [HRL.out Y hYR]; exact hZN)
            have a2 := hcey Z (by rw [HRL.out Y hYR]; exact hZN)
            rw [← hx] at a2
            rw [HRL.out Y hYR] at huy
            have e1 : (t : Int).tdiv (N : Int) = (Y : Int) := by rw [Int.tdiv_eq_ediv_of_nonneg (by omega), hY]; simp
            have e2 : (t : Int).tmod (N : Int) = (Z : Int) := by rw [Int.tmod_eq_emod_of_nonneg (by omega), hZ]; simp
            have e3 : IntKind.i64.wrap (Y : Int) = (Y : Int) := IntWalk.i64_in _ (by omega)
            have e4 : IntKind.i64.wrap (Z : Int) = (Z : Int) := IntWalk.i64_in _ (by omega)
            have e7 : ¬ (N : Int) = 0 := by omega
            have e8 : ¬ N = 0 := by omega
            have e9 : ((N : Int) == 0) = false := by simpa using e7
            have i1 : (t : Int) < (S : Int) := by omega
            have i2 : (Y : Int) < (R.length : Int) := by omega
            have i3 : (Z : Int) < (N : Int) := by omega
            have hxx : (x != x) = false := by simp
            clear hY hZ hp hp0 hx hsy HAy hcey
            go_wp2
            go_quiet (fail)
            go_wp2
            go_roundw
            case rel => exact ⟨t + 1, _, by omega, by go_num, rfl⟩
            case measure => simp [intOf]; omega
          · obtain rfl : t = S := by omega
            have i1 : ¬ (t : Int) < (t : Int) := by omega
            go_wp2_with fail
            go_meet
            exact below_drewN HB11.out q
      · have hq : (r2 == 0) = false := by simpa using hr2n
        clear hr2n
        go_wp2_with fail
        go_meet
        exact Below.refl _ _
    case rest =>
      obtain ⟨w12, rfl⟩ : ∃ x : World, x = wc := ⟨_, rfl⟩
      have R12 := Lib.hid (R10'.out.below hcut)
      have B12 := Lib.hid (B10.out.trans (hcut.mono B10.out.size))
      clear hcut R10 R10' B10 X10 P10
      rcases HCS.out with ⟨hrc, n3, n8, hm, hL⟩ | hne
      · subst hrc hL
        have HM := Lib.hid hm
        obtain ⟨M, hM⟩ : ∃ M, M = m - 1 := ⟨_, rfl⟩
        have hMm : M < m := by omega
        obtain ⟨g2, o2, Al, cl, rfl, hg2, hu2, hs2⟩ := R12.out.at_ (i := M) (by rw [rl_length]; exact hMm)
        rw [rl_at _ hMm] at hu2 hs2
        obtain ⟨_, _, e9, hcl1, hcl2, HAl⟩ := hs2.open_
        injection e9 with e9 _ e10
        subst e9 e10
        obtain ⟨bl_, ol, rfl, hbl, hcel⟩ := HAl.out 0 (by rw [hr_length]; omega)
        have HCE := Lib.hid hcel
        obtain ⟨h0, hq⟩ := hunt_last n3 n8
        have eM9 : 2 * n - 1 = M := by omega
        rw [eM9] at h0 hq
        have HQ := Lib.hid hq
        have cl0 : w12.cell? ⟨bl_, ol, none⟩ = some (.int .i64 0) := by
          have h := hcel 0 (by rw [hr_length]; omega)
          rw [h0] at h
          simpa using h
        rw [hr_length] at hu2 hcl1
        have HT := Lib.hid (TrueRows_i _ (rl m (hr n)) w12 R12.out (fun i hi => by rw [rl_length] at hi; rw [rl_at _ hi, hr_length]; omega))
        have HTT : Hid (trueB (rl m (hr n)) = true) := by show _ = _; rw [hm]; exact hunt_true n3 n8
        have eM : IntKind.i64.wrap ((m : Int) - 1) = (M : Int) := by rw [show (m : Int) - 1 = (M : Int) by omega]; exact IntWalk.i64_in _ (by omega)
        have iM : (M : Int) < (m : Int) := by omega
        have e2n : IntKind.i64.wrap (2 * (n : Int)) = (m : Int) := by rw [show 2 * (n : Int) = (m : Int) by omega]; exact IntWalk.i64_in _ (by omega)
        have in0 : (0 : Int) < (n : Int) := by omega
        have hlen : Hid ((hr n M).length = n) := hr_length n M
        clear hm hM hs2 HAl hcel h0 hq eM9
        go_wp2_with fail
        go_loopw [18] (fun i wr => ∃ q t : Nat, t = 2 * q + 1 ∧ q ≤ n ∧ i = .int .i64 (t : Int) ∧ wr = w12) (fun i _ => 2 * n + 2 - (intOf i).toNat)
        case atStart => exact ⟨0, 1, rfl, Nat.zero_le _, by go_num, rfl⟩
        case round =>
          obtain ⟨q, t, htq, hqn, rfl, hw⟩ := hrel
          subst hw
          have HTQ := Lib.hid htq
          have ht9 : t ≤ 17 := by omega
          have e1 : IntKind.i64.wrap ((t : Int) + 1) = (t : Int) + 1 := IntWalk.i64_in _ (by omega)
          by_cases hlt : t + 1 < n
          · obtain ⟨q1, q2⟩ := HQ.out q (by omega) (by omega)
            have cT := HCE.out t (by rw [hlen.out]; omega)
            have cT1 := HCE.out (t + 1) (by rw [hlen.out]; omega)
            rw [show t = 2 * q + 1 from htq, q1] at cT
            rw [show t + 1 = 2 * q + 2 by omega, q2] at cT1
            rw [← htq] at cT cT1
            rw [show 2 * q + 2 = t + 1 by omega] at cT cT1
            have i1 : (t : Int) + 1 < (n : Int) := by omega
            have i2 : (t : Int) < (n : Int) := by omega
            have n1 : ((t : Int) + 1).toNat = t + 1 := by omega
            have i3 : (0 : Int) ≤ (t : Int) + 1 := by omega
            clear htq q1 q2
            go_wp2_with fail
            exact ⟨⟨q + 1, t + 2, by have := HTQ.out; omega, by have := HTQ.out; omega, by go_num, trivial⟩, by simp [intOf]; omega⟩
          · have i1 : ¬ (t : Int) + 1 < (n : Int) := by omega
            clear htq
            go_wp2_with fail
            refine HT.out.mono ?_
            rintro e w13 ⟨rfl, hb13⟩
            rw [HTT.out]
            have B13 := Lib.hid (B12.out.trans (hb13.mono B12.out.size))
            have cl0' : w13.cell? ⟨bl_, ol, none⟩ = some (.int .i64 0) := (hb13.cell (p := ⟨bl_, ol, none⟩) hbl).trans cl0
            have hbl' : bl_ < w13.heap.size := Nat.lt_of_lt_of_le hbl hb13.size
            clear hb13 cl0 HT
            go_wp2_with fail
            go_ret
            exact ⟨rfl, B13.out⟩
      · have hq : (rc != 0) = true := by simpa using hne
        clear hne
        go_wp2
        go_ret
        exact ⟨rfl, B12.out⟩

set_option maxRecDepth 100000 in
theorem fnHunts_lifted (os : Os) (started : os.Started) (H : Type) (enc : TypeId × Value → H) :
    ReturnsInHanded {} Try.checked os 7 .any (Rows.fnHuntsSpec.pre6 enc Try.prog Try.f7 Rows.fnHuntsRow.domain false) (Rows.fnHuntsSpec.post enc Try.prog Try.f7 false true false false) := by
  refine returnsInHanded_of_change (C := Try.checked) Try.own started (by kernel_rfl) Try.func7
    (ChangeSpec.witness6 (enc := enc) (C := Try.checked) false ⟨#[], #[.slice none 0 0], []⟩ 8 (by kernel_rfl) (by kernel_rfl) (by kernel_rfl) (by kernel_rfl)) ?_
  intro W base args ds gs before hval0 hW hcnd _
  have hval : ∀ (j : Nat) t v, Try.f7.params[j]? = some t → args[j]? = some v → Value.okWide Try.prog W .any base t v := hval0
  have hW' := hW
  have hltB : ∀ x ∈ before, x.block < W.heap.size := fun x hx => hW.lt x hx
  obtain ⟨p, q, hA0, hV, rfl, hfz, hnd⟩ := hW
  have hA : DataW.TrodAll enc Try.prog W 0 (fun _ => true) true Try.f7.params.toList args.toList ds p := hA0
  rw [Try.params7] at hA hval
  obtain ⟨v0, vs0, d0, ds0, p0, q0, hargs, rfl, rfl, h0, r0⟩ := trodAll_cons hA
  obtain ⟨rfl, rfl, rfl⟩ := trodAll_nil r0
  obtain rfl : args = #[v0] := by cases args; simp_all
  clear hA0 hval0 hA hcnd hfz hnd
  have hlt0 : ∀ x ∈ p0, x.block < W.heap.size := fun x hx => hltB x (by simp [hx])
  obtain ⟨a0, n0, c0, rfl⟩ := okWide_slice Try.underlying41 (hval 0 41 v0 rfl rfl)
  obtain ⟨fu0, hf0⟩ := h0
  obtain ⟨bs, hbs, _⟩ := trod_bytes Try.underlying41 Try.underlying5 (by kernel_rfl) hf0 hlt0
  refine (hunts_walk _ bs W hbs).mono fun e W' ⟨he, hb⟩ => ?_
  subst he
  exact ⟨_, rfl, post_law Try.laidOut hW' rfl rfl (by kernel_rfl) (by kernel_rfl) Try.underlying4 hb⟩

set_option maxHeartbeats 2000000 in
theorem fnHunts_facts : joinedFacts Try.prog 7 Try.f7 Rows.fnHuntsSpec Rows.fnHuntsRow = true := by
  unfold joinedFacts
  simp only [Bool.and_eq_true]
  repeat' apply And.intro
  all_goals first | with_reducible exact Try.laidOut | with_reducible exact Try.g2 | with_reducible exact Try.g24 | with_reducible exact Try.g25 | (rw [Try.g26]; rfl) | (rw [Try.g27]; rfl) | as_aux_lemma => kernel_rfl
/-- The statement. -/
theorem fnHunts_holds : Rows.FnHuntsSaid :=
  OpenClaim.holds_of_wide 7 Try.f7 rfl rfl rfl rfl rfl rfl rfl ⟨rfl, rfl, rfl, rfl, rfl⟩ rfl rfl rfl rfl rfl (by as_aux_lemma => kernel_rfl) Try.func7 fnHunts_facts
    (by as_aux_lemma => exact of_decide_eq_true (by kernel_rfl)) (by as_aux_lemma => unfold Func.isWrapper; rw [if_neg (of_decide_eq_false (by kernel_rfl))]; exact ⟨rfl, rfl⟩)
    (fun os started H enc _ => fnHunts_lifted os started H enc)
#print axioms fnHunts_holds
end Go.Proofs.Ytgaohmbgjjhdbaa
