/- FnCopiedWheels is proved: the rack that copies a count wheel strikes as the wheel does, for as long as the hands are not moved backward; the answers are the reference's. No condition. -/
import Derived.Test.YtipakagmbppagaaDrF
import Derived.Test.YtipakagmbppagaaRkZ
import Derived.Test.YtipakagmbppagaaRkR
import Derived.Test.YtipakagmbppagaaRkQ
import Derived.Test.YtipakagmbppagaaSeRackState
import Derived.Test.YtipakagmbppagaaF6
import Derived.Test.YtipakagmbppagaaRow3
import Derived.Test.YtipakagmbppagaaRowF
import Derived.Deep.RegionHeld3
namespace Go.Proofs.Ytipakagmbppagaa
open Go.ChangeShapes Go.WideShapes Go.ChangeAt Go.RowKit
attribute [local go_sem ↓] Go.wp_at_zero Go.wp_at_succ
attribute [local go_sem ↓] eql_RackState neq_RackState eqGuard_RackState

theorem copy_cases (gs : List Int) (q wn : Int) :
    (∃ c : Int, c ≠ 0 ∧ (∀ v w, Sl w v gs → Calls Try.prog 56 #[.agg #[v], .int .i64 q, .int .i64 wn] w fun e w' => ∃ v', e = .returned (.tuple #[.agg #[v', .int .i64 0], .int .i64 c]) ∧ w'.ownsRow w.heap.size 2 1 v' ([] : List Int).length (I64 ([] : List Int)) ∧ Below w.heap.size w w') ∧
      (∀ v w, Sl w v gs → Calls Try.prog 54 #[.agg #[v], .int .i64 q, .int .i64 wn] w fun e w' => ∃ v', e = .returned (.tuple #[.agg #[v', .int .i64 0], .int .i64 c]) ∧ w'.ownsRow w.heap.size 2 1 v' ([] : List Int).length (I64 ([] : List Int)) ∧ Below w.heap.size w w')) ∨
    (whB gs = true ∧ inB q 0 ((gs.length : Int) - 1) = true ∧ inB wn 1 30 = true ∧ (12 : Int) % (gs.length : Int) = 0) := by
  cases h1 : whB gs with
  | false => exact Or.inl ⟨1, by decide, fun v w hv => CopyWheel_i1 v gs q wn w hv h1, fun v w hv => CopyWheel_s1 v gs q wn w hv h1⟩
  | true =>
    cases h2 : inB q 0 ((gs.length : Int) - 1) with
    | false => exact Or.inl ⟨2, by decide, fun v w hv => CopyWheel_i2 v gs q wn w hv h1 h2, fun v w hv => CopyWheel_s2 v gs q wn w hv h1 h2⟩
    | true =>
      cases h3 : inB wn 1 30 with
      | false => exact Or.inl ⟨2, by decide, fun v w hv => CopyWheel_i3 v gs q wn w hv h1 h2 h3, fun v w hv => CopyWheel_s3 v gs q wn w hv h1 h2 h3⟩
      | true =>
        by_cases h4 : (12 : Int) % (gs.length : Int) = 0
        · exact Or.inr ⟨rfl, rfl, rfl, h4⟩
        · exact Or.inl ⟨6, by decide, fun v w hv => CopyWheel_i4 v gs q wn w hv h1 h2 h3 h4, fun v w hv => CopyWheel_s4 v gs q wn w hv h1 h2 h3 h4⟩
theorem copy_run (v : Value) (gs : List Int) (q wn : Int) (w : World) (hw : whB gs = true) (hn : inB wn 1 30 = true) (hd : (12 : Int) % (gs.length : Int) = 0) (hv : Sl w v (cwM gs q 12)) :
    Calls Try.prog 43 #[.agg #[v, .int .i64 wn], .agg #[.int .i64 0, .int .i64 0], .int .i64 1800] w fun e w' => ∃ v', e = .returned (.tuple #[.agg #[.int .i64 (itM 0 1800), .int .i64 (itR (cwM gs q 12) wn 0 0 1800)], v', .int .i64 0]) ∧ w'.ownsRow w.heap.size 2 1 v' (manyM gs q 30).length (I64 (manyM gs q 30)) ∧ Below w.heap.size w w' := by
  have hr : RkOk (cwM gs q 12) wn := cwM_ok hw (inB_iff.1 hn)
  have h := RunRack_i0 v (cwM gs q 12) wn 0 0 1800 w hv (stB_iff.2 ⟨hr, stOk_zero ⟨by decide, by decide⟩ rfl⟩) (by decide)
  have h2 := hours_run hr 30
  have e : (60 * 30 : Nat) = 1800 := rfl
  rw [e] at h2
  rw [h2.1, copy_many hd] at h
  exact h
theorem copy_valid (v : Value) (gs : List Int) (q wn : Int) (w : World) (hw : whB gs = true) (hn : inB wn 1 30 = true) (hv : Sl w v (cwM gs q 12)) :
    Calls Try.prog 22 #[.agg #[v, .int .i64 wn]] w fun e w' => e = .returned (.bool true) ∧ Below w.heap.size w w' := by
  have h := ValidRack_i v (cwM gs q 12) wn w hv
  rwa [rkB_iff.2 (cwM_ok hw (inB_iff.1 hn))] at h

set_option maxRecDepth 100000 in
set_option maxHeartbeats 16000000 in
theorem copiedWheels_walk (vb : Value) (bs : List Int) (W : World) (hv : SlB W vb bs) :
    Calls Try.prog 17 #[vb] W fun e W' => e = .returned (.bool true) ∧ Below W.heap.size W W' := by
  have HV := Lib.hid hv
  clear hv
  cases hbig : decide (4096 < bs.length) with
  | true =>
    go_enter Try.func17, Try.ntmps17
    go_wp2_with fail
    refine (f6big_any vb bs _ HV.out _ hbig).mono ?_
    rintro e w' ⟨rfl, rfl⟩
    go_wp2
    go_ret
    exact ⟨rfl, Below.refl _ _⟩
  | false =>
    have HBG := Lib.hid hbig
    clear hbig
    go_enter Try.func17, Try.ntmps17
    go_wp2_with fail
    refine (f6big_any vb bs _ HV.out _ HBG.out).mono ?_
    rintro e w' ⟨rfl, rfl⟩
    go_wp2_with fail
    refine (DrawCopyWheel_any vb bs _ HV.out).mono ?_
    rintro e w1 ⟨v, gs, q, wn, rfl, o_v, hl, hb⟩
    obtain ⟨A_v, C_v, rfl⟩ := own_form o_v
    have old := Lib.hid hb
    have O_v := Lib.hid o_v
    have HL := Lib.hid hl
    clear hb o_v hl HBG
    rcases copy_cases gs q wn with ⟨c, hc, hci, hcs⟩ | ⟨h1, h2, h3, h4⟩
    · have HCI := Lib.hid hci
      have HCS := Lib.hid hcs
      have hcq : (c != 0) = true := by simpa using hc
      clear hci hcs hc
      go_wp2_with fail
      refine (HCI.out _ _ (Sl.of_own (own_below O_v.out (by first | (with_reducible exact Below.refl _ _) | go_grown)))).mono ?_
      rintro e w2 ⟨v2, rfl, o_v2, hb⟩
      obtain ⟨A_v2, C_v2, rfl⟩ := own_form o_v2
      have b_w2 : Below w1.heap.size w1 w2 := Below.trans (by first | (with_reducible exact Below.refl _ _) | go_grown) (hb.mono (by first | (with_reducible exact Nat.le_refl _) | (with_reducible assumption) | (simp [go_sem]; done) | (simp [go_sem]; omega) | omega))
      replace O_v := Lib.hid (own_below O_v.out b_w2)
      have B_w : Hid (Blk w2 (w1.heap.size) 62 #[.slice A_v gs.length C_v]) := Blk.below (by first | exact Blk.new _ _ _ | exact (Blk.new _ _ _).alloc _ | (have h := Blk.new (w1) 62 #[.slice A_v gs.length C_v]; simpa using h)) hb
      replace old := Lib.hid (grown_again old.out b_w2)
      clear hb b_w2
      have O_v2 := Lib.hid o_v2
      clear o_v2
      have c_w_0 := B_w.out.cell 0 rfl
      have l_w := B_w.out.lt
      go_wp2_with fail
      refine (HCS.out _ _ (Sl.of_own (own_below O_v.out (by first | (with_reducible exact Below.refl _ _) | go_grown)))).mono ?_
      rintro e w3 ⟨v3, rfl, o_v3, hb⟩
      obtain ⟨A_v3, C_v3, rfl⟩ := own_form o_v3
      have b_w3 : Below w2.heap.size w2 w3 := Below.trans (by first | (with_reducible exact Below.refl _ _) | go_grown) (hb.mono (by first | (with_reducible exact Nat.le_refl _) | (with_reducible assumption) | (simp [go_sem]; done) | (simp [go_sem]; omega) | omega))
      replace B_w := Lib.hid (B_w.out.below b_w3)
      replace O_v := Lib.hid (own_below O_v.out b_w3)
      replace O_v2 := Lib.hid (own_below O_v2.out b_w3)
      have B_r : Hid (Blk w3 (w2.heap.size) 27 #[.slice A_v2 (([] : List Int)).length C_v2, .int .i64 0]) := Blk.below (by first | exact Blk.new _ _ _ | exact (Blk.new _ _ _).alloc _ | (have h := Blk.new (w2) 27 #[.slice A_v2 (([] : List Int)).length C_v2, .int .i64 0]; simpa using h)) hb
      replace old := Lib.hid (grown_again old.out b_w3)
      clear hb b_w3
      have O_v3 := Lib.hid o_v3
      clear o_v3
      clear c_w_0 l_w
      have c_w_0 := B_w.out.cell 0 rfl
      have l_w := B_w.out.lt
      have c_r_0 := B_r.out.cell 0 rfl
      have c_r_1 := B_r.out.cell 1 rfl
      have l_r := B_r.out.lt
      go_wp2_with fail
      refine (f6same_b _ _ ([] : List Int) _ (Sl.of_own (own_below O_v2.out (by first | (with_reducible exact Below.refl _ _) | go_grown))) (Sl.of_own (own_below O_v3.out (by first | (with_reducible exact Below.refl _ _) | go_grown)))).mono ?_
      rintro e w4 ⟨rfl, hb⟩
      have b_w4 : Below w3.heap.size w3 w4 := Below.trans (by first | (with_reducible exact Below.refl _ _) | go_grown) (hb.mono (by first | (with_reducible exact Nat.le_refl _) | (with_reducible assumption) | (simp [go_sem]; done) | (simp [go_sem]; omega) | omega))
      replace B_w := Lib.hid (B_w.out.below b_w4)
      replace B_r := Lib.hid (B_r.out.below b_w4)
      replace O_v := Lib.hid (own_below O_v.out b_w4)
      replace O_v2 := Lib.hid (own_below O_v2.out b_w4)
      replace O_v3 := Lib.hid (own_below O_v3.out b_w4)
      have B_m : Hid (Blk w4 (w3.heap.size) 27 #[.slice A_v3 (([] : List Int)).length C_v3, .int .i64 0]) := Blk.below (by first | exact Blk.new _ _ _ | exact (Blk.new _ _ _).alloc _ | (have h := Blk.new (w3) 27 #[.slice A_v3 (([] : List Int)).length C_v3, .int .i64 0]; simpa using h)) hb
      replace old := Lib.hid (grown_again old.out b_w4)
      clear hb b_w4
      clear c_w_0 l_w c_r_0 c_r_1 l_r
      have c_w_0 := B_w.out.cell 0 rfl
      have l_w := B_w.out.lt
      have c_r_0 := B_r.out.cell 0 rfl
      have c_r_1 := B_r.out.cell 1 rfl
      have l_r := B_r.out.lt
      have c_m_0 := B_m.out.cell 0 rfl
      have c_m_1 := B_m.out.cell 1 rfl
      have l_m := B_m.out.lt
      go_wp2
      go_ret
      exact ⟨rfl, old.out⟩
    · have H1 := Lib.hid h1
      have H2 := Lib.hid h2
      have H3 := Lib.hid h3
      have H4 := Lib.hid h4
      obtain ⟨q0, q1⟩ := inB_iff.1 h2
      clear h1 h2 h3 h4
      obtain ⟨cs, hcs⟩ : ∃ cs, cs = cwM gs q 12 := ⟨_, rfl⟩
      obtain ⟨ml, hml⟩ : ∃ ml, ml = manyM gs q 30 := ⟨_, rfl⟩
      obtain ⟨mm, hmm⟩ : ∃ mm, mm = itM 0 1800 := ⟨_, rfl⟩
      obtain ⟨rr, hrr⟩ : ∃ rr, rr = itR (cwM gs q 12) wn 0 0 1800 := ⟨_, rfl⟩
      have K1 := Lib.hid (fun v w hv => CopyWheel_i0 v gs q wn w hv H1.out H2.out H3.out H4.out)
      have K2 := Lib.hid (fun v w hv => CopyWheel_s0 v gs q wn w hv H1.out H2.out H3.out H4.out)
      have K3 := Lib.hid (fun v w hv => copy_run v gs q wn w H1.out H3.out H4.out hv)
      have K4 := Lib.hid (fun v w hv => copy_valid v gs q wn w H1.out H3.out hv)
      have K5 := Lib.hid (fun v w hv => StrikeMany_i0 v gs q 30 w hv H1.out q0 (by omega) (by decide))
      rw [← hmm, ← hrr, ← hcs, ← hml] at K3
      rw [← hcs] at K1 K2 K4
      rw [← hml] at K5
      clear hcs hml hmm hrr
      go_wp2_with fail
      refine (K1.out _ _ (Sl.of_own (own_below O_v.out (by first | (with_reducible exact Below.refl _ _) | go_grown)))).mono ?_
      rintro e w2 ⟨v2, rfl, o_v2, hb⟩
      obtain ⟨A_v2, C_v2, rfl⟩ := own_form o_v2
      have b_w2 : Below w1.heap.size w1 w2 := Below.trans (by first | (with_reducible exact Below.refl _ _) | go_grown) (hb.mono (by first | (with_reducible exact Nat.le_refl _) | (with_reducible assumption) | (simp [go_sem]; done) | (simp [go_sem]; omega) | omega))
      replace O_v := Lib.hid (own_below O_v.out b_w2)
      have B_w : Hid (Blk w2 (w1.heap.size) 62 #[.slice A_v gs.length C_v]) := Blk.below (by first | exact Blk.new _ _ _ | exact (Blk.new _ _ _).alloc _ | (have h := Blk.new (w1) 62 #[.slice A_v gs.length C_v]; simpa using h)) hb
      replace old := Lib.hid (grown_again old.out b_w2)
      clear hb b_w2
      have O_v2 := Lib.hid o_v2
      clear o_v2
      have c_w_0 := B_w.out.cell 0 rfl
      have l_w := B_w.out.lt
      go_wp2_with fail
      refine (K2.out _ _ (Sl.of_own (own_below O_v.out (by first | (with_reducible exact Below.refl _ _) | go_grown)))).mono ?_
      rintro e w3 ⟨v3, rfl, o_v3, hb⟩
      obtain ⟨A_v3, C_v3, rfl⟩ := own_form o_v3
      have b_w3 : Below w2.heap.size w2 w3 := Below.trans (by first | (with_reducible exact Below.refl _ _) | go_grown) (hb.mono (by first | (with_reducible exact Nat.le_refl _) | (with_reducible assumption) | (simp [go_sem]; done) | (simp [go_sem]; omega) | omega))
      replace B_w := Lib.hid (B_w.out.below b_w3)
      replace O_v := Lib.hid (own_below O_v.out b_w3)
      replace O_v2 := Lib.hid (own_below O_v2.out b_w3)
      have B_r : Hid (Blk w3 (w2.heap.size) 27 #[.slice A_v2 (cs).length C_v2, .int .i64 wn]) := Blk.below (by first | exact Blk.new _ _ _ | exact (Blk.new _ _ _).alloc _ | (have h := Blk.new (w2) 27 #[.slice A_v2 (cs).length C_v2, .int .i64 wn]; simpa using h)) hb
      replace old := Lib.hid (grown_again old.out b_w3)
      clear hb b_w3
      have O_v3 := Lib.hid o_v3
      clear o_v3
      clear c_w_0 l_w
      have c_w_0 := B_w.out.cell 0 rfl
      have l_w := B_w.out.lt
      have c_r_0 := B_r.out.cell 0 rfl
      have c_r_1 := B_r.out.cell 1 rfl
      have l_r := B_r.out.lt
      go_wp2_with fail
      refine (f6same_b _ _ cs _ (Sl.of_own (own_below O_v2.out (by first | (with_reducible exact Below.refl _ _) | go_grown))) (Sl.of_own (own_below O_v3.out (by first | (with_reducible exact Below.refl _ _) | go_grown)))).mono ?_
      rintro e w4 ⟨rfl, hb⟩
      have b_w4 : Below w3.heap.size w3 w4 := Below.trans (by first | (with_reducible exact Below.refl _ _) | go_grown) (hb.mono (by first | (with_reducible exact Nat.le_refl _) | (with_reducible assumption) | (simp [go_sem]; done) | (simp [go_sem]; omega) | omega))
      replace B_w := Lib.hid (B_w.out.below b_w4)
      replace B_r := Lib.hid (B_r.out.below b_w4)
      replace O_v := Lib.hid (own_below O_v.out b_w4)
      replace O_v2 := Lib.hid (own_below O_v2.out b_w4)
      replace O_v3 := Lib.hid (own_below O_v3.out b_w4)
      have B_m : Hid (Blk w4 (w3.heap.size) 27 #[.slice A_v3 (cs).length C_v3, .int .i64 wn]) := Blk.below (by first | exact Blk.new _ _ _ | exact (Blk.new _ _ _).alloc _ | (have h := Blk.new (w3) 27 #[.slice A_v3 (cs).length C_v3, .int .i64 wn]; simpa using h)) hb
      replace old := Lib.hid (grown_again old.out b_w4)
      clear hb b_w4
      clear c_w_0 l_w c_r_0 c_r_1 l_r
      have c_w_0 := B_w.out.cell 0 rfl
      have l_w := B_w.out.lt
      have c_r_0 := B_r.out.cell 0 rfl
      have c_r_1 := B_r.out.cell 1 rfl
      have l_r := B_r.out.lt
      have c_m_0 := B_m.out.cell 0 rfl
      have c_m_1 := B_m.out.cell 1 rfl
      have l_m := B_m.out.lt
      go_wp2_with fail
      refine (K3.out _ _ (Sl.of_own (own_below O_v2.out (by first | (with_reducible exact Below.refl _ _) | go_grown)))).mono ?_
      rintro e w5 ⟨v4, rfl, o_v4, hb⟩
      obtain ⟨A_v4, C_v4, rfl⟩ := own_form o_v4
      have b_w5 : Below w4.heap.size w4 w5 := Below.trans (by first | (with_reducible exact Below.refl _ _) | go_grown) (hb.mono (by first | (with_reducible exact Nat.le_refl _) | (with_reducible assumption) | (simp [go_sem]; done) | (simp [go_sem]; omega) | omega))
      replace B_w := Lib.hid (B_w.out.below b_w5)
      replace B_r := Lib.hid (B_r.out.below b_w5)
      replace B_m := Lib.hid (B_m.out.below b_w5)
      replace O_v := Lib.hid (own_below O_v.out b_w5)
      replace O_v2 := Lib.hid (own_below O_v2.out b_w5)
      replace O_v3 := Lib.hid (own_below O_v3.out b_w5)
      replace old := Lib.hid (grown_again old.out b_w5)
      clear hb b_w5
      have O_v4 := Lib.hid o_v4
      clear o_v4
      clear c_w_0 l_w c_r_0 c_r_1 l_r c_m_0 c_m_1 l_m
      have c_w_0 := B_w.out.cell 0 rfl
      have l_w := B_w.out.lt
      have c_r_0 := B_r.out.cell 0 rfl
      have c_r_1 := B_r.out.cell 1 rfl
      have l_r := B_r.out.lt
      have c_m_0 := B_m.out.cell 0 rfl
      have c_m_1 := B_m.out.cell 1 rfl
      have l_m := B_m.out.lt
      go_wp2_with fail
      refine (K5.out _ _ (Sl.of_own (own_below O_v.out (by first | (with_reducible exact Below.refl _ _) | go_grown)))).mono ?_
      rintro e w6 ⟨v5, zz, rfl, o_v5, hb⟩
      obtain ⟨A_v5, C_v5, rfl⟩ := own_form o_v5
      have b_w6 : Below w5.heap.size w5 w6 := Below.trans (by first | (with_reducible exact Below.refl _ _) | go_grown) (hb.mono (by first | (with_reducible exact Nat.le_refl _) | (with_reducible assumption) | (simp [go_sem]; done) | (simp [go_sem]; omega) | omega))
      replace B_w := Lib.hid (B_w.out.below b_w6)
      replace B_r := Lib.hid (B_r.out.below b_w6)
      replace B_m := Lib.hid (B_m.out.below b_w6)
      replace O_v := Lib.hid (own_below O_v.out b_w6)
      replace O_v2 := Lib.hid (own_below O_v2.out b_w6)
      replace O_v3 := Lib.hid (own_below O_v3.out b_w6)
      replace O_v4 := Lib.hid (own_below O_v4.out b_w6)
      have B_x : Hid (Blk w6 (w5.heap.size) 34 #[.int .i64 mm, .int .i64 rr]) := Blk.below (by first | exact Blk.new _ _ _ | exact (Blk.new _ _ _).alloc _ | (have h := Blk.new (w5) 34 #[.int .i64 mm, .int .i64 rr]; simpa using h)) hb
      replace old := Lib.hid (grown_again old.out b_w6)
      clear hb b_w6
      have O_v5 := Lib.hid o_v5
      clear o_v5
      clear c_w_0 l_w c_r_0 c_r_1 l_r c_m_0 c_m_1 l_m
      have c_w_0 := B_w.out.cell 0 rfl
      have l_w := B_w.out.lt
      have c_r_0 := B_r.out.cell 0 rfl
      have c_r_1 := B_r.out.cell 1 rfl
      have l_r := B_r.out.lt
      have c_m_0 := B_m.out.cell 0 rfl
      have c_m_1 := B_m.out.cell 1 rfl
      have l_m := B_m.out.lt
      have c_x_0 := B_x.out.cell 0 rfl
      have c_x_1 := B_x.out.cell 1 rfl
      have l_x := B_x.out.lt
      go_wp2_with fail
      refine (f6same_b _ _ ml _ (Sl.of_own (own_below O_v4.out (by first | (with_reducible exact Below.refl _ _) | go_grown))) (Sl.of_own (own_below O_v5.out (by first | (with_reducible exact Below.refl _ _) | go_grown)))).mono ?_
      rintro e w7 ⟨rfl, hb⟩
      have b_w7 : Below w6.heap.size w6 w7 := Below.trans (by first | (with_reducible exact Below.refl _ _) | go_grown) (hb.mono (by first | (with_reducible exact Nat.le_refl _) | (with_reducible assumption) | (simp [go_sem]; done) | (simp [go_sem]; omega) | omega))
      replace B_w := Lib.hid (B_w.out.below b_w7)
      replace B_r := Lib.hid (B_r.out.below b_w7)
      replace B_m := Lib.hid (B_m.out.below b_w7)
      replace B_x := Lib.hid (B_x.out.below b_w7)
      replace O_v := Lib.hid (own_below O_v.out b_w7)
      replace O_v2 := Lib.hid (own_below O_v2.out b_w7)
      replace O_v3 := Lib.hid (own_below O_v3.out b_w7)
      replace O_v4 := Lib.hid (own_below O_v4.out b_w7)
      replace O_v5 := Lib.hid (own_below O_v5.out b_w7)
      replace old := Lib.hid (grown_again old.out b_w7)
      clear hb b_w7
      clear c_w_0 l_w c_r_0 c_r_1 l_r c_m_0 c_m_1 l_m c_x_0 c_x_1 l_x
      have c_w_0 := B_w.out.cell 0 rfl
      have l_w := B_w.out.lt
      have c_r_0 := B_r.out.cell 0 rfl
      have c_r_1 := B_r.out.cell 1 rfl
      have l_r := B_r.out.lt
      have c_m_0 := B_m.out.cell 0 rfl
      have c_m_1 := B_m.out.cell 1 rfl
      have l_m := B_m.out.lt
      have c_x_0 := B_x.out.cell 0 rfl
      have c_x_1 := B_x.out.cell 1 rfl
      have l_x := B_x.out.lt
      go_wp2_with fail
      refine (K4.out _ _ (Sl.of_own (own_below O_v2.out (by first | (with_reducible exact Below.refl _ _) | go_grown)))).mono ?_
      rintro e w8 ⟨rfl, hb⟩
      have b_w8 : Below w7.heap.size w7 w8 := Below.trans (by first | (with_reducible exact Below.refl _ _) | go_grown) (hb.mono (by first | (with_reducible exact Nat.le_refl _) | (with_reducible assumption) | (simp [go_sem]; done) | (simp [go_sem]; omega) | omega))
      replace B_w := Lib.hid (B_w.out.below b_w8)
      replace B_r := Lib.hid (B_r.out.below b_w8)
      replace B_m := Lib.hid (B_m.out.below b_w8)
      replace B_x := Lib.hid (B_x.out.below b_w8)
      replace O_v := Lib.hid (own_below O_v.out b_w8)
      replace O_v2 := Lib.hid (own_below O_v2.out b_w8)
      replace O_v3 := Lib.hid (own_below O_v3.out b_w8)
      replace O_v4 := Lib.hid (own_below O_v4.out b_w8)
      replace O_v5 := Lib.hid (own_below O_v5.out b_w8)
      replace old := Lib.hid (grown_again old.out b_w8)
      clear hb b_w8
      go_wp2
      go_ret
      exact ⟨rfl, old.out⟩

set_option maxRecDepth 100000 in
theorem fnCopiedWheels_lifted (os : Os) (started : os.Started) (H : Type) (enc : TypeId × Value → H) :
    ReturnsInHanded {} Try.checked os 17 .any (Rows.fnCopiedWheelsSpec.pre6 enc Try.prog Try.f17 Rows.fnCopiedWheelsRow.domain false) (Rows.fnCopiedWheelsSpec.post enc Try.prog Try.f17 false true false false) := by
  refine returnsInHanded_of_change (C := Try.checked) Try.own started (by kernel_rfl) Try.func17
    (ChangeSpec.witness6 (enc := enc) (C := Try.checked) false ⟨#[], #[.slice none 0 0], []⟩ 8 (by kernel_rfl) (by kernel_rfl) (by kernel_rfl) (by kernel_rfl)) ?_
  intro W base args ds gs before hval0 hW hcnd _
  have hval : ∀ (j : Nat) t v, Try.f17.params[j]? = some t → args[j]? = some v → Value.okWide Try.prog W .any base t v := hval0
  have hW' := hW
  have hltB : ∀ x ∈ before, x.block < W.heap.size := fun x hx => hW.lt x hx
  obtain ⟨p, q, hA0, hV, rfl, hfz, hnd⟩ := hW
  have hA : DataW.TrodAll enc Try.prog W 0 (fun _ => true) true Try.f17.params.toList args.toList ds p := hA0
  rw [Try.params17] at hA hval
  obtain ⟨v0, vs0, d0, ds0, p0, q0, hargs, rfl, rfl, h0, r0⟩ := trodAll_cons hA
  obtain ⟨rfl, rfl, rfl⟩ := trodAll_nil r0
  obtain rfl : args = #[v0] := by cases args; simp_all
  clear hA0 hval0 hA hcnd hfz hnd
  have hlt0 : ∀ x ∈ p0, x.block < W.heap.size := fun x hx => hltB x (by simp [hx])
  obtain ⟨a0, n0, c0, rfl⟩ := okWide_slice Try.underlying31 (hval 0 31 v0 rfl rfl)
  obtain ⟨fu0, hf0⟩ := h0
  obtain ⟨bs, hbs, _⟩ := trod_bytes Try.underlying31 Try.underlying5 (by kernel_rfl) hf0 hlt0
  refine (copiedWheels_walk _ bs W hbs).mono fun e W' ⟨he, hb⟩ => ?_
  subst he
  exact ⟨_, rfl, post_law Try.laidOut hW' rfl rfl (by kernel_rfl) (by kernel_rfl) Try.underlying4 hb⟩

set_option maxHeartbeats 2000000 in
theorem fnCopiedWheels_facts : joinedFacts Try.prog 17 Try.f17 Rows.fnCopiedWheelsSpec Rows.fnCopiedWheelsRow = true := by
  unfold joinedFacts
  simp only [Bool.and_eq_true]
  repeat' apply And.intro
  all_goals first | with_reducible exact Try.laidOut | with_reducible exact Try.g2 | with_reducible exact Try.g24 | with_reducible exact Try.g25 | (rw [Try.g26]; rfl) | (rw [Try.g27]; rfl) | as_aux_lemma => kernel_rfl
/-- The statement. -/
theorem fnCopiedWheels_holds : Rows.FnCopiedWheelsSaid :=
  OpenClaim.holds_of_wide 17 Try.f17 rfl rfl rfl rfl rfl rfl rfl ⟨rfl, rfl, rfl, rfl, rfl⟩ rfl rfl rfl rfl rfl (by as_aux_lemma => kernel_rfl) Try.func17 fnCopiedWheels_facts
    (by as_aux_lemma => exact of_decide_eq_true (by kernel_rfl)) (by as_aux_lemma => unfold Func.isWrapper; rw [if_neg (of_decide_eq_false (by kernel_rfl))]; exact ⟨rfl, rfl⟩)
    (fun os started H enc _ => fnCopiedWheels_lifted os started H enc)
#print axioms fnCopiedWheels_holds
end Go.Proofs.Ytipakagmbppagaa
