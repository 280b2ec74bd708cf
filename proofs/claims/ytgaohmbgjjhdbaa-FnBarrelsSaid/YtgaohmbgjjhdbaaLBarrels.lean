/- FnBarrels is proved: a turned barrel plays the same later, a whole turn plays every pin once, and its closest pins are as close; the answers are the reference's. No condition. -/
import Derived.Test.YtgaohmbgjjhdbaaDrY
import Derived.Test.YtgaohmbgjjhdbaaChLw
import Derived.Test.YtgaohmbgjjhdbaaF6p
import Derived.Test.YtgaohmbgjjhdbaaDi
import Derived.Test.YtgaohmbgjjhdbaaRow3
import Derived.Test.YtgaohmbgjjhdbaaRowF
import Derived.Deep.RegionHeld3
import Derived.Deep.DeepCutAuto
namespace Go.Proofs.Ytgaohmbgjjhdbaa
open Go.ChangeShapes Go.WideShapes Go.ChangeAt Go.RowKit
attribute [local go_sem ↓] Go.wp_at_zero Go.wp_at_succ

theorem turn_cases (st bl : Int) (ps : List (Int × Int)) (b : Int) :
    (∃ c : Int, c ≠ 0 ∧ (∀ v w, SlP w v ps → Calls Try.prog 17 #[.agg #[.int .i64 st, .int .i64 bl, v], .int .i64 b] w fun e w' => ∃ v', e = .returned (.tuple #[.agg #[.int .i64 0, .int .i64 0, v'], .int .i64 c]) ∧ w'.ownsRow w.heap.size 62 2 v' ([] : List (Int × Int)).length (P64 ([] : List (Int × Int))) ∧ Below w.heap.size w w') ∧
      (∀ v w, SlP w v ps → Calls Try.prog 15 #[.agg #[.int .i64 st, .int .i64 bl, v], .int .i64 b] w fun e w' => ∃ v', e = .returned (.tuple #[.agg #[.int .i64 0, .int .i64 0, v'], .int .i64 c]) ∧ w'.ownsRow w.heap.size 62 2 v' ([] : List (Int × Int)).length (P64 ([] : List (Int × Int))) ∧ Below w.heap.size w w')) ∨
    (brB st bl ps = true ∧ inB b 0 (st - 1) = true) := by
  cases h1 : brB st bl ps with
  | false => exact Or.inl ⟨1, by decide, fun v w hv => TurnBarrel_i1 v ps st bl b w hv h1, fun v w hv => TurnBarrel_s1 v ps st bl b w hv h1⟩
  | true =>
    cases h2 : inB b 0 (st - 1) with
    | false => exact Or.inl ⟨2, by decide, fun v w hv => TurnBarrel_i2 v ps st bl b w hv h1 h2, fun v w hv => TurnBarrel_s2 v ps st bl b w hv h1 h2⟩
    | true => exact Or.inr ⟨rfl, rfl⟩
theorem same_self (va vb : Value) (ps : List (Int × Int)) (st bl : Int) (w : World) (ha : SlP w va ps) (hb : SlP w vb ps) :
    Calls Try.prog 29 #[.agg #[.int .i64 st, .int .i64 bl, va], .agg #[.int .i64 st, .int .i64 bl, vb]] w fun e w' => e = .returned (.bool true) ∧ Below w.heap.size w w' := by
  have h := SameBarrel_s va vb ps ps st bl st bl w ha hb
  have e : sameB st bl ps st bl ps = true := by simp [sameB, eqP_self]
  rwa [e] at h
theorem close_cases (v : Value) (ps : List (Int × Int)) (st bl : Int) (w : World) (hv : SlP w v ps) (hs : brB st bl ps = true) (d rc : Int) (hd : d = if ps.length = 0 then 0 else cout st ps ps.length) (hc : rc = if ps.length = 0 then 3 else 0) :
    (Calls Try.prog 35 #[.agg #[.int .i64 st, .int .i64 bl, v]] w fun e w' => e = .returned (.tuple #[.int .i64 d, .int .i64 rc]) ∧ Below w.heap.size w w') ∧
    (Calls Try.prog 36 #[.agg #[.int .i64 st, .int .i64 bl, v]] w fun e w' => e = .returned (.tuple #[.int .i64 d, .int .i64 rc]) ∧ Below w.heap.size w w') := by
  by_cases h0 : ps.length = 0
  · have e0 : ps = [] := List.eq_nil_of_length_eq_zero h0
    rw [if_pos h0] at hd hc
    subst e0 hd hc
    exact ⟨ClosestPins_i2 v st bl w hv hs, ClosestPins_s2 v st bl w hv hs⟩
  · rw [if_neg h0] at hd hc
    subst hd hc
    exact ⟨ClosestPins_i0 v ps st bl w hv hs h0, ClosestPins_s0 v ps st bl w hv hs h0⟩

set_option maxRecDepth 100000 in
set_option maxHeartbeats 16000000 in
theorem barrels_walk (vb : Value) (bs : List Int) (W : World) (hv : SlB W vb bs) :
    Calls Try.prog 6 #[vb] W fun e W' => e = .returned (.bool true) ∧ Below W.heap.size W W' := by
  have HV := Lib.hid hv
  clear hv
  cases hbig : decide (4096 < bs.length) with
  | true =>
    go_enter Try.func6, Try.ntmps6
    go_wp2_with fail
    refine (f6big_any vb bs _ HV.out _ hbig).mono ?_
    rintro e w' ⟨rfl, rfl⟩
    go_wp2
    go_ret
    exact ⟨rfl, Below.refl _ _⟩
  | false =>
    have HBG := Lib.hid hbig
    clear hbig
    go_enter Try.func6, Try.ntmps6
    go_wp2_with fail
    refine (f6big_any vb bs _ HV.out _ HBG.out).mono ?_
    rintro e w' ⟨rfl, rfl⟩
    go_wp2_with fail
    refine (DrawTurnBarrel_any vb bs _ HV.out).mono ?_
    rintro e w1 ⟨v, st, bl, ps, by_, rfl, o_v, hok, hb⟩
    obtain ⟨A_v, C_v, rfl⟩ := own_form o_v
    have old := Lib.hid hb
    have O_v := Lib.hid o_v
    clear o_v hb hok
    rcases turn_cases st bl ps by_ with ⟨c, hc, hci, hcs⟩ | ⟨h1, h2⟩
    · have HCI := Lib.hid hci
      have HCS := Lib.hid hcs
      have hcq : (c != 0) = true := by simpa using hc
      clear hci hcs hc
      go_wp2_with fail
      refine (HCI.out _ _ (SlP.of_own (own_below O_v.out (by first | (with_reducible exact Below.refl _ _) | go_grown)))).mono ?_
      rintro e w2 ⟨v2, rfl, o_v2, hb⟩
      obtain ⟨A_v2, C_v2, rfl⟩ := own_form o_v2
      have b_w2 : Below w1.heap.size w1 w2 := Below.trans (by first | (with_reducible exact Below.refl _ _) | go_grown) (hb.mono (by first | (with_reducible exact Nat.le_refl _) | (with_reducible assumption) | (simp [go_sem]; done) | (simp [go_sem]; omega) | omega))
      replace O_v := Lib.hid (own_below O_v.out b_w2)
      have B_b : Hid (Blk w2 (w1.heap.size) 33 #[.int .i64 st, .int .i64 bl, .slice A_v ps.length C_v]) := Blk.below (by first | exact Blk.new _ _ _ | exact (Blk.new _ _ _).alloc _ | (have h := Blk.new (w1) 33 #[.int .i64 st, .int .i64 bl, .slice A_v ps.length C_v]; simpa using h)) hb
      replace old := Lib.hid (grown_again old.out b_w2)
      clear hb b_w2
      have O_v2 := Lib.hid o_v2
      clear o_v2
      have c_b_0 := B_b.out.cell 0 rfl
      have c_b_1 := B_b.out.cell 1 rfl
      have c_b_2 := B_b.out.cell 2 rfl
      have l_b := B_b.out.lt
      go_wp2_with fail
      refine (HCS.out _ _ (SlP.of_own (own_below O_v.out (by first | (with_reducible exact Below.refl _ _) | go_grown)))).mono ?_
      rintro e w3 ⟨v3, rfl, o_v3, hb⟩
      obtain ⟨A_v3, C_v3, rfl⟩ := own_form o_v3
      have b_w3 : Below w2.heap.size w2 w3 := Below.trans (by first | (with_reducible exact Below.refl _ _) | go_grown) (hb.mono (by first | (with_reducible exact Nat.le_refl _) | (with_reducible assumption) | (simp [go_sem]; done) | (simp [go_sem]; omega) | omega))
      replace B_b := Lib.hid (B_b.out.below b_w3)
      replace O_v := Lib.hid (own_below O_v.out b_w3)
      replace O_v2 := Lib.hid (own_below O_v2.out b_w3)
      have B_x : Hid (Blk w3 (w2.heap.size) 33 #[.int .i64 0, .int .i64 0, .slice A_v2 ([] : List (Int × Int)).length C_v2]) := Blk.below (by first | exact Blk.new _ _ _ | exact (Blk.new _ _ _).alloc _ | (have h := Blk.new (w2) 33 #[.int .i64 0, .int .i64 0, .slice A_v2 ([] : List (Int × Int)).length C_v2]; simpa using h)) hb
      replace old := Lib.hid (grown_again old.out b_w3)
      clear hb b_w3
      have O_v3 := Lib.hid o_v3
      clear o_v3
      clear c_b_0 c_b_1 c_b_2 l_b
      have c_b_0 := B_b.out.cell 0 rfl
      have c_b_1 := B_b.out.cell 1 rfl
      have c_b_2 := B_b.out.cell 2 rfl
      have l_b := B_b.out.lt
      have c_x_0 := B_x.out.cell 0 rfl
      have c_x_1 := B_x.out.cell 1 rfl
      have c_x_2 := B_x.out.cell 2 rfl
      have l_x := B_x.out.lt
      go_wp2_with fail
      refine (DrawPlayBarrel_any vb bs _ (HV.out.below (grown_again old.out (by first | (with_reducible exact Below.refl _ _) | go_grown)))).mono ?_
      rintro e w4 ⟨v4, st4, bl4, ps4, fr, n, rfl, o_v4, hok4, hb⟩
      obtain ⟨A_v4, C_v4, rfl⟩ := own_form o_v4
      have b_w4 : Below w3.heap.size w3 w4 := Below.trans (by first | (with_reducible exact Below.refl _ _) | go_grown) (hb.mono (by first | (with_reducible exact Nat.le_refl _) | (with_reducible assumption) | (simp [go_sem]; done) | (simp [go_sem]; omega) | omega))
      replace B_b := Lib.hid (B_b.out.below b_w4)
      replace B_x := Lib.hid (B_x.out.below b_w4)
      replace O_v := Lib.hid (own_below O_v.out b_w4)
      replace O_v2 := Lib.hid (own_below O_v2.out b_w4)
      replace O_v3 := Lib.hid (own_below O_v3.out b_w4)
      have B_m : Hid (Blk w4 (w3.heap.size) 33 #[.int .i64 0, .int .i64 0, .slice A_v3 ([] : List (Int × Int)).length C_v3]) := Blk.below (by first | exact Blk.new _ _ _ | exact (Blk.new _ _ _).alloc _ | (have h := Blk.new (w3) 33 #[.int .i64 0, .int .i64 0, .slice A_v3 ([] : List (Int × Int)).length C_v3]; simpa using h)) hb
      replace old := Lib.hid (grown_again old.out b_w4)
      clear hb b_w4
      have O_v4 := Lib.hid o_v4
      clear o_v4 hok4
      obtain ⟨pl, pc, hpl, hpi, hps⟩ := PlayBarrel_both st4 bl4 ps4 fr n
      have HPI := Lib.hid hpi
      have HPS := Lib.hid hps
      clear hpi hps hpl
      clear c_b_0 c_b_1 c_b_2 l_b c_x_0 c_x_1 c_x_2 l_x
      have c_b_0 := B_b.out.cell 0 rfl
      have c_b_1 := B_b.out.cell 1 rfl
      have c_b_2 := B_b.out.cell 2 rfl
      have l_b := B_b.out.lt
      have c_x_0 := B_x.out.cell 0 rfl
      have c_x_1 := B_x.out.cell 1 rfl
      have c_x_2 := B_x.out.cell 2 rfl
      have l_x := B_x.out.lt
      have c_m_0 := B_m.out.cell 0 rfl
      have c_m_1 := B_m.out.cell 1 rfl
      have c_m_2 := B_m.out.cell 2 rfl
      have l_m := B_m.out.lt
      go_wp2_with fail
      refine (HPI.out _ _ (SlP.of_own (own_below O_v4.out (by first | (with_reducible exact Below.refl _ _) | go_grown)))).mono ?_
      rintro e w5 ⟨v5, rfl, o_v5, hb⟩
      obtain ⟨A_v5, C_v5, rfl⟩ := own_form o_v5
      have b_w5 : Below w4.heap.size w4 w5 := Below.trans (by first | (with_reducible exact Below.refl _ _) | go_grown) (hb.mono (by first | (with_reducible exact Nat.le_refl _) | (with_reducible assumption) | (simp [go_sem]; done) | (simp [go_sem]; omega) | omega))
      replace B_b := Lib.hid (B_b.out.below b_w5)
      replace B_x := Lib.hid (B_x.out.below b_w5)
      replace B_m := Lib.hid (B_m.out.below b_w5)
      replace O_v := Lib.hid (own_below O_v.out b_w5)
      replace O_v2 := Lib.hid (own_below O_v2.out b_w5)
      replace O_v3 := Lib.hid (own_below O_v3.out b_w5)
      replace O_v4 := Lib.hid (own_below O_v4.out b_w5)
      have B_p : Hid (Blk w5 (w4.heap.size) 33 #[.int .i64 st4, .int .i64 bl4, .slice A_v4 ps4.length C_v4]) := Blk.below (by first | exact Blk.new _ _ _ | exact (Blk.new _ _ _).alloc _ | (have h := Blk.new (w4) 33 #[.int .i64 st4, .int .i64 bl4, .slice A_v4 ps4.length C_v4]; simpa using h)) hb
      replace old := Lib.hid (grown_again old.out b_w5)
      clear hb b_w5
      have O_v5 := Lib.hid o_v5
      clear o_v5
      clear c_b_0 c_b_1 c_b_2 l_b c_x_0 c_x_1 c_x_2 l_x c_m_0 c_m_1 c_m_2 l_m
      have c_b_0 := B_b.out.cell 0 rfl
      have c_b_1 := B_b.out.cell 1 rfl
      have c_b_2 := B_b.out.cell 2 rfl
      have l_b := B_b.out.lt
      have c_x_0 := B_x.out.cell 0 rfl
      have c_x_1 := B_x.out.cell 1 rfl
      have c_x_2 := B_x.out.cell 2 rfl
      have l_x := B_x.out.lt
      have c_m_0 := B_m.out.cell 0 rfl
      have c_m_1 := B_m.out.cell 1 rfl
      have c_m_2 := B_m.out.cell 2 rfl
      have l_m := B_m.out.lt
      have c_p_0 := B_p.out.cell 0 rfl
      have c_p_1 := B_p.out.cell 1 rfl
      have c_p_2 := B_p.out.cell 2 rfl
      have l_p := B_p.out.lt
      go_wp2_with fail
      refine (HPS.out _ _ (SlP.of_own (own_below O_v4.out (by first | (with_reducible exact Below.refl _ _) | go_grown)))).mono ?_
      rintro e w6 ⟨v6, rfl, o_v6, hb⟩
      obtain ⟨A_v6, C_v6, rfl⟩ := own_form o_v6
      have b_w6 : Below w5.heap.size w5 w6 := Below.trans (by first | (with_reducible exact Below.refl _ _) | go_grown) (hb.mono (by first | (with_reducible exact Nat.le_refl _) | (with_reducible assumption) | (simp [go_sem]; done) | (simp [go_sem]; omega) | omega))
      replace B_b := Lib.hid (B_b.out.below b_w6)
      replace B_x := Lib.hid (B_x.out.below b_w6)
      replace B_m := Lib.hid (B_m.out.below b_w6)
      replace B_p := Lib.hid (B_p.out.below b_w6)
      replace O_v := Lib.hid (own_below O_v.out b_w6)
      replace O_v2 := Lib.hid (own_below O_v2.out b_w6)
      replace O_v3 := Lib.hid (own_below O_v3.out b_w6)
      replace O_v4 := Lib.hid (own_below O_v4.out b_w6)
      replace O_v5 := Lib.hid (own_below O_v5.out b_w6)
      replace old := Lib.hid (grown_again old.out b_w6)
      clear hb b_w6
      have O_v6 := Lib.hid o_v6
      clear o_v6
      clear c_b_0 c_b_1 c_b_2 l_b c_x_0 c_x_1 c_x_2 l_x c_m_0 c_m_1 c_m_2 l_m c_p_0 c_p_1 c_p_2 l_p
      have c_b_0 := B_b.out.cell 0 rfl
      have c_b_1 := B_b.out.cell 1 rfl
      have c_b_2 := B_b.out.cell 2 rfl
      have l_b := B_b.out.lt
      have c_x_0 := B_x.out.cell 0 rfl
      have c_x_1 := B_x.out.cell 1 rfl
      have c_x_2 := B_x.out.cell 2 rfl
      have l_x := B_x.out.lt
      have c_m_0 := B_m.out.cell 0 rfl
      have c_m_1 := B_m.out.cell 1 rfl
      have c_m_2 := B_m.out.cell 2 rfl
      have l_m := B_m.out.lt
      go_wp2_with fail
      have HSr := Lib.hid (fun (w' : World) (hb : Below w6.heap.size w6 w') => (⟨(B_x.out.below hb).cell 0 rfl, (B_x.out.below hb).cell 1 rfl, (B_x.out.below hb).cell 2 rfl, (B_m.out.below hb).cell 0 rfl, (B_m.out.below hb).cell 1 rfl, (B_m.out.below hb).cell 2 rfl, (B_b.out.below hb).cell 0 rfl, (B_b.out.below hb).cell 1 rfl, (B_b.out.below hb).cell 2 rfl⟩ : w'.cell? ⟨w2.heap.size, 0, none⟩ = some (.int .i64 0) ∧ w'.cell? ⟨w2.heap.size, 1, none⟩ = some (.int .i64 0) ∧ w'.cell? ⟨w2.heap.size, 2, none⟩ = some (.slice A_v2 ([] : List (Int × Int)).length C_v2) ∧ w'.cell? ⟨w3.heap.size, 0, none⟩ = some (.int .i64 0) ∧ w'.cell? ⟨w3.heap.size, 1, none⟩ = some (.int .i64 0) ∧ w'.cell? ⟨w3.heap.size, 2, none⟩ = some (.slice A_v3 ([] : List (Int × Int)).length C_v3) ∧ w'.cell? ⟨w1.heap.size, 0, none⟩ = some (.int .i64 st) ∧ w'.cell? ⟨w1.heap.size, 1, none⟩ = some (.int .i64 bl) ∧ w'.cell? ⟨w1.heap.size, 2, none⟩ = some (.slice A_v ps.length C_v)))
      go_region_held3 (fun w' => w'.cell? ⟨w2.heap.size, 0, none⟩ = some (.int .i64 0) ∧ w'.cell? ⟨w2.heap.size, 1, none⟩ = some (.int .i64 0) ∧ w'.cell? ⟨w2.heap.size, 2, none⟩ = some (.slice A_v2 ([] : List (Int × Int)).length C_v2) ∧ w'.cell? ⟨w3.heap.size, 0, none⟩ = some (.int .i64 0) ∧ w'.cell? ⟨w3.heap.size, 1, none⟩ = some (.int .i64 0) ∧ w'.cell? ⟨w3.heap.size, 2, none⟩ = some (.slice A_v3 ([] : List (Int × Int)).length C_v3) ∧ w'.cell? ⟨w1.heap.size, 0, none⟩ = some (.int .i64 st) ∧ w'.cell? ⟨w1.heap.size, 1, none⟩ = some (.int .i64 bl) ∧ w'.cell? ⟨w1.heap.size, 2, none⟩ = some (.slice A_v ps.length C_v)) (first | assumption | exact HSr.out _ (by go_grown) | go_keep)
        (first
          | (go_at_call 29; refine (same_self _ _ ([] : List (Int × Int)) 0 0 _ (SlP.of_own (own_below O_v2.out (by first | (with_reducible exact Below.refl _ _) | go_grown))) (SlP.of_own (own_below O_v3.out (by first | (with_reducible exact Below.refl _ _) | go_grown)))).mono ?_; rintro e w7 ⟨rfl, hb⟩; have b_w7 : Below w6.heap.size w6 w7 := Below.trans (by first | (with_reducible exact Below.refl _ _) | go_grown) (hb.mono (by first | (with_reducible exact Nat.le_refl _) | (with_reducible assumption) | (simp [go_sem]; done) | (simp [go_sem]; omega) | omega)); have y_w7 := b_w7.size; have S_w7 := HSr.out _ b_w7; clear hb)
          | (go_at_call 30; refine (f6pins_b _ _ pl _ (SlP.of_own (own_below O_v5.out (grown_again b_w7 (by first | (with_reducible exact Below.refl _ _) | go_grown)))) (SlP.of_own (own_below O_v6.out (grown_again b_w7 (by first | (with_reducible exact Below.refl _ _) | go_grown))))).mono ?_; rintro e w8 ⟨rfl, hb⟩; have b_w8 : Below w6.heap.size w6 w8 := Below.trans (grown_again b_w7 (by first | (with_reducible exact Below.refl _ _) | go_grown)) (hb.mono (by first | (with_reducible exact Nat.le_refl _) | (with_reducible assumption) | (simp [go_sem]; done) | (simp [go_sem]; omega) | omega)); have y_w8 := b_w8.size; have S_w8 := HSr.out _ b_w8; clear hb)
          | (go_at_call 31; refine (ValidBarrel_i _ ps _ bl _ (SlP.of_own (own_below O_v.out (grown_again b_w8 (by first | (with_reducible exact Below.refl _ _) | go_grown))))).mono ?_; rintro e w9 ⟨rfl, hb⟩; have b_w9 : Below w6.heap.size w6 w9 := Below.trans (grown_again b_w8 (by first | (with_reducible exact Below.refl _ _) | go_grown)) (hb.mono (by first | (with_reducible exact Nat.le_refl _) | (with_reducible assumption) | (simp [go_sem]; done) | (simp [go_sem]; omega) | omega)); have y_w9 := b_w9.size; have S_w9 := HSr.out _ b_w9; clear hb)
          | (go_at_call 32; refine (ValidBarrel_s _ ps _ bl _ (SlP.of_own (own_below O_v.out (grown_again b_w9 (by first | (with_reducible exact Below.refl _ _) | go_grown))))).mono ?_; rintro e w10 ⟨rfl, hb⟩; have b_w10 : Below w6.heap.size w6 w10 := Below.trans (grown_again b_w9 (by first | (with_reducible exact Below.refl _ _) | go_grown)) (hb.mono (by first | (with_reducible exact Nat.le_refl _) | (with_reducible assumption) | (simp [go_sem]; done) | (simp [go_sem]; omega) | omega)); have y_w10 := b_w10.size; have S_w10 := HSr.out _ b_w10; clear hb))
      all_goals
        replace B_b := Lib.hid (B_b.out.below b_w10)
        replace B_x := Lib.hid (B_x.out.below b_w10)
        replace B_m := Lib.hid (B_m.out.below b_w10)
        replace B_p := Lib.hid (B_p.out.below b_w10)
        replace O_v := Lib.hid (own_below O_v.out b_w10)
        replace O_v2 := Lib.hid (own_below O_v2.out b_w10)
        replace O_v3 := Lib.hid (own_below O_v3.out b_w10)
        replace O_v4 := Lib.hid (own_below O_v4.out b_w10)
        replace O_v5 := Lib.hid (own_below O_v5.out b_w10)
        replace O_v6 := Lib.hid (own_below O_v6.out b_w10)
        replace old := Lib.hid (grown_again old.out b_w10)
        clear HSr b_w7 S_w7 b_w8 S_w8 b_w9 S_w9 b_w10 S_w10
        clear c_b_0 c_b_1 c_b_2 l_b c_x_0 c_x_1 c_x_2 l_x c_m_0 c_m_1 c_m_2 l_m
        go_wp2
        go_ret
        exact ⟨rfl, old.out⟩
    · have H1 := Lib.hid h1
      have H2 := Lib.hid h2
      obtain ⟨⟨s1, s2⟩, _, hl, _⟩ := brB_iff.1 h1
      obtain ⟨f1, f2⟩ := inB_iff.1 h2
      obtain ⟨S, rfl⟩ := Int.eq_ofNat_of_zero_le (show 0 ≤ st by omega)
      obtain ⟨ts, hts⟩ : ∃ ts, ts = trnS (S : Int) by_ ps := ⟨_, rfl⟩
      have HTS := Lib.hid hts
      have HTL : Hid (ts.length = ps.length) := by show _ = _; rw [hts, trnS_length]
      have HCT : Hid (cout (S : Int) ts ts.length = cout (S : Int) ps ps.length) := by show _ = _; rw [hts]; exact cout_turn h1
      have HTV : Hid (brB (S : Int) bl ts = true) := by show _ = _; rw [hts]; exact trnS_valid h1
      have K1 : Hid (∀ v w, SlP w v ps → Calls Try.prog 17 #[.agg #[.int .i64 (S : Int), .int .i64 bl, v], .int .i64 by_] w fun e w' => ∃ v', e = .returned (.tuple #[.agg #[.int .i64 (S : Int), .int .i64 bl, v'], .int .i64 0]) ∧ w'.ownsRow w.heap.size 62 2 v' ts.length (P64 ts) ∧ Below w.heap.size w w') := fun v w hv => by rw [hts]; exact TurnBarrel_i0 v ps S bl by_ w hv h1 h2
      have K2 : Hid (∀ v w, SlP w v ps → Calls Try.prog 15 #[.agg #[.int .i64 (S : Int), .int .i64 bl, v], .int .i64 by_] w fun e w' => ∃ v', e = .returned (.tuple #[.agg #[.int .i64 (S : Int), .int .i64 bl, v'], .int .i64 0]) ∧ w'.ownsRow w.heap.size 62 2 v' ts.length (P64 ts) ∧ Below w.heap.size w w') := fun v w hv => by rw [hts]; exact TurnBarrel_s0 v ps S bl by_ w hv h1 h2
      clear h1 h2 hts
      go_wp2_with fail
      refine (K1.out _ _ (SlP.of_own (own_below O_v.out (by first | (with_reducible exact Below.refl _ _) | go_grown)))).mono ?_
      rintro e w2 ⟨v2, rfl, o_v2, hb⟩
      obtain ⟨A_v2, C_v2, rfl⟩ := own_form o_v2
      have b_w2 : Below w1.heap.size w1 w2 := Below.trans (by first | (with_reducible exact Below.refl _ _) | go_grown) (hb.mono (by first | (with_reducible exact Nat.le_refl _) | (with_reducible assumption) | (simp [go_sem]; done) | (simp [go_sem]; omega) | omega))
      replace O_v := Lib.hid (own_below O_v.out b_w2)
      have B_b : Hid (Blk w2 (w1.heap.size) 33 #[.int .i64 (S : Int), .int .i64 bl, .slice A_v ps.length C_v]) := Blk.below (by first | exact Blk.new _ _ _ | exact (Blk.new _ _ _).alloc _ | (have h := Blk.new (w1) 33 #[.int .i64 (S : Int), .int .i64 bl, .slice A_v ps.length C_v]; simpa using h)) hb
      replace old := Lib.hid (grown_again old.out b_w2)
      clear hb b_w2
      have O_v2 := Lib.hid o_v2
      clear o_v2
      have c_b_0 := B_b.out.cell 0 rfl
      have c_b_1 := B_b.out.cell 1 rfl
      have c_b_2 := B_b.out.cell 2 rfl
      have l_b := B_b.out.lt
      go_wp2_with fail
      refine (K2.out _ _ (SlP.of_own (own_below O_v.out (by first | (with_reducible exact Below.refl _ _) | go_grown)))).mono ?_
      rintro e w3 ⟨v3, rfl, o_v3, hb⟩
      obtain ⟨A_v3, C_v3, rfl⟩ := own_form o_v3
      have b_w3 : Below w2.heap.size w2 w3 := Below.trans (by first | (with_reducible exact Below.refl _ _) | go_grown) (hb.mono (by first | (with_reducible exact Nat.le_refl _) | (with_reducible assumption) | (simp [go_sem]; done) | (simp [go_sem]; omega) | omega))
      replace B_b := Lib.hid (B_b.out.below b_w3)
      replace O_v := Lib.hid (own_below O_v.out b_w3)
      replace O_v2 := Lib.hid (own_below O_v2.out b_w3)
      have B_x : Hid (Blk w3 (w2.heap.size) 33 #[.int .i64 (S : Int), .int .i64 bl, .slice A_v2 (ts).length C_v2]) := Blk.below (by first | exact Blk.new _ _ _ | exact (Blk.new _ _ _).alloc _ | (have h := Blk.new (w2) 33 #[.int .i64 (S : Int), .int .i64 bl, .slice A_v2 (ts).length C_v2]; simpa using h)) hb
      replace old := Lib.hid (grown_again old.out b_w3)
      clear hb b_w3
      have O_v3 := Lib.hid o_v3
      clear o_v3
      clear c_b_0 c_b_1 c_b_2 l_b
      have c_b_0 := B_b.out.cell 0 rfl
      have c_b_1 := B_b.out.cell 1 rfl
      have c_b_2 := B_b.out.cell 2 rfl
      have l_b := B_b.out.lt
      have c_x_0 := B_x.out.cell 0 rfl
      have c_x_1 := B_x.out.cell 1 rfl
      have c_x_2 := B_x.out.cell 2 rfl
      have l_x := B_x.out.lt
      go_wp2_with fail
      refine (DrawPlayBarrel_any vb bs _ (HV.out.below (grown_again old.out (by first | (with_reducible exact Below.refl _ _) | go_grown)))).mono ?_
      rintro e w4 ⟨v4, st4, bl4, ps4, fr, n, rfl, o_v4, hok4, hb⟩
      obtain ⟨A_v4, C_v4, rfl⟩ := own_form o_v4
      have b_w4 : Below w3.heap.size w3 w4 := Below.trans (by first | (with_reducible exact Below.refl _ _) | go_grown) (hb.mono (by first | (with_reducible exact Nat.le_refl _) | (with_reducible assumption) | (simp [go_sem]; done) | (simp [go_sem]; omega) | omega))
      replace B_b := Lib.hid (B_b.out.below b_w4)
      replace B_x := Lib.hid (B_x.out.below b_w4)
      replace O_v := Lib.hid (own_below O_v.out b_w4)
      replace O_v2 := Lib.hid (own_below O_v2.out b_w4)
      replace O_v3 := Lib.hid (own_below O_v3.out b_w4)
      have B_m : Hid (Blk w4 (w3.heap.size) 33 #[.int .i64 (S : Int), .int .i64 bl, .slice A_v3 (ts).length C_v3]) := Blk.below (by first | exact Blk.new _ _ _ | exact (Blk.new _ _ _).alloc _ | (have h := Blk.new (w3) 33 #[.int .i64 (S : Int), .int .i64 bl, .slice A_v3 (ts).length C_v3]; simpa using h)) hb
      replace old := Lib.hid (grown_again old.out b_w4)
      clear hb b_w4
      have O_v4 := Lib.hid o_v4
      clear o_v4 hok4
      obtain ⟨pl, pc, hpl, hpi, hps⟩ := PlayBarrel_both st4 bl4 ps4 fr n
      have HPI := Lib.hid hpi
      have HPS := Lib.hid hps
      clear hpi hps hpl
      clear c_b_0 c_b_1 c_b_2 l_b c_x_0 c_x_1 c_x_2 l_x
      have c_b_0 := B_b.out.cell 0 rfl
      have c_b_1 := B_b.out.cell 1 rfl
      have c_b_2 := B_b.out.cell 2 rfl
      have l_b := B_b.out.lt
      have c_x_0 := B_x.out.cell 0 rfl
      have c_x_1 := B_x.out.cell 1 rfl
      have c_x_2 := B_x.out.cell 2 rfl
      have l_x := B_x.out.lt
      have c_m_0 := B_m.out.cell 0 rfl
      have c_m_1 := B_m.out.cell 1 rfl
      have c_m_2 := B_m.out.cell 2 rfl
      have l_m := B_m.out.lt
      go_wp2_with fail
      refine (HPI.out _ _ (SlP.of_own (own_below O_v4.out (by first | (with_reducible exact Below.refl _ _) | go_grown)))).mono ?_
      rintro e w5 ⟨v5, rfl, o_v5, hb⟩
      obtain ⟨A_v5, C_v5, rfl⟩ := own_form o_v5
      have b_w5 : Below w4.heap.size w4 w5 := Below.trans (by first | (with_reducible exact Below.refl _ _) | go_grown) (hb.mono (by first | (with_reducible exact Nat.le_refl _) | (with_reducible assumption) | (simp [go_sem]; done) | (simp [go_sem]; omega) | omega))
      replace B_b := Lib.hid (B_b.out.below b_w5)
      replace B_x := Lib.hid (B_x.out.below b_w5)
      replace B_m := Lib.hid (B_m.out.below b_w5)
      replace O_v := Lib.hid (own_below O_v.out b_w5)
      replace O_v2 := Lib.hid (own_below O_v2.out b_w5)
      replace O_v3 := Lib.hid (own_below O_v3.out b_w5)
      replace O_v4 := Lib.hid (own_below O_v4.out b_w5)
      have B_p : Hid (Blk w5 (w4.heap.size) 33 #[.int .i64 st4, .int .i64 bl4, .slice A_v4 ps4.length C_v4]) := Blk.below (by first | exact Blk.new _ _ _ | exact (Blk.new _ _ _).alloc _ | (have h := Blk.new (w4) 33 #[.int .i64 st4, .int .i64 bl4, .slice A_v4 ps4.length C_v4]; simpa using h)) hb
      replace old := Lib.hid (grown_again old.out b_w5)
      clear hb b_w5
      have O_v5 := Lib.hid o_v5
      clear o_v5
      clear c_b_0 c_b_1 c_b_2 l_b c_x_0 c_x_1 c_x_2 l_x c_m_0 c_m_1 c_m_2 l_m
      have c_b_0 := B_b.out.cell 0 rfl
      have c_b_1 := B_b.out.cell 1 rfl
      have c_b_2 := B_b.out.cell 2 rfl
      have l_b := B_b.out.lt
      have c_x_0 := B_x.out.cell 0 rfl
      have c_x_1 := B_x.out.cell 1 rfl
      have c_x_2 := B_x.out.cell 2 rfl
      have l_x := B_x.out.lt
      have c_m_0 := B_m.out.cell 0 rfl
      have c_m_1 := B_m.out.cell 1 rfl
      have c_m_2 := B_m.out.cell 2 rfl
      have l_m := B_m.out.lt
      have c_p_0 := B_p.out.cell 0 rfl
      have c_p_1 := B_p.out.cell 1 rfl
      have c_p_2 := B_p.out.cell 2 rfl
      have l_p := B_p.out.lt
      go_wp2_with fail
      refine (HPS.out _ _ (SlP.of_own (own_below O_v4.out (by first | (with_reducible exact Below.refl _ _) | go_grown)))).mono ?_
      rintro e w6 ⟨v6, rfl, o_v6, hb⟩
      obtain ⟨A_v6, C_v6, rfl⟩ := own_form o_v6
      have b_w6 : Below w5.heap.size w5 w6 := Below.trans (by first | (with_reducible exact Below.refl _ _) | go_grown) (hb.mono (by first | (with_reducible exact Nat.le_refl _) | (with_reducible assumption) | (simp [go_sem]; done) | (simp [go_sem]; omega) | omega))
      replace B_b := Lib.hid (B_b.out.below b_w6)
      replace B_x := Lib.hid (B_x.out.below b_w6)
      replace B_m := Lib.hid (B_m.out.below b_w6)
      replace B_p := Lib.hid (B_p.out.below b_w6)
      replace O_v := Lib.hid (own_below O_v.out b_w6)
      replace O_v2 := Lib.hid (own_below O_v2.out b_w6)
      replace O_v3 := Lib.hid (own_below O_v3.out b_w6)
      replace O_v4 := Lib.hid (own_below O_v4.out b_w6)
      replace O_v5 := Lib.hid (own_below O_v5.out b_w6)
      replace old := Lib.hid (grown_again old.out b_w6)
      clear hb b_w6
      have O_v6 := Lib.hid o_v6
      clear o_v6
      clear c_b_0 c_b_1 c_b_2 l_b c_x_0 c_x_1 c_x_2 l_x c_m_0 c_m_1 c_m_2 l_m c_p_0 c_p_1 c_p_2 l_p
      have c_b_0 := B_b.out.cell 0 rfl
      have c_b_1 := B_b.out.cell 1 rfl
      have c_b_2 := B_b.out.cell 2 rfl
      have l_b := B_b.out.lt
      have c_x_0 := B_x.out.cell 0 rfl
      have c_x_1 := B_x.out.cell 1 rfl
      have c_x_2 := B_x.out.cell 2 rfl
      have l_x := B_x.out.lt
      have c_m_0 := B_m.out.cell 0 rfl
      have c_m_1 := B_m.out.cell 1 rfl
      have c_m_2 := B_m.out.cell 2 rfl
      have l_m := B_m.out.lt
      go_wp2_with fail
      have HSr := Lib.hid (fun (w' : World) (hb : Below w6.heap.size w6 w') => (⟨(B_x.out.below hb).cell 0 rfl, (B_x.out.below hb).cell 1 rfl, (B_x.out.below hb).cell 2 rfl, (B_m.out.below hb).cell 0 rfl, (B_m.out.below hb).cell 1 rfl, (B_m.out.below hb).cell 2 rfl, (B_b.out.below hb).cell 0 rfl, (B_b.out.below hb).cell 1 rfl, (B_b.out.below hb).cell 2 rfl⟩ : w'.cell? ⟨w2.heap.size, 0, none⟩ = some (.int .i64 (S : Int)) ∧ w'.cell? ⟨w2.heap.size, 1, none⟩ = some (.int .i64 bl) ∧ w'.cell? ⟨w2.heap.size, 2, none⟩ = some (.slice A_v2 (ts).length C_v2) ∧ w'.cell? ⟨w3.heap.size, 0, none⟩ = some (.int .i64 (S : Int)) ∧ w'.cell? ⟨w3.heap.size, 1, none⟩ = some (.int .i64 bl) ∧ w'.cell? ⟨w3.heap.size, 2, none⟩ = some (.slice A_v3 (ts).length C_v3) ∧ w'.cell? ⟨w1.heap.size, 0, none⟩ = some (.int .i64 (S : Int)) ∧ w'.cell? ⟨w1.heap.size, 1, none⟩ = some (.int .i64 bl) ∧ w'.cell? ⟨w1.heap.size, 2, none⟩ = some (.slice A_v ps.length C_v)))
      go_region_held3 (fun w' => w'.cell? ⟨w2.heap.size, 0, none⟩ = some (.int .i64 (S : Int)) ∧ w'.cell? ⟨w2.heap.size, 1, none⟩ = some (.int .i64 bl) ∧ w'.cell? ⟨w2.heap.size, 2, none⟩ = some (.slice A_v2 (ts).length C_v2) ∧ w'.cell? ⟨w3.heap.size, 0, none⟩ = some (.int .i64 (S : Int)) ∧ w'.cell? ⟨w3.heap.size, 1, none⟩ = some (.int .i64 bl) ∧ w'.cell? ⟨w3.heap.size, 2, none⟩ = some (.slice A_v3 (ts).length C_v3) ∧ w'.cell? ⟨w1.heap.size, 0, none⟩ = some (.int .i64 (S : Int)) ∧ w'.cell? ⟨w1.heap.size, 1, none⟩ = some (.int .i64 bl) ∧ w'.cell? ⟨w1.heap.size, 2, none⟩ = some (.slice A_v ps.length C_v)) (first | assumption | exact HSr.out _ (by go_grown) | go_keep)
        (first
          | (go_at_call 29; refine (same_self _ _ (ts) (S : Int) bl _ (SlP.of_own (own_below O_v2.out (by first | (with_reducible exact Below.refl _ _) | go_grown))) (SlP.of_own (own_below O_v3.out (by first | (with_reducible exact Below.refl _ _) | go_grown)))).mono ?_; rintro e w7 ⟨rfl, hb⟩; have b_w7 : Below w6.heap.size w6 w7 := Below.trans (by first | (with_reducible exact Below.refl _ _) | go_grown) (hb.mono (by first | (with_reducible exact Nat.le_refl _) | (with_reducible assumption) | (simp [go_sem]; done) | (simp [go_sem]; omega) | omega)); have y_w7 := b_w7.size; have S_w7 := HSr.out _ b_w7; clear hb)
          | (go_at_call 30; refine (f6pins_b _ _ pl _ (SlP.of_own (own_below O_v5.out (grown_again b_w7 (by first | (with_reducible exact Below.refl _ _) | go_grown)))) (SlP.of_own (own_below O_v6.out (grown_again b_w7 (by first | (with_reducible exact Below.refl _ _) | go_grown))))).mono ?_; rintro e w8 ⟨rfl, hb⟩; have b_w8 : Below w6.heap.size w6 w8 := Below.trans (grown_again b_w7 (by first | (with_reducible exact Below.refl _ _) | go_grown)) (hb.mono (by first | (with_reducible exact Nat.le_refl _) | (with_reducible assumption) | (simp [go_sem]; done) | (simp [go_sem]; omega) | omega)); have y_w8 := b_w8.size; have S_w8 := HSr.out _ b_w8; clear hb)
          | (go_at_call 31; refine (ValidBarrel_i _ ps _ bl _ (SlP.of_own (own_below O_v.out (grown_again b_w8 (by first | (with_reducible exact Below.refl _ _) | go_grown))))).mono ?_; rintro e w9 ⟨rfl, hb⟩; have b_w9 : Below w6.heap.size w6 w9 := Below.trans (grown_again b_w8 (by first | (with_reducible exact Below.refl _ _) | go_grown)) (hb.mono (by first | (with_reducible exact Nat.le_refl _) | (with_reducible assumption) | (simp [go_sem]; done) | (simp [go_sem]; omega) | omega)); have y_w9 := b_w9.size; have S_w9 := HSr.out _ b_w9; clear hb)
          | (go_at_call 32; refine (ValidBarrel_s _ ps _ bl _ (SlP.of_own (own_below O_v.out (grown_again b_w9 (by first | (with_reducible exact Below.refl _ _) | go_grown))))).mono ?_; rintro e w10 ⟨rfl, hb⟩; have b_w10 : Below w6.heap.size w6 w10 := Below.trans (grown_again b_w9 (by first | (with_reducible exact Below.refl _ _) | go_grown)) (hb.mono (by first | (with_reducible exact Nat.le_refl _) | (with_reducible assumption) | (simp [go_sem]; done) | (simp [go_sem]; omega) | omega)); have y_w10 := b_w10.size; have S_w10 := HSr.out _ b_w10; clear hb))
      all_goals
        replace B_b := Lib.hid (B_b.out.below b_w10)
        replace B_x := Lib.hid (B_x.out.below b_w10)
        replace B_m := Lib.hid (B_m.out.below b_w10)
        replace B_p := Lib.hid (B_p.out.below b_w10)
        replace O_v := Lib.hid (own_below O_v.out b_w10)
        replace O_v2 := Lib.hid (own_below O_v2.out b_w10)
        replace O_v3 := Lib.hid (own_below O_v3.out b_w10)
        replace O_v4 := Lib.hid (own_below O_v4.out b_w10)
        replace O_v5 := Lib.hid (own_below O_v5.out b_w10)
        replace O_v6 := Lib.hid (own_below O_v6.out b_w10)
        replace old := Lib.hid (grown_again old.out b_w10)
        clear HSr b_w7 S_w7 b_w8 S_w8 b_w9 S_w9 b_w10 S_w10
        clear c_b_0 c_b_1 c_b_2 l_b c_x_0 c_x_1 c_x_2 l_x c_m_0 c_m_1 c_m_2 l_m
        have c_b_0 := B_b.out.cell 0 rfl
        have c_b_1 := B_b.out.cell 1 rfl
        have c_b_2 := B_b.out.cell 2 rfl
        have l_b := B_b.out.lt
        go_wp2_with fail
        have HSr := Lib.hid (fun (w' : World) (hb : Below w10.heap.size w10 w') => (⟨(B_b.out.below hb).cell 0 rfl, (B_b.out.below hb).cell 1 rfl, (B_b.out.below hb).cell 2 rfl⟩ : w'.cell? ⟨w1.heap.size, 0, none⟩ = some (.int .i64 (S : Int)) ∧ w'.cell? ⟨w1.heap.size, 1, none⟩ = some (.int .i64 bl) ∧ w'.cell? ⟨w1.heap.size, 2, none⟩ = some (.slice A_v ps.length C_v)))
        go_region_held3 (fun w' => w'.cell? ⟨w1.heap.size, 0, none⟩ = some (.int .i64 (S : Int)) ∧ w'.cell? ⟨w1.heap.size, 1, none⟩ = some (.int .i64 bl) ∧ w'.cell? ⟨w1.heap.size, 2, none⟩ = some (.slice A_v ps.length C_v)) (first | assumption | exact HSr.out _ (by go_grown) | go_keep)
          (first
            | (go_at_call 33; refine (f6roll_any vb bs W _ HV.out (grown_again old.out (by first | (with_reducible exact Below.refl _ _) | go_grown)) _ rfl _ (by decide) (by decide)).mono ?_; rintro e w11 ⟨rfl, hd, hb⟩; have b_w11 : Below w10.heap.size w10 w11 := Below.trans (by first | (with_reducible exact Below.refl _ _) | go_grown) (hb.mono (by first | (with_reducible exact Nat.le_refl _) | (with_reducible assumption) | (simp [go_sem]; done) | (simp [go_sem]; omega) | omega)); have y_w11 := b_w11.size; have S_w11 := HSr.out _ b_w11; have HD := Lib.hid hd; clear hd; clear hb)
            | (go_at_call 34; refine (below_any W _ _ vb bs (HD.out.below (by first | (with_reducible exact Below.refl _ _) | go_grown)) _ (by omega) (by omega)).mono ?_; rintro e w12 ⟨at_, ⟨at0, at1⟩, rfl, _, hgd⟩; have b_w12 : Below w10.heap.size w10 w12 := (grown_again b_w11 (by first | (with_reducible exact Below.refl _ _) | go_grown)).trans (below_of_grown hgd (by first | exact y_w11 | (simp; omega) | (have := y_w11; go_num; omega) | omega) (fun j hj => by cases hj; first | exact Nat.le_refl _ | (simp; done) | (simp; omega) | omega)); have y_w12 := b_w12.size; have S_w12 := HSr.out _ b_w12; clear hgd))
        all_goals
          replace B_b := Lib.hid (B_b.out.below b_w12)
          replace B_x := Lib.hid (B_x.out.below b_w12)
          replace B_m := Lib.hid (B_m.out.below b_w12)
          replace B_p := Lib.hid (B_p.out.below b_w12)
          replace O_v := Lib.hid (own_below O_v.out b_w12)
          replace O_v2 := Lib.hid (own_below O_v2.out b_w12)
          replace O_v3 := Lib.hid (own_below O_v3.out b_w12)
          replace O_v4 := Lib.hid (own_below O_v4.out b_w12)
          replace O_v5 := Lib.hid (own_below O_v5.out b_w12)
          replace O_v6 := Lib.hid (own_below O_v6.out b_w12)
          replace old := Lib.hid (grown_again old.out b_w12)
          clear HSr b_w11 S_w11 b_w12 S_w12
          clear c_b_0 c_b_1 c_b_2 l_b
          clear HD
          obtain ⟨T, rfl⟩ := Int.eq_ofNat_of_zero_le at0
          obtain ⟨pa, hpa⟩ : ∃ pa, pa = plA ps S (T : Int) S := ⟨_, rfl⟩
          have HPL : Hid (pa.length = ps.length) := by show _ = _; rw [hpa]; exact plA_count H1.out
          have K3 : Hid (∀ v w, SlP w v ps → Calls Try.prog 27 #[.agg #[.int .i64 (S : Int), .int .i64 bl, v], .int .i64 (T : Int), .int .i64 (S : Int)] w fun e w' => ∃ v', e = .returned (.tuple #[v', .int .i64 0]) ∧ w'.ownsRow w.heap.size 62 2 v' pa.length (P64 pa) ∧ Below w.heap.size w w') := fun v w hv => by rw [hpa]; exact PlayBarrel_i0 v ps S S bl T w hv H1.out (inB_t (by omega) (by omega)) (by omega)
          have hm0 := Int.emod_nonneg ((T : Int) + by_) (show (S : Int) ≠ 0 by omega)
          have hm1 := Int.emod_lt_of_pos ((T : Int) + by_) (show (0 : Int) < (S : Int) by omega)
          have e1 : IntKind.i64.wrap ((T : Int) + by_) = (T : Int) + by_ := IntWalk.i64_in _ (by omega)
          have e2 : ((T : Int) + by_).tmod (S : Int) = ((T : Int) + by_) % (S : Int) := Int.tmod_eq_emod_of_nonneg (by omega)
          obtain ⟨T2, hT2⟩ : ∃ T2 : Nat, ((T : Int) + by_) % (S : Int) = (T2 : Int) := ⟨(((T : Int) + by_) % (S : Int)).toNat, by omega⟩
          have e3 : ((T : Int) + by_).tmod (S : Int) = (T2 : Int) := by rw [e2, hT2]
          have e4 : IntKind.i64.wrap (T2 : Int) = (T2 : Int) := IntWalk.i64_in _ (by omega)
          have e6 : ¬ (S : Int) = 0 := by omega
          have e7 : ¬ S = 0 := by omega
          have e5 : ((S : Int) == 0) = false := by
            have : ¬ (S : Int) = 0 := by omega
            simpa using this
          have K4 : Hid (∀ v w, SlP w v ts → Calls Try.prog 27 #[.agg #[.int .i64 (S : Int), .int .i64 bl, v], .int .i64 (T2 : Int), .int .i64 (S : Int)] w fun e w' => ∃ v', e = .returned (.tuple #[v', .int .i64 0]) ∧ w'.ownsRow w.heap.size 62 2 v' pa.length (P64 pa) ∧ Below w.heap.size w w') := fun v w hv => by
            have h := PlayBarrel_i0 v ts S S bl T2 w hv HTV.out (inB_t (by omega) (by omega)) (by omega)
            rw [← hT2, HTS.out, plA_turn H1.out, ← hpa] at h
            rw [← hT2]
            exact h
          obtain ⟨d, hd⟩ : ∃ d : Int, d = if ps.length = 0 then 0 else cout (S : Int) ps ps.length := ⟨_, rfl⟩
          obtain ⟨rc, hrc⟩ : ∃ rc : Int, rc = if ps.length = 0 then 3 else 0 := ⟨_, rfl⟩
          have K5 := Lib.hid (fun v w hv => (close_cases v ps (S : Int) bl w hv H1.out d rc hd hrc).1)
          have K6 := Lib.hid (fun v w hv => (close_cases v ps (S : Int) bl w hv H1.out d rc hd hrc).2)
          have K7 := Lib.hid (fun v w hv => (close_cases v ts (S : Int) bl w hv HTV.out d rc (by rw [HCT.out, HTL.out]; exact hd) (by rw [HTL.out]; exact hrc)).1)
          clear hpa hd hrc hT2 e2 hm0 hm1
          have c_b_0 := B_b.out.cell 0 rfl
          have c_b_1 := B_b.out.cell 1 rfl
          have c_b_2 := B_b.out.cell 2 rfl
          have l_b := B_b.out.lt
          have c_x_0 := B_x.out.cell 0 rfl
          have c_x_1 := B_x.out.cell 1 rfl
          have c_x_2 := B_x.out.cell 2 rfl
          have l_x := B_x.out.lt
          have c_m_0 := B_m.out.cell 0 rfl
          have c_m_1 := B_m.out.cell 1 rfl
          have c_m_2 := B_m.out.cell 2 rfl
          have l_m := B_m.out.lt
          have c_p_0 := B_p.out.cell 0 rfl
          have c_p_1 := B_p.out.cell 1 rfl
          have c_p_2 := B_p.out.cell 2 rfl
          have l_p := B_p.out.lt
          go_wp2_with fail
          refine (K3.out _ _ (SlP.of_own (own_below O_v.out (by first | (with_reducible exact Below.refl _ _) | go_grown)))).mono ?_
          rintro e w13 ⟨v7, rfl, o_v7, hb⟩
          obtain ⟨A_v7, C_v7, rfl⟩ := own_form o_v7
          have b_w13 : Below w12.heap.size w12 w13 := Below.trans (by first | (with_reducible exact Below.refl _ _) | go_grown) (hb.mono (by first | (with_reducible exact Nat.le_refl _) | (with_reducible assumption) | (simp [go_sem]; done) | (simp [go_sem]; omega) | omega))
          replace B_b := Lib.hid (B_b.out.below b_w13)
          replace B_x := Lib.hid (B_x.out.below b_w13)
          replace B_m := Lib.hid (B_m.out.below b_w13)
          replace B_p := Lib.hid (B_p.out.below b_w13)
          replace O_v := Lib.hid (own_below O_v.out b_w13)
          replace O_v2 := Lib.hid (own_below O_v2.out b_w13)
          replace O_v3 := Lib.hid (own_below O_v3.out b_w13)
          replace O_v4 := Lib.hid (own_below O_v4.out b_w13)
          replace O_v5 := Lib.hid (own_below O_v5.out b_w13)
          replace O_v6 := Lib.hid (own_below O_v6.out b_w13)
          replace old := Lib.hid (grown_again old.out b_w13)
          clear hb b_w13
          have O_v7 := Lib.hid o_v7
          clear o_v7
          clear c_b_0 c_b_1 c_b_2 l_b c_x_0 c_x_1 c_x_2 l_x c_m_0 c_m_1 c_m_2 l_m c_p_0 c_p_1 c_p_2 l_p
          have c_b_0 := B_b.out.cell 0 rfl
          have c_b_1 := B_b.out.cell 1 rfl
          have c_b_2 := B_b.out.cell 2 rfl
          have l_b := B_b.out.lt
          have c_x_0 := B_x.out.cell 0 rfl
          have c_x_1 := B_x.out.cell 1 rfl
          have c_x_2 := B_x.out.cell 2 rfl
          have l_x := B_x.out.lt
          go_wp2_with fail
          have HSr := Lib.hid (fun (w' : World) (hb : Below w13.heap.size w13 w') => (⟨(B_x.out.below hb).cell 0 rfl, (B_x.out.below hb).cell 1 rfl, (B_x.out.below hb).cell 2 rfl, (B_b.out.below hb).cell 0 rfl, (B_b.out.below hb).cell 1 rfl, (B_b.out.below hb).cell 2 rfl⟩ : w'.cell? ⟨w2.heap.size, 0, none⟩ = some (.int .i64 (S : Int)) ∧ w'.cell? ⟨w2.heap.size, 1, none⟩ = some (.int .i64 bl) ∧ w'.cell? ⟨w2.heap.size, 2, none⟩ = some (.slice A_v2 (ts).length C_v2) ∧ w'.cell? ⟨w1.heap.size, 0, none⟩ = some (.int .i64 (S : Int)) ∧ w'.cell? ⟨w1.heap.size, 1, none⟩ = some (.int .i64 bl) ∧ w'.cell? ⟨w1.heap.size, 2, none⟩ = some (.slice A_v ps.length C_v)))
          go_region_held3 (fun w' => w'.cell? ⟨w2.heap.size, 0, none⟩ = some (.int .i64 (S : Int)) ∧ w'.cell? ⟨w2.heap.size, 1, none⟩ = some (.int .i64 bl) ∧ w'.cell? ⟨w2.heap.size, 2, none⟩ = some (.slice A_v2 (ts).length C_v2) ∧ w'.cell? ⟨w1.heap.size, 0, none⟩ = some (.int .i64 (S : Int)) ∧ w'.cell? ⟨w1.heap.size, 1, none⟩ = some (.int .i64 bl) ∧ w'.cell? ⟨w1.heap.size, 2, none⟩ = some (.slice A_v ps.length C_v)) (first | assumption | exact HSr.out _ (by go_grown) | go_keep)
            (first
              | (go_at_call 27; refine (K4.out _ _ (SlP.of_own (own_below O_v2.out (by first | (with_reducible exact Below.refl _ _) | go_grown)))).mono ?_; rintro e w14 ⟨v8, rfl, o_v8, hb⟩; have b_w14 : Below w13.heap.size w13 w14 := Below.trans (by first | (with_reducible exact Below.refl _ _) | go_grown) (hb.mono (by first | (with_reducible exact Nat.le_refl _) | (with_reducible assumption) | (simp [go_sem]; done) | (simp [go_sem]; omega) | omega)); have y_w14 := b_w14.size; have S_w14 := HSr.out _ b_w14; obtain ⟨A_v8, C_v8, rfl⟩ := own_form o_v8; have O_v8 := Lib.hid o_v8; clear o_v8; clear hb))
          all_goals
            replace B_b := Lib.hid (B_b.out.below b_w14)
            replace B_x := Lib.hid (B_x.out.below b_w14)
            replace B_m := Lib.hid (B_m.out.below b_w14)
            replace B_p := Lib.hid (B_p.out.below b_w14)
            replace O_v := Lib.hid (own_below O_v.out b_w14)
            replace O_v2 := Lib.hid (own_below O_v2.out b_w14)
            replace O_v3 := Lib.hid (own_below O_v3.out b_w14)
            replace O_v4 := Lib.hid (own_below O_v4.out b_w14)
            replace O_v5 := Lib.hid (own_below O_v5.out b_w14)
            replace O_v6 := Lib.hid (own_below O_v6.out b_w14)
            replace O_v7 := Lib.hid (own_below O_v7.out b_w14)
            replace old := Lib.hid (grown_again old.out b_w14)
            clear HSr b_w14 S_w14
            clear c_b_0 c_b_1 c_b_2 l_b c_x_0 c_x_1 c_x_2 l_x
            have c_b_0 := B_b.out.cell 0 rfl
            have c_b_1 := B_b.out.cell 1 rfl
            have c_b_2 := B_b.out.cell 2 rfl
            have l_b := B_b.out.lt
            have c_x_0 := B_x.out.cell 0 rfl
            have c_x_1 := B_x.out.cell 1 rfl
            have c_x_2 := B_x.out.cell 2 rfl
            have l_x := B_x.out.lt
            have c_m_0 := B_m.out.cell 0 rfl
            have c_m_1 := B_m.out.cell 1 rfl
            have c_m_2 := B_m.out.cell 2 rfl
            have l_m := B_m.out.lt
            have c_p_0 := B_p.out.cell 0 rfl
            have c_p_1 := B_p.out.cell 1 rfl
            have c_p_2 := B_p.out.cell 2 rfl
            have l_p := B_p.out.lt
            go_wp2_with fail
            refine (K5.out _ _ (SlP.of_own (own_below O_v.out (by first | (with_reducible exact Below.refl _ _) | go_grown)))).mono ?_
            rintro e w15 ⟨rfl, hb⟩
            have b_w15 : Below w14.heap.size w14 w15 := Below.trans (by first | (with_reducible exact Below.refl _ _) | go_grown) (hb.mono (by first | (with_reducible exact Nat.le_refl _) | (with_reducible assumption) | (simp [go_sem]; done) | (simp [go_sem]; omega) | omega))
            replace B_b := Lib.hid (B_b.out.below b_w15)
            replace B_x := Lib.hid (B_x.out.below b_w15)
            replace B_m := Lib.hid (B_m.out.below b_w15)
            replace B_p := Lib.hid (B_p.out.below b_w15)
            replace O_v := Lib.hid (own_below O_v.out b_w15)
            replace O_v2 := Lib.hid (own_below O_v2.out b_w15)
            replace O_v3 := Lib.hid (own_below O_v3.out b_w15)
            replace O_v4 := Lib.hid (own_below O_v4.out b_w15)
            replace O_v5 := Lib.hid (own_below O_v5.out b_w15)
            replace O_v6 := Lib.hid (own_below O_v6.out b_w15)
            replace O_v7 := Lib.hid (own_below O_v7.out b_w15)
            replace O_v8 := Lib.hid (own_below O_v8.out b_w15)
            replace old := Lib.hid (grown_again old.out b_w15)
            clear hb b_w15
            clear c_b_0 c_b_1 c_b_2 l_b c_x_0 c_x_1 c_x_2 l_x c_m_0 c_m_1 c_m_2 l_m c_p_0 c_p_1 c_p_2 l_p
            have c_b_0 := B_b.out.cell 0 rfl
            have c_b_1 := B_b.out.cell 1 rfl
            have c_b_2 := B_b.out.cell 2 rfl
            have l_b := B_b.out.lt
            have c_x_0 := B_x.out.cell 0 rfl
            have c_x_1 := B_x.out.cell 1 rfl
            have c_x_2 := B_x.out.cell 2 rfl
            have l_x := B_x.out.lt
            have c_m_0 := B_m.out.cell 0 rfl
            have c_m_1 := B_m.out.cell 1 rfl
            have c_m_2 := B_m.out.cell 2 rfl
            have l_m := B_m.out.lt
            have c_p_0 := B_p.out.cell 0 rfl
            have c_p_1 := B_p.out.cell 1 rfl
            have c_p_2 := B_p.out.cell 2 rfl
            have l_p := B_p.out.lt
            go_wp2_with fail
            refine (K6.out _ _ (SlP.of_own (own_below O_v.out (by first | (with_reducible exact Below.refl _ _) | go_grown)))).mono ?_
            rintro e w16 ⟨rfl, hb⟩
            have b_w16 : Below w15.heap.size w15 w16 := Below.trans (by first | (with_reducible exact Below.refl _ _) | go_grown) (hb.mono (by first | (with_reducible exact Nat.le_refl _) | (with_reducible assumption) | (simp [go_sem]; done) | (simp [go_sem]; omega) | omega))
            replace B_b := Lib.hid (B_b.out.below b_w16)
            replace B_x := Lib.hid (B_x.out.below b_w16)
            replace B_m := Lib.hid (B_m.out.below b_w16)
            replace B_p := Lib.hid (B_p.out.below b_w16)
            replace O_v := Lib.hid (own_below O_v.out b_w16)
            replace O_v2 := Lib.hid (own_below O_v2.out b_w16)
            replace O_v3 := Lib.hid (own_below O_v3.out b_w16)
            replace O_v4 := Lib.hid (own_below O_v4.out b_w16)
            replace O_v5 := Lib.hid (own_below O_v5.out b_w16)
            replace O_v6 := Lib.hid (own_below O_v6.out b_w16)
            replace O_v7 := Lib.hid (own_below O_v7.out b_w16)
            replace O_v8 := Lib.hid (own_below O_v8.out b_w16)
            replace old := Lib.hid (grown_again old.out b_w16)
            clear hb b_w16
            clear c_b_0 c_b_1 c_b_2 l_b c_x_0 c_x_1 c_x_2 l_x c_m_0 c_m_1 c_m_2 l_m c_p_0 c_p_1 c_p_2 l_p
            have c_b_0 := B_b.out.cell 0 rfl
            have c_b_1 := B_b.out.cell 1 rfl
            have c_b_2 := B_b.out.cell 2 rfl
            have l_b := B_b.out.lt
            have c_x_0 := B_x.out.cell 0 rfl
            have c_x_1 := B_x.out.cell 1 rfl
            have c_x_2 := B_x.out.cell 2 rfl
            have l_x := B_x.out.lt
            have c_m_0 := B_m.out.cell 0 rfl
            have c_m_1 := B_m.out.cell 1 rfl
            have c_m_2 := B_m.out.cell 2 rfl
            have l_m := B_m.out.lt
            have c_p_0 := B_p.out.cell 0 rfl
            have c_p_1 := B_p.out.cell 1 rfl
            have c_p_2 := B_p.out.cell 2 rfl
            have l_p := B_p.out.lt
            go_wp2_with fail
            refine (K7.out _ _ (SlP.of_own (own_below O_v2.out (by first | (with_reducible exact Below.refl _ _) | go_grown)))).mono ?_
            rintro e w17 ⟨rfl, hb⟩
            have b_w17 : Below w16.heap.size w16 w17 := Below.trans (by first | (with_reducible exact Below.refl _ _) | go_grown) (hb.mono (by first | (with_reducible exact Nat.le_refl _) | (with_reducible assumption) | (simp [go_sem]; done) | (simp [go_sem]; omega) | omega))
            replace B_b := Lib.hid (B_b.out.below b_w17)
            replace B_x := Lib.hid (B_x.out.below b_w17)
            replace B_m := Lib.hid (B_m.out.below b_w17)
            replace B_p := Lib.hid (B_p.out.below b_w17)
            replace O_v := Lib.hid (own_below O_v.out b_w17)
            replace O_v2 := Lib.hid (own_below O_v2.out b_w17)
            replace O_v3 := Lib.hid (own_below O_v3.out b_w17)
            replace O_v4 := Lib.hid (own_below O_v4.out b_w17)
            replace O_v5 := Lib.hid (own_below O_v5.out b_w17)
            replace O_v6 := Lib.hid (own_below O_v6.out b_w17)
            replace O_v7 := Lib.hid (own_below O_v7.out b_w17)
            replace O_v8 := Lib.hid (own_below O_v8.out b_w17)
            replace old := Lib.hid (grown_again old.out b_w17)
            clear hb b_w17
            clear c_b_0 c_b_1 c_b_2 l_b c_x_0 c_x_1 c_x_2 l_x c_m_0 c_m_1 c_m_2 l_m c_p_0 c_p_1 c_p_2 l_p
            have c_b_0 := B_b.out.cell 0 rfl
            have c_b_1 := B_b.out.cell 1 rfl
            have c_b_2 := B_b.out.cell 2 rfl
            have l_b := B_b.out.lt
            have c_x_0 := B_x.out.cell 0 rfl
            have c_x_1 := B_x.out.cell 1 rfl
            have c_x_2 := B_x.out.cell 2 rfl
            have l_x := B_x.out.lt
            have c_m_0 := B_m.out.cell 0 rfl
            have c_m_1 := B_m.out.cell 1 rfl
            have c_m_2 := B_m.out.cell 2 rfl
            have l_m := B_m.out.lt
            have c_p_0 := B_p.out.cell 0 rfl
            have c_p_1 := B_p.out.cell 1 rfl
            have c_p_2 := B_p.out.cell 2 rfl
            have l_p := B_p.out.lt
            go_wp2_with fail
            refine (f6pins_b _ _ pa _ (SlP.of_own (own_below O_v7.out (by first | (with_reducible exact Below.refl _ _) | go_grown))) (SlP.of_own (own_below O_v8.out (by first | (with_reducible exact Below.refl _ _) | go_grown)))).mono ?_
            rintro e w18 ⟨rfl, hb⟩
            have b_w18 : Below w17.heap.size w17 w18 := Below.trans (by first | (with_reducible exact Below.refl _ _) | go_grown) (hb.mono (by first | (with_reducible exact Nat.le_refl _) | (with_reducible assumption) | (simp [go_sem]; done) | (simp [go_sem]; omega) | omega))
            replace B_b := Lib.hid (B_b.out.below b_w18)
            replace B_x := Lib.hid (B_x.out.below b_w18)
            replace B_m := Lib.hid (B_m.out.below b_w18)
            replace B_p := Lib.hid (B_p.out.below b_w18)
            replace O_v := Lib.hid (own_below O_v.out b_w18)
            replace O_v2 := Lib.hid (own_below O_v2.out b_w18)
            replace O_v3 := Lib.hid (own_below O_v3.out b_w18)
            replace O_v4 := Lib.hid (own_below O_v4.out b_w18)
            replace O_v5 := Lib.hid (own_below O_v5.out b_w18)
            replace O_v6 := Lib.hid (own_below O_v6.out b_w18)
            replace O_v7 := Lib.hid (own_below O_v7.out b_w18)
            replace O_v8 := Lib.hid (own_below O_v8.out b_w18)
            replace old := Lib.hid (grown_again old.out b_w18)
            clear hb b_w18
            have elen : ((pa.length : Int) == (ps.length : Int)) = true := by rw [HPL.out]; simp
            clear c_b_0 c_b_1 c_b_2 l_b c_x_0 c_x_1 c_x_2 l_x c_m_0 c_m_1 c_m_2 l_m c_p_0 c_p_1 c_p_2 l_p
            have c_b_0 := B_b.out.cell 0 rfl
            have c_b_1 := B_b.out.cell 1 rfl
            have c_b_2 := B_b.out.cell 2 rfl
            have l_b := B_b.out.lt
            have c_x_0 := B_x.out.cell 0 rfl
            have c_x_1 := B_x.out.cell 1 rfl
            have c_x_2 := B_x.out.cell 2 rfl
            have l_x := B_x.out.lt
            have c_m_0 := B_m.out.cell 0 rfl
            have c_m_1 := B_m.out.cell 1 rfl
            have c_m_2 := B_m.out.cell 2 rfl
            have l_m := B_m.out.lt
            have c_p_0 := B_p.out.cell 0 rfl
            have c_p_1 := B_p.out.cell 1 rfl
            have c_p_2 := B_p.out.cell 2 rfl
            have l_p := B_p.out.lt
            go_wp2
            go_ret
            exact ⟨rfl, old.out⟩

set_option maxRecDepth 100000 in
theorem fnBarrels_lifted (os : Os) (started : os.Started) (H : Type) (enc : TypeId × Value → H) :
    ReturnsInHanded {} Try.checked os 6 .any (Rows.fnBarrelsSpec.pre6 enc Try.prog Try.f6 Rows.fnBarrelsRow.domain false) (Rows.fnBarrelsSpec.post enc Try.prog Try.f6 false true false false) := by
  refine returnsInHanded_of_change (C := Try.checked) Try.own started (by kernel_rfl) Try.func6
    (ChangeSpec.witness6 (enc := enc) (C := Try.checked) false ⟨#[], #[.slice none 0 0], []⟩ 8 (by kernel_rfl) (by kernel_rfl) (by kernel_rfl) (by kernel_rfl)) ?_
  intro W base args ds gs before hval0 hW hcnd _
  have hval : ∀ (j : Nat) t v, Try.f6.params[j]? = some t → args[j]? = some v → Value.okWide Try.prog W .any base t v := hval0
  have hW' := hW
  have hltB : ∀ x ∈ before, x.block < W.heap.size := fun x hx => hW.lt x hx
  obtain ⟨p, q, hA0, hV, rfl, hfz, hnd⟩ := hW
  have hA : DataW.TrodAll enc Try.prog W 0 (fun _ => true) true Try.f6.params.toList args.toList ds p := hA0
  rw [Try.params6] at hA hval
  obtain ⟨v0, vs0, d0, ds0, p0, q0, hargs, rfl, rfl, h0, r0⟩ := trodAll_cons hA
  obtain ⟨rfl, rfl, rfl⟩ := trodAll_nil r0
  obtain rfl : args = #[v0] := by cases args; simp_all
  clear hA0 hval0 hA hcnd hfz hnd
  have hlt0 : ∀ x ∈ p0, x.block < W.heap.size := fun x hx => hltB x (by simp [hx])
  obtain ⟨a0, n0, c0, rfl⟩ := okWide_slice Try.underlying41 (hval 0 41 v0 rfl rfl)
  obtain ⟨fu0, hf0⟩ := h0
  obtain ⟨bs, hbs, _⟩ := trod_bytes Try.underlying41 Try.underlying5 (by kernel_rfl) hf0 hlt0
  refine (barrels_walk _ bs W hbs).mono fun e W' ⟨he, hb⟩ => ?_
  subst he
  exact ⟨_, rfl, post_law Try.laidOut hW' rfl rfl (by kernel_rfl) (by kernel_rfl) Try.underlying4 hb⟩

set_option maxHeartbeats 2000000 in
theorem fnBarrels_facts : joinedFacts Try.prog 6 Try.f6 Rows.fnBarrelsSpec Rows.fnBarrelsRow = true := by
  unfold joinedFacts
  simp only [Bool.and_eq_true]
  repeat' apply And.intro
  all_goals first | with_reducible exact Try.laidOut | with_reducible exact Try.g2 | with_reducible exact Try.g24 | with_reducible exact Try.g25 | (rw [Try.g26]; rfl) | (rw [Try.g27]; rfl) | as_aux_lemma => kernel_rfl
/-- The statement. -/
theorem fnBarrels_holds : Rows.FnBarrelsSaid :=
  OpenClaim.holds_of_wide 6 Try.f6 rfl rfl rfl rfl rfl rfl rfl ⟨rfl, rfl, rfl, rfl, rfl⟩ rfl rfl rfl rfl rfl (by as_aux_lemma => kernel_rfl) Try.func6 fnBarrels_facts
    (by as_aux_lemma => exact of_decide_eq_true (by kernel_rfl)) (by as_aux_lemma => unfold Func.isWrapper; rw [if_neg (of_decide_eq_false (by kernel_rfl))]; exact ⟨rfl, rfl⟩)
    (fun os started H enc _ => fnBarrels_lifted os started H enc)
#print axioms fnBarrels_holds
end Go.Proofs.Ytgaohmbgjjhdbaa
