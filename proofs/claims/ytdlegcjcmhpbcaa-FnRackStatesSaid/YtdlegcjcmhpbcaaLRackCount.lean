/- FnRackStates is proved: from every state the same states can be reached, two for each warned minute and one for each other one; the answers are the reference's. No condition. -/
import Derived.Test.YtdlegcjcmhpbcaaDrW
import Derived.Test.YtdlegcjcmhpbcaaDrWs
import Derived.Test.YtdlegcjcmhpbcaaRkI
import Derived.Test.YtdlegcjcmhpbcaaRkU
import Derived.Test.YtdlegcjcmhpbcaaF6
import Derived.Test.YtdlegcjcmhpbcaaRow3
import Derived.Test.YtdlegcjcmhpbcaaRowF
import Derived.Deep.RegionHeld3
namespace Go.Proofs.Ytdlegcjcmhpbcaa
open Go.ChangeShapes Go.WideShapes Go.ChangeAt Go.RowKit
attribute [local go_sem ↓] Go.wp_at_zero Go.wp_at_succ


set_option maxRecDepth 100000 in
set_option maxHeartbeats 16000000 in
theorem rackStates_walk (vb : Value) (bs : List Int) (W : World) (hv : SlB W vb bs) :
    Calls Try.prog 3 #[vb] W fun e W' => e = .returned (.bool true) ∧ Below W.heap.size W W' := by
  have HV := Lib.hid hv
  clear hv
  cases hbig : decide (4096 < bs.length) with
  | true =>
    go_enter Try.func3, Try.ntmps3
    go_wp2_with fail
    refine (f6big_any vb bs _ HV.out _ hbig).mono ?_
    rintro e w' ⟨rfl, rfl⟩
    go_wp2
    go_ret
    exact ⟨rfl, Below.refl _ _⟩
  | false =>
    have HBG := Lib.hid hbig
    clear hbig
    go_enter Try.func3, Try.ntmps3
    go_wp2_with fail
    refine (f6big_any vb bs _ HV.out _ HBG.out).mono ?_
    rintro e w' ⟨rfl, rfl⟩
    go_wp2_with fail
    refine (DrawRackStates_any vb bs _ HV.out).mono ?_
    rintro e w1 ⟨v, ds, wn, m, rd, rfl, o_v, hl, hb⟩
    obtain ⟨A_v, C_v, rfl⟩ := own_form o_v
    have old := Lib.hid hb
    have O_v := Lib.hid o_v
    have HL := Lib.hid hl
    clear hb o_v hl HBG
    obtain hs | hs : stB ds wn m rd = false ∨ stB ds wn m rd = true := by cases stB ds wn m rd <;> simp
    ·
      have HSB := Lib.hid hs
      clear hs
      go_wp2_with fail
      refine (RackStates_i1 _ ds wn m rd _ (Sl.of_own (own_below O_v.out (by first | (with_reducible exact Below.refl _ _) | go_grown))) HSB.out).mono ?_
      rintro e w2 ⟨rfl, hb⟩
      have b_w2 : Below w1.heap.size w1 w2 := Below.trans (by first | (with_reducible exact Below.refl _ _) | go_grown) (hb.mono (by first | (with_reducible exact Nat.le_refl _) | (with_reducible assumption) | (simp [go_sem]; done) | (simp [go_sem]; omega) | omega))
      replace O_v := Lib.hid (own_below O_v.out b_w2)
      have B_r : Hid (Blk w2 (w1.heap.size) 26 #[.slice A_v ds.length C_v, .int .i64 wn]) := Blk.below (by first | exact Blk.new _ _ _ | exact (Blk.new _ _ _).alloc _ | (have h := Blk.new (w1) 26 #[.slice A_v ds.length C_v, .int .i64 wn]; simpa using h)) hb
      have B_s : Hid (Blk w2 (w1.heap.size + 1) 28 #[.int .i64 m, .int .i64 rd]) := Blk.below (by first | exact Blk.new _ _ _ | exact (Blk.new _ _ _).alloc _ | (have h := Blk.new (w1.alloc (.cells #[.slice A_v ds.length C_v, .int .i64 wn] 26)) 28 #[.int .i64 m, .int .i64 rd]; simpa using h)) hb
      replace old := Lib.hid (grown_again old.out b_w2)
      clear hb b_w2
      have c_r_0 := B_r.out.cell 0 rfl
      have c_r_1 := B_r.out.cell 1 rfl
      have l_r := B_r.out.lt
      have c_s_0 := B_s.out.cell 0 rfl
      have c_s_1 := B_s.out.cell 1 rfl
      have l_s := B_s.out.lt
      go_wp2_with fail
      refine (RackStates_s1 _ ds wn m rd _ (Sl.of_own (own_below O_v.out (by first | (with_reducible exact Below.refl _ _) | go_grown))) HSB.out).mono ?_
      rintro e w3 ⟨rfl, hb⟩
      have b_w3 : Below w2.heap.size w2 w3 := Below.trans (by first | (with_reducible exact Below.refl _ _) | go_grown) (hb.mono (by first | (with_reducible exact Nat.le_refl _) | (with_reducible assumption) | (simp [go_sem]; done) | (simp [go_sem]; omega) | omega))
      replace B_r := Lib.hid (B_r.out.below b_w3)
      replace B_s := Lib.hid (B_s.out.below b_w3)
      replace O_v := Lib.hid (own_below O_v.out b_w3)
      replace old := Lib.hid (grown_again old.out b_w3)
      clear hb b_w3
      clear c_r_0 c_r_1 l_r c_s_0 c_s_1 l_s
      have c_r_0 := B_r.out.cell 0 rfl
      have c_r_1 := B_r.out.cell 1 rfl
      have l_r := B_r.out.lt
      have c_s_0 := B_s.out.cell 0 rfl
      have c_s_1 := B_s.out.cell 1 rfl
      have l_s := B_s.out.lt
      go_wp2_with fail
      refine (DrawSnailHour_any vb bs _ (HV.out.below (grown_again old.out (by first | (with_reducible exact Below.refl _ _) | go_grown)))).mono ?_
      rintro e w4 ⟨h, es, wq, mq, rfl, o_h, -, hb⟩
      obtain ⟨A_h, C_h, rfl⟩ := own_form o_h
      have b_w4 : Below w3.heap.size w3 w4 := Below.trans (by first | (with_reducible exact Below.refl _ _) | go_grown) (hb.mono (by first | (with_reducible exact Nat.le_refl _) | (with_reducible assumption) | (simp [go_sem]; done) | (simp [go_sem]; omega) | omega))
      replace B_r := Lib.hid (B_r.out.below b_w4)
      replace B_s := Lib.hid (B_s.out.below b_w4)
      replace O_v := Lib.hid (own_below O_v.out b_w4)
      replace old := Lib.hid (grown_again old.out b_w4)
      clear hb b_w4
      have O_h := Lib.hid o_h
      clear o_h
      clear c_r_0 c_r_1 l_r c_s_0 c_s_1 l_s
      have c_r_0 := B_r.out.cell 0 rfl
      have c_r_1 := B_r.out.cell 1 rfl
      have l_r := B_r.out.lt
      have c_s_0 := B_s.out.cell 0 rfl
      have c_s_1 := B_s.out.cell 1 rfl
      have l_s := B_s.out.lt
      go_wp2_with fail
      refine (SnailHour_i _ es wq mq _ (Sl.of_own (own_below O_h.out (by first | (with_reducible exact Below.refl _ _) | go_grown)))).mono ?_
      rintro e w5 ⟨rfl, hb⟩
      have b_w5 : Below w4.heap.size w4 w5 := Below.trans (by first | (with_reducible exact Below.refl _ _) | go_grown) (hb.mono (by first | (with_reducible exact Nat.le_refl _) | (with_reducible assumption) | (simp [go_sem]; done) | (simp [go_sem]; omega) | omega))
      replace B_r := Lib.hid (B_r.out.below b_w5)
      replace B_s := Lib.hid (B_s.out.below b_w5)
      replace O_v := Lib.hid (own_below O_v.out b_w5)
      replace O_h := Lib.hid (own_below O_h.out b_w5)
      have B_q : Hid (Blk w5 (w4.heap.size) 26 #[.slice A_h es.length C_h, .int .i64 wq]) := Blk.below (by first | exact Blk.new _ _ _ | exact (Blk.new _ _ _).alloc _ | (have h := Blk.new (w4) 26 #[.slice A_h es.length C_h, .int .i64 wq]; simpa using h)) hb
      replace old := Lib.hid (grown_again old.out b_w5)
      clear hb b_w5
      clear c_r_0 c_r_1 l_r c_s_0 c_s_1 l_s
      have c_r_0 := B_r.out.cell 0 rfl
      have c_r_1 := B_r.out.cell 1 rfl
      have l_r := B_r.out.lt
      have c_s_0 := B_s.out.cell 0 rfl
      have c_s_1 := B_s.out.cell 1 rfl
      have l_s := B_s.out.lt
      have c_q_0 := B_q.out.cell 0 rfl
      have c_q_1 := B_q.out.cell 1 rfl
      have l_q := B_q.out.lt
      go_wp2_with fail
      refine (SnailHour_i _ es wq mq _ (Sl.of_own (own_below O_h.out (by first | (with_reducible exact Below.refl _ _) | go_grown)))).mono ?_
      rintro e w6 ⟨rfl, hb⟩
      have b_w6 : Below w5.heap.size w5 w6 := Below.trans (by first | (with_reducible exact Below.refl _ _) | go_grown) (hb.mono (by first | (with_reducible exact Nat.le_refl _) | (with_reducible assumption) | (simp [go_sem]; done) | (simp [go_sem]; omega) | omega))
      replace B_r := Lib.hid (B_r.out.below b_w6)
      replace B_s := Lib.hid (B_s.out.below b_w6)
      replace B_q := Lib.hid (B_q.out.below b_w6)
      replace O_v := Lib.hid (own_below O_v.out b_w6)
      replace O_h := Lib.hid (own_below O_h.out b_w6)
      replace old := Lib.hid (grown_again old.out b_w6)
      clear hb b_w6
      clear c_r_0 c_r_1 l_r c_s_0 c_s_1 l_s c_q_0 c_q_1 l_q
      have c_r_0 := B_r.out.cell 0 rfl
      have c_r_1 := B_r.out.cell 1 rfl
      have l_r := B_r.out.lt
      have c_s_0 := B_s.out.cell 0 rfl
      have c_s_1 := B_s.out.cell 1 rfl
      have l_s := B_s.out.lt
      have c_q_0 := B_q.out.cell 0 rfl
      have c_q_1 := B_q.out.cell 1 rfl
      have l_q := B_q.out.lt
      go_wp2_with fail
      refine (SnailHour_s _ es wq mq _ (Sl.of_own (own_below O_h.out (by first | (with_reducible exact Below.refl _ _) | go_grown)))).mono ?_
      rintro e w7 ⟨rfl, hb⟩
      have b_w7 : Below w6.heap.size w6 w7 := Below.trans (by first | (with_reducible exact Below.refl _ _) | go_grown) (hb.mono (by first | (with_reducible exact Nat.le_refl _) | (with_reducible assumption) | (simp [go_sem]; done) | (simp [go_sem]; omega) | omega))
      replace B_r := Lib.hid (B_r.out.below b_w7)
      replace B_s := Lib.hid (B_s.out.below b_w7)
      replace B_q := Lib.hid (B_q.out.below b_w7)
      replace O_v := Lib.hid (own_below O_v.out b_w7)
      replace O_h := Lib.hid (own_below O_h.out b_w7)
      replace old := Lib.hid (grown_again old.out b_w7)
      clear hb b_w7
      clear c_r_0 c_r_1 l_r c_s_0 c_s_1 l_s c_q_0 c_q_1 l_q
      have c_r_0 := B_r.out.cell 0 rfl
      have c_r_1 := B_r.out.cell 1 rfl
      have l_r := B_r.out.lt
      have c_s_0 := B_s.out.cell 0 rfl
      have c_s_1 := B_s.out.cell 1 rfl
      have l_s := B_s.out.lt
      have c_q_0 := B_q.out.cell 0 rfl
      have c_q_1 := B_q.out.cell 1 rfl
      have l_q := B_q.out.lt
      go_wp2
      go_ret
      exact ⟨by simp, grown_again old.out (by go_grown)⟩
    ·
      obtain ⟨-, -, hw1, hw2⟩ := (stB_iff.1 hs).1
      have HW1 := Lib.hid hw1
      have HW2 := Lib.hid hw2
      clear hw1 hw2
      have HSB := Lib.hid hs
      clear hs
      go_wp2_with fail
      refine (RackStates_i0 _ ds wn m rd _ (Sl.of_own (own_below O_v.out (by first | (with_reducible exact Below.refl _ _) | go_grown))) HSB.out).mono ?_
      rintro e w2 ⟨rfl, hb⟩
      have b_w2 : Below w1.heap.size w1 w2 := Below.trans (by first | (with_reducible exact Below.refl _ _) | go_grown) (hb.mono (by first | (with_reducible exact Nat.le_refl _) | (with_reducible assumption) | (simp [go_sem]; done) | (simp [go_sem]; omega) | omega))
      replace O_v := Lib.hid (own_below O_v.out b_w2)
      have B_r : Hid (Blk w2 (w1.heap.size) 26 #[.slice A_v ds.length C_v, .int .i64 wn]) := Blk.below (by first | exact Blk.new _ _ _ | exact (Blk.new _ _ _).alloc _ | (have h := Blk.new (w1) 26 #[.slice A_v ds.length C_v, .int .i64 wn]; simpa using h)) hb
      have B_s : Hid (Blk w2 (w1.heap.size + 1) 28 #[.int .i64 m, .int .i64 rd]) := Blk.below (by first | exact Blk.new _ _ _ | exact (Blk.new _ _ _).alloc _ | (have h := Blk.new (w1.alloc (.cells #[.slice A_v ds.length C_v, .int .i64 wn] 26)) 28 #[.int .i64 m, .int .i64 rd]; simpa using h)) hb
      replace old := Lib.hid (grown_again old.out b_w2)
      clear hb b_w2
      have c_r_0 := B_r.out.cell 0 rfl
      have c_r_1 := B_r.out.cell 1 rfl
      have l_r := B_r.out.lt
      have c_s_0 := B_s.out.cell 0 rfl
      have c_s_1 := B_s.out.cell 1 rfl
      have l_s := B_s.out.lt
      go_wp2_with fail
      refine (RackStates_s0 _ ds wn m rd _ (Sl.of_own (own_below O_v.out (by first | (with_reducible exact Below.refl _ _) | go_grown))) HSB.out).mono ?_
      rintro e w3 ⟨rfl, hb⟩
      have b_w3 : Below w2.heap.size w2 w3 := Below.trans (by first | (with_reducible exact Below.refl _ _) | go_grown) (hb.mono (by first | (with_reducible exact Nat.le_refl _) | (with_reducible assumption) | (simp [go_sem]; done) | (simp [go_sem]; omega) | omega))
      replace B_r := Lib.hid (B_r.out.below b_w3)
      replace B_s := Lib.hid (B_s.out.below b_w3)
      replace O_v := Lib.hid (own_below O_v.out b_w3)
      replace old := Lib.hid (grown_again old.out b_w3)
      clear hb b_w3
      clear c_r_0 c_r_1 l_r c_s_0 c_s_1 l_s
      have c_r_0 := B_r.out.cell 0 rfl
      have c_r_1 := B_r.out.cell 1 rfl
      have l_r := B_r.out.lt
      have c_s_0 := B_s.out.cell 0 rfl
      have c_s_1 := B_s.out.cell 1 rfl
      have l_s := B_s.out.lt
      go_wp2_with fail
      refine (DrawSnailHour_any vb bs _ (HV.out.below (grown_again old.out (by first | (with_reducible exact Below.refl _ _) | go_grown)))).mono ?_
      rintro e w4 ⟨h, es, wq, mq, rfl, o_h, -, hb⟩
      obtain ⟨A_h, C_h, rfl⟩ := own_form o_h
      have b_w4 : Below w3.heap.size w3 w4 := Below.trans (by first | (with_reducible exact Below.refl _ _) | go_grown) (hb.mono (by first | (with_reducible exact Nat.le_refl _) | (with_reducible assumption) | (simp [go_sem]; done) | (simp [go_sem]; omega) | omega))
      replace B_r := Lib.hid (B_r.out.below b_w4)
      replace B_s := Lib.hid (B_s.out.below b_w4)
      replace O_v := Lib.hid (own_below O_v.out b_w4)
      replace old := Lib.hid (grown_again old.out b_w4)
      clear hb b_w4
      have O_h := Lib.hid o_h
      clear o_h
      clear c_r_0 c_r_1 l_r c_s_0 c_s_1 l_s
      have c_r_0 := B_r.out.cell 0 rfl
      have c_r_1 := B_r.out.cell 1 rfl
      have l_r := B_r.out.lt
      have c_s_0 := B_s.out.cell 0 rfl
      have c_s_1 := B_s.out.cell 1 rfl
      have l_s := B_s.out.lt
      go_wp2_with fail
      refine (SnailHour_i _ es wq mq _ (Sl.of_own (own_below O_h.out (by first | (with_reducible exact Below.refl _ _) | go_grown)))).mono ?_
      rintro e w5 ⟨rfl, hb⟩
      have b_w5 : Below w4.heap.size w4 w5 := Below.trans (by first | (with_reducible exact Below.refl _ _) | go_grown) (hb.mono (by first | (with_reducible exact Nat.le_refl _) | (with_reducible assumption) | (simp [go_sem]; done) | (simp [go_sem]; omega) | omega))
      replace B_r := Lib.hid (B_r.out.below b_w5)
      replace B_s := Lib.hid (B_s.out.below b_w5)
      replace O_v := Lib.hid (own_below O_v.out b_w5)
      replace O_h := Lib.hid (own_below O_h.out b_w5)
      have B_q : Hid (Blk w5 (w4.heap.size) 26 #[.slice A_h es.length C_h, .int .i64 wq]) := Blk.below (by first | exact Blk.new _ _ _ | exact (Blk.new _ _ _).alloc _ | (have h := Blk.new (w4) 26 #[.slice A_h es.length C_h, .int .i64 wq]; simpa using h)) hb
      replace old := Lib.hid (grown_again old.out b_w5)
      clear hb b_w5
      clear c_r_0 c_r_1 l_r c_s_0 c_s_1 l_s
      have c_r_0 := B_r.out.cell 0 rfl
      have c_r_1 := B_r.out.cell 1 rfl
      have l_r := B_r.out.lt
      have c_s_0 := B_s.out.cell 0 rfl
      have c_s_1 := B_s.out.cell 1 rfl
      have l_s := B_s.out.lt
      have c_q_0 := B_q.out.cell 0 rfl
      have c_q_1 := B_q.out.cell 1 rfl
      have l_q := B_q.out.lt
      go_wp2_with fail
      refine (SnailHour_i _ es wq mq _ (Sl.of_own (own_below O_h.out (by first | (with_reducible exact Below.refl _ _) | go_grown)))).mono ?_
      rintro e w6 ⟨rfl, hb⟩
      have b_w6 : Below w5.heap.size w5 w6 := Below.trans (by first | (with_reducible exact Below.refl _ _) | go_grown) (hb.mono (by first | (with_reducible exact Nat.le_refl _) | (with_reducible assumption) | (simp [go_sem]; done) | (simp [go_sem]; omega) | omega))
      replace B_r := Lib.hid (B_r.out.below b_w6)
      replace B_s := Lib.hid (B_s.out.below b_w6)
      replace B_q := Lib.hid (B_q.out.below b_w6)
      replace O_v := Lib.hid (own_below O_v.out b_w6)
      replace O_h := Lib.hid (own_below O_h.out b_w6)
      replace old := Lib.hid (grown_again old.out b_w6)
      clear hb b_w6
      clear c_r_0 c_r_1 l_r c_s_0 c_s_1 l_s c_q_0 c_q_1 l_q
      have c_r_0 := B_r.out.cell 0 rfl
      have c_r_1 := B_r.out.cell 1 rfl
      have l_r := B_r.out.lt
      have c_s_0 := B_s.out.cell 0 rfl
      have c_s_1 := B_s.out.cell 1 rfl
      have l_s := B_s.out.lt
      have c_q_0 := B_q.out.cell 0 rfl
      have c_q_1 := B_q.out.cell 1 rfl
      have l_q := B_q.out.lt
      go_wp2_with fail
      refine (SnailHour_s _ es wq mq _ (Sl.of_own (own_below O_h.out (by first | (with_reducible exact Below.refl _ _) | go_grown)))).mono ?_
      rintro e w7 ⟨rfl, hb⟩
      have b_w7 : Below w6.heap.size w6 w7 := Below.trans (by first | (with_reducible exact Below.refl _ _) | go_grown) (hb.mono (by first | (with_reducible exact Nat.le_refl _) | (with_reducible assumption) | (simp [go_sem]; done) | (simp [go_sem]; omega) | omega))
      replace B_r := Lib.hid (B_r.out.below b_w7)
      replace B_s := Lib.hid (B_s.out.below b_w7)
      replace B_q := Lib.hid (B_q.out.below b_w7)
      replace O_v := Lib.hid (own_below O_v.out b_w7)
      replace O_h := Lib.hid (own_below O_h.out b_w7)
      replace old := Lib.hid (grown_again old.out b_w7)
      clear hb b_w7
      clear c_r_0 c_r_1 l_r c_s_0 c_s_1 l_s c_q_0 c_q_1 l_q
      have c_r_0 := B_r.out.cell 0 rfl
      have c_r_1 := B_r.out.cell 1 rfl
      have l_r := B_r.out.lt
      have c_s_0 := B_s.out.cell 0 rfl
      have c_s_1 := B_s.out.cell 1 rfl
      have l_s := B_s.out.lt
      have c_q_0 := B_q.out.cell 0 rfl
      have c_q_1 := B_q.out.cell 1 rfl
      have l_q := B_q.out.lt
      have hw1 := HW1.out
      have hw2 := HW2.out
      go_wp2
      go_ret
      exact ⟨by simp, grown_again old.out (by go_grown)⟩

set_option maxRecDepth 100000 in
theorem fnRackStates_lifted (os : Os) (started : os.Started) (H : Type) (enc : TypeId × Value → H) :
    ReturnsInHanded {} Try.checked os 3 .any (Rows.fnRackStatesSpec.pre6 enc Try.prog Try.f3 Rows.fnRackStatesRow.domain false) (Rows.fnRackStatesSpec.post enc Try.prog Try.f3 false true false false) := by
  refine returnsInHanded_of_change (C := Try.checked) Try.own started (by kernel_rfl) Try.func3
    (ChangeSpec.witness6 (enc := enc) (C := Try.checked) false ⟨#[], #[.slice none 0 0], []⟩ 8 (by kernel_rfl) (by kernel_rfl) (by kernel_rfl) (by kernel_rfl)) ?_
  intro W base args ds gs before hval0 hW hcnd _
  have hval : ∀ (j : Nat) t v, Try.f3.params[j]? = some t → args[j]? = some v → Value.okWide Try.prog W .any base t v := hval0
  have hW' := hW
  have hltB : ∀ x ∈ before, x.block < W.heap.size := fun x hx => hW.lt x hx
  obtain ⟨p, q, hA0, hV, rfl, hfz, hnd⟩ := hW
  have hA : DataW.TrodAll enc Try.prog W 0 (fun _ => true) true Try.f3.params.toList args.toList ds p := hA0
  rw [Try.params3] at hA hval
  obtain ⟨v0, vs0, d0, ds0, p0, q0, hargs, rfl, rfl, h0, r0⟩ := trodAll_cons hA
  obtain ⟨rfl, rfl, rfl⟩ := trodAll_nil r0
  obtain rfl : args = #[v0] := by cases args; simp_all
  clear hA0 hval0 hA hcnd hfz hnd
  have hlt0 : ∀ x ∈ p0, x.block < W.heap.size := fun x hx => hltB x (by simp [hx])
  obtain ⟨a0, n0, c0, rfl⟩ := okWide_slice Try.underlying22 (hval 0 22 v0 rfl rfl)
  obtain ⟨fu0, hf0⟩ := h0
  obtain ⟨bs, hbs, _⟩ := trod_bytes Try.underlying22 Try.underlying5 (by kernel_rfl) hf0 hlt0
  refine (rackStates_walk _ bs W hbs).mono fun e W' ⟨he, hb⟩ => ?_
  subst he
  exact ⟨_, rfl, post_law Try.laidOut hW' rfl rfl (by kernel_rfl) (by kernel_rfl) Try.underlying4 hb⟩

set_option maxHeartbeats 2000000 in
theorem fnRackStates_facts : joinedFacts Try.prog 3 Try.f3 Rows.fnRackStatesSpec Rows.fnRackStatesRow = true := by
  unfold joinedFacts
  simp only [Bool.and_eq_true]
  repeat' apply And.intro
  all_goals first | with_reducible exact Try.laidOut | with_reducible exact Try.g2 | with_reducible exact Try.g24 | with_reducible exact Try.g25 | (rw [Try.g26]; rfl) | (rw [Try.g27]; rfl) | as_aux_lemma => kernel_rfl
/-- The statement. -/
theorem fnRackStates_holds : Rows.FnRackStatesSaid :=
  OpenClaim.holds_of_wide 3 Try.f3 rfl rfl rfl rfl rfl rfl rfl ⟨rfl, rfl, rfl, rfl, rfl⟩ rfl rfl rfl rfl rfl (by as_aux_lemma => kernel_rfl) Try.func3 fnRackStates_facts
    (by as_aux_lemma => exact of_decide_eq_true (by kernel_rfl)) (by as_aux_lemma => unfold Func.isWrapper; rw [if_neg (of_decide_eq_false (by kernel_rfl))]; exact ⟨rfl, rfl⟩)
    (fun os started H enc _ => fnRackStates_lifted os started H enc)
#print axioms fnRackStates_holds
end Go.Proofs.Ytdlegcjcmhpbcaa
