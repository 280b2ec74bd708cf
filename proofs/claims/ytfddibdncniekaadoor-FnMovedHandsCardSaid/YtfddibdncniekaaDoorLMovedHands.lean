/- FnMovedHands is proved: actions in two parts are actions in one, and every action but moving backward strikes once; the answers are the reference's. No condition. -/
import Derived.Test.YtfddibdncniekaaDoorDrK
import Derived.Test.YtfddibdncniekaaDoorHsP
import Derived.Test.YtfddibdncniekaaDoorCelB
import Derived.Test.YtfddibdncniekaaDoorF6
import Derived.Test.YtfddibdncniekaaDoorDi
import Derived.Test.YtfddibdncniekaaDoorRow3
import Derived.Test.YtfddibdncniekaaDoorRowF
import Derived.Test.YtfddibdncniekaaDoorCards
import Derived.Test.YtfddibdncniekaaDoorTie
import Derived.OpenShut
import Derived.LaidMore
import Derived.Lay
import Derived.SevenTiedAt
import Derived.Stop.Joined
import Derived.ChangeMaps5
import Derived.Deep.RegionHeld3
import Derived.Deep.DeepCutAuto
namespace Go.Proofs.YtfddibdncniekaaDoor
open Go.ChangeShapes Go.WideShapes Go.ChangeAt Go.RowKit
attribute [local go_sem ↓] Go.wp_at_zero Go.wp_at_succ

theorem mh_cases (gs : List Int) (h q : Int) (s : ByteArray) (hsz : s.size ≤ 1073741824) :
    (∃ c : Int, c ≠ 0 ∧ (∀ v w, Sl w v gs → Calls Tryd.prog 16 #[.agg #[v], .agg #[.int .i64 h, .int .i64 q], .string s] w fun e w' => ∃ v', e = .returned (.tuple #[.agg #[.int .i64 0, .int .i64 0], v', .int .i64 c]) ∧ w'.ownsRow w.heap.size 2 1 v' ([] : List Int).length (I64 ([] : List Int)) ∧ Below w.heap.size w w') ∧
      (∀ v w, Sl w v gs → Calls Tryd.prog 13 #[.agg #[v], .agg #[.int .i64 h, .int .i64 q], .string s] w fun e w' => ∃ v', e = .returned (.tuple #[.agg #[.int .i64 0, .int .i64 0], v', .int .i64 c]) ∧ w'.ownsRow w.heap.size 2 1 v' ([] : List Int).length (I64 ([] : List Int)) ∧ Below w.heap.size w w')) ∨
    (hnB gs h q = true ∧ s.size ≤ 60 ∧ knB s = true) := by
  cases hs : hnB gs h q with
  | false => exact Or.inl ⟨1, by decide, fun v w hv => MoveHands_i1 v gs h q s w hv hsz hs, fun v w hv => MoveHands_s1 v gs h q s w hv hsz hs⟩
  | true =>
    by_cases hn : s.size ≤ 60
    · cases hk : knB s with
      | false => exact Or.inl ⟨7, by decide, fun v w hv => MoveHands_i7 v gs h q s w hv hsz hs hn hk, fun v w hv => MoveHands_s7 v gs h q s w hv hsz hs hn hk⟩
      | true => exact Or.inr ⟨rfl, hn, rfl⟩
    · exact Or.inl ⟨2, by decide, fun v w hv => MoveHands_i2 v gs h q s w hv hsz hs (by omega), fun v w hv => MoveHands_s2 v gs h q s w hv hsz hs (by omega)⟩

set_option maxRecDepth 100000 in
set_option maxHeartbeats 16000000 in
theorem movedHands_walk (vb : Value) (bs : List Int) (W : World) (hv : SlB W vb bs) :
    Calls Tryd.prog 7 #[vb] W fun e W' => e = .returned (.bool true) ∧ Below W.heap.size W W' := by
  have HV := Lib.hid hv
  clear hv
  cases hbig : decide (4096 < bs.length) with
  | true =>
    go_enter Tryd.func7, Tryd.ntmps7
    go_wp2_with fail
    refine (f6big_any vb bs _ HV.out _ hbig).mono ?_
    rintro e w' ⟨rfl, rfl⟩
    go_wp2
    go_ret
    exact ⟨rfl, Below.refl _ _⟩
  | false =>
    have HBG := Lib.hid hbig
    clear hbig
    go_enter Tryd.func7, Tryd.ntmps7
    go_wp2_with fail
    refine (f6big_any vb bs _ HV.out _ HBG.out).mono ?_
    rintro e w' ⟨rfl, rfl⟩
    go_wp2_with fail
    refine (DrawMoveHands_any vb bs _ HV.out).mono ?_
    rintro e w1 ⟨v, gs, h, q, s, rfl, o_v, hgl, hsz, hb⟩
    obtain ⟨A_v, C_v, rfl⟩ := own_form o_v
    have old := Lib.hid hb
    have O_v := Lib.hid o_v
    have HGL := Lib.hid hgl
    clear o_v hb hgl
    rcases mh_cases gs h q s (by omega) with ⟨c, hc, hci, hcs⟩ | ⟨h1, h2, h3⟩
    · have HCI := Lib.hid hci
      have HCS := Lib.hid hcs
      have hcq : (c != 0) = true := by simpa using hc
      clear hci hcs hc hsz
      go_wp2_with fail
      refine (HCI.out _ _ (Sl.of_own (own_below O_v.out (by first | (with_reducible exact Below.refl _ _) | go_grown)))).mono ?_
      rintro e w2 ⟨v2, rfl, o_v2, hb⟩
      obtain ⟨A_v2, C_v2, rfl⟩ := own_form o_v2
      have b_w2 : Below w1.heap.size w1 w2 := Below.trans (by first | (with_reducible exact Below.refl _ _) | go_grown) (hb.mono (by first | (with_reducible exact Nat.le_refl _) | (with_reducible assumption) | (simp [go_sem]; done) | (simp [go_sem]; omega) | omega))
      replace O_v := Lib.hid (own_below O_v.out b_w2)
      have B_wh : Hid (Blk w2 (w1.heap.size) 31 #[.slice A_v gs.length C_v]) := Blk.below (by first | exact Blk.new _ _ _ | exact (Blk.new _ _ _).alloc _ | (have h := Blk.new (w1) 31 #[.slice A_v gs.length C_v]; simpa using h)) hb
      have B_st : Hid (Blk w2 (w1.heap.size + 1) 28 #[.int .i64 h, .int .i64 q]) := Blk.below (by first | exact Blk.new _ _ _ | exact (Blk.new _ _ _).alloc _ | (have h := Blk.new (w1.alloc (.cells #[.slice A_v gs.length C_v] 31)) 28 #[.int .i64 h, .int .i64 q]; simpa using h)) hb
      replace old := Lib.hid (grown_again old.out b_w2)
      clear hb b_w2
      have O_v2 := Lib.hid o_v2
      clear o_v2
      have c_wh_0 := B_wh.out.cell 0 rfl
      have l_wh := B_wh.out.lt
      have c_st_0 := B_st.out.cell 0 rfl
      have c_st_1 := B_st.out.cell 1 rfl
      have l_st := B_st.out.lt
      go_wp2_with fail
      refine (HCS.out _ _ (Sl.of_own (own_below O_v.out (by first | (with_reducible exact Below.refl _ _) | go_grown)))).mono ?_
      rintro e w3 ⟨v3, rfl, o_v3, hb⟩
      obtain ⟨A_v3, C_v3, rfl⟩ := own_form o_v3
      have b_w3 : Below w2.heap.size w2 w3 := Below.trans (by first | (with_reducible exact Below.refl _ _) | go_grown) (hb.mono (by first | (with_reducible exact Nat.le_refl _) | (with_reducible assumption) | (simp [go_sem]; done) | (simp [go_sem]; omega) | omega))
      replace B_wh := Lib.hid (B_wh.out.below b_w3)
      replace B_st := Lib.hid (B_st.out.below b_w3)
      replace O_v := Lib.hid (own_below O_v.out b_w3)
      replace O_v2 := Lib.hid (own_below O_v2.out b_w3)
      have B_x : Hid (Blk w3 (w2.heap.size) 28 #[.int .i64 0, .int .i64 0]) := Blk.below (by first | exact Blk.new _ _ _ | exact (Blk.new _ _ _).alloc _ | (have h := Blk.new (w2) 28 #[.int .i64 0, .int .i64 0]; simpa using h)) hb
      replace old := Lib.hid (grown_again old.out b_w3)
      clear hb b_w3
      have O_v3 := Lib.hid o_v3
      clear o_v3
      clear c_wh_0 l_wh c_st_0 c_st_1 l_st
      have c_wh_0 := B_wh.out.cell 0 rfl
      have l_wh := B_wh.out.lt
      have c_st_0 := B_st.out.cell 0 rfl
      have c_st_1 := B_st.out.cell 1 rfl
      have l_st := B_st.out.lt
      have c_x_0 := B_x.out.cell 0 rfl
      have c_x_1 := B_x.out.cell 1 rfl
      have l_x := B_x.out.lt
      go_upto_region 6 with fail
      obtain ⟨w4, hh⟩ : ∃ x : World, x = (w3.alloc (.cells #[.int .i64 0, .int .i64 0] 28)) := ⟨_, rfl⟩
      have db : Below w3.heap.size w3 w4 := by rw [hh]; go_grown
      have B_y : Hid (Blk w4 (w3.heap.size) 28 #[.int .i64 0, .int .i64 0]) := by rw [hh]; exact Blk.new _ _ _
      replace B_wh := Lib.hid (B_wh.out.below db)
      replace B_st := Lib.hid (B_st.out.below db)
      replace B_x := Lib.hid (B_x.out.below db)
      replace O_v := Lib.hid (own_below O_v.out db)
      replace O_v2 := Lib.hid (own_below O_v2.out db)
      replace O_v3 := Lib.hid (own_below O_v3.out db)
      replace old := Lib.hid (grown_again old.out db)
      rw [← hh]
      clear hh db
      clear c_wh_0 l_wh c_st_0 c_st_1 l_st c_x_0 c_x_1 l_x
      have c_wh_0 := B_wh.out.cell 0 rfl
      have l_wh := B_wh.out.lt
      have c_st_0 := B_st.out.cell 0 rfl
      have c_st_1 := B_st.out.cell 1 rfl
      have l_st := B_st.out.lt
      have c_x_0 := B_x.out.cell 0 rfl
      have c_x_1 := B_x.out.cell 1 rfl
      have l_x := B_x.out.lt
      have c_y_0 := B_y.out.cell 0 rfl
      have c_y_1 := B_y.out.cell 1 rfl
      have l_y := B_y.out.lt
      go_wp2_with fail
      have HSr := Lib.hid (fun (w' : World) (hb : Below w4.heap.size w4 w') => (⟨(B_x.out.below hb).cell 0 rfl, (B_x.out.below hb).cell 1 rfl, (B_y.out.below hb).cell 0 rfl, (B_y.out.below hb).cell 1 rfl, (B_wh.out.below hb).cell 0 rfl, (B_st.out.below hb).cell 0 rfl, (B_st.out.below hb).cell 1 rfl⟩ : w'.cell? ⟨w2.heap.size, 0, none⟩ = some (.int .i64 0) ∧ w'.cell? ⟨w2.heap.size, 1, none⟩ = some (.int .i64 0) ∧ w'.cell? ⟨w3.heap.size, 0, none⟩ = some (.int .i64 0) ∧ w'.cell? ⟨w3.heap.size, 1, none⟩ = some (.int .i64 0) ∧ w'.cell? ⟨w1.heap.size, 0, none⟩ = some (.slice A_v gs.length C_v) ∧ w'.cell? ⟨w1.heap.size + 1, 0, none⟩ = some (.int .i64 h) ∧ w'.cell? ⟨w1.heap.size + 1, 1, none⟩ = some (.int .i64 q)))
      go_region_held3 (fun w' => w'.cell? ⟨w2.heap.size, 0, none⟩ = some (.int .i64 0) ∧ w'.cell? ⟨w2.heap.size, 1, none⟩ = some (.int .i64 0) ∧ w'.cell? ⟨w3.heap.size, 0, none⟩ = some (.int .i64 0) ∧ w'.cell? ⟨w3.heap.size, 1, none⟩ = some (.int .i64 0) ∧ w'.cell? ⟨w1.heap.size, 0, none⟩ = some (.slice A_v gs.length C_v) ∧ w'.cell? ⟨w1.heap.size + 1, 0, none⟩ = some (.int .i64 h) ∧ w'.cell? ⟨w1.heap.size + 1, 1, none⟩ = some (.int .i64 q)) (first | assumption | exact HSr.out _ (by go_grown) | go_keep)
        (first
          | (go_at_call 31; refine (f6same_b _ _ ([] : List Int) _ (Sl.of_own (own_below O_v2.out (by first | (with_reducible exact Below.refl _ _) | go_grown))) (Sl.of_own (own_below O_v3.out (by first | (with_reducible exact Below.refl _ _) | go_grown)))).mono ?_; rintro e w5 ⟨rfl, hb⟩; have b_w5 : Below w4.heap.size w4 w5 := Below.trans (by first | (with_reducible exact Below.refl _ _) | go_grown) (hb.mono (by first | (with_reducible exact Nat.le_refl _) | (with_reducible assumption) | (simp [go_sem]; done) | (simp [go_sem]; omega) | omega)); have y_w5 := b_w5.size; have S_w5 := HSr.out _ b_w5; clear hb)
          | (go_at_call 32; refine (ValidHands_i _ gs h q _ (Sl.of_own (own_below O_v.out (grown_again b_w5 (by first | (with_reducible exact Below.refl _ _) | go_grown))))).mono ?_; rintro e w6 ⟨rfl, hb⟩; have b_w6 : Below w4.heap.size w4 w6 := Below.trans (grown_again b_w5 (by first | (with_reducible exact Below.refl _ _) | go_grown)) (hb.mono (by first | (with_reducible exact Nat.le_refl _) | (with_reducible assumption) | (simp [go_sem]; done) | (simp [go_sem]; omega) | omega)); have y_w6 := b_w6.size; have S_w6 := HSr.out _ b_w6; clear hb)
          | (go_at_call 33; refine (ValidHands_s _ gs h q _ (Sl.of_own (own_below O_v.out (grown_again b_w6 (by first | (with_reducible exact Below.refl _ _) | go_grown))))).mono ?_; rintro e w7 ⟨rfl, hb⟩; have b_w7 : Below w4.heap.size w4 w7 := Below.trans (grown_again b_w6 (by first | (with_reducible exact Below.refl _ _) | go_grown)) (hb.mono (by first | (with_reducible exact Nat.le_refl _) | (with_reducible assumption) | (simp [go_sem]; done) | (simp [go_sem]; omega) | omega)); have y_w7 := b_w7.size; have S_w7 := HSr.out _ b_w7; clear hb))
      all_goals
        replace B_wh := Lib.hid (B_wh.out.below b_w7)
        replace B_st := Lib.hid (B_st.out.below b_w7)
        replace B_x := Lib.hid (B_x.out.below b_w7)
        replace B_y := Lib.hid (B_y.out.below b_w7)
        replace O_v := Lib.hid (own_below O_v.out b_w7)
        replace O_v2 := Lib.hid (own_below O_v2.out b_w7)
        replace O_v3 := Lib.hid (own_below O_v3.out b_w7)
        replace old := Lib.hid (grown_again old.out b_w7)
        clear HSr b_w5 S_w5 y_w5 b_w6 S_w6 y_w6 b_w7 S_w7 y_w7
        clear c_wh_0 l_wh c_st_0 c_st_1 l_st c_x_0 c_x_1 l_x c_y_0 c_y_1 l_y
        go_wp2
        go_ret
        exact ⟨rfl, old.out⟩
    · have H1 := Lib.hid h1
      have H3 := Lib.hid h3
      obtain ⟨hw, hx⟩ := hnB_iff.1 h1
      have HX := Lib.hid hx
      have HW := Lib.hid hw
      obtain ⟨ls, hls⟩ : ∃ ls, ls = mvL gs s h q s.size := ⟨_, rfl⟩
      obtain ⟨me, hme⟩ : ∃ me, me = mvS gs s h q s.size := ⟨_, rfl⟩
      have HLS := Lib.hid hls
      have HME := Lib.hid hme
      have K1 : Hid (∀ v w, Sl w v gs → Calls Tryd.prog 16 #[.agg #[v], .agg #[.int .i64 h, .int .i64 q], .string s] w fun e w' => ∃ v', e = .returned (.tuple #[.agg #[.int .i64 me.1, .int .i64 me.2], v', .int .i64 0]) ∧ w'.ownsRow w.heap.size 2 1 v' ls.length (I64 ls) ∧ Below w.heap.size w w') := fun v w hv => by rw [hls, hme]; exact MoveHands_i0 v gs h q s w hv h1 h2 h3
      have K2 : Hid (∀ v w, Sl w v gs → Calls Tryd.prog 13 #[.agg #[v], .agg #[.int .i64 h, .int .i64 q], .string s] w fun e w' => ∃ v', e = .returned (.tuple #[.agg #[.int .i64 me.1, .int .i64 me.2], v', .int .i64 0]) ∧ w'.ownsRow w.heap.size 2 1 v' ls.length (I64 ls) ∧ Below w.heap.size w w') := fun v w hv => by rw [hls, hme]; exact MoveHands_s0 v gs h q s w hv h1 h2 h3
      have HLC : Hid (ls.length = cntB s s.size) := by show _ = _; rw [hls]; exact mvL_count hw s h q _
      clear h1 h3 hw hx hls hme hsz
      go_wp2_with fail
      refine (K1.out _ _ (Sl.of_own (own_below O_v.out (by first | (with_reducible exact Below.refl _ _) | go_grown)))).mono ?_
      rintro e w2 ⟨v2, rfl, o_v2, hb⟩
      obtain ⟨A_v2, C_v2, rfl⟩ := own_form o_v2
      have b_w2 : Below w1.heap.size w1 w2 := Below.trans (by first | (with_reducible exact Below.refl _ _) | go_grown) (hb.mono (by first | (with_reducible exact Nat.le_refl _) | (with_reducible assumption) | (simp [go_sem]; done) | (simp [go_sem]; omega) | omega))
      replace O_v := Lib.hid (own_below O_v.out b_w2)
      have B_wh : Hid (Blk w2 (w1.heap.size) 31 #[.slice A_v gs.length C_v]) := Blk.below (by first | exact Blk.new _ _ _ | exact (Blk.new _ _ _).alloc _ | (have h := Blk.new (w1) 31 #[.slice A_v gs.length C_v]; simpa using h)) hb
      have B_st : Hid (Blk w2 (w1.heap.size + 1) 28 #[.int .i64 h, .int .i64 q]) := Blk.below (by first | exact Blk.new _ _ _ | exact (Blk.new _ _ _).alloc _ | (have h := Blk.new (w1.alloc (.cells #[.slice A_v gs.length C_v] 31)) 28 #[.int .i64 h, .int .i64 q]; simpa using h)) hb
      replace old := Lib.hid (grown_again old.out b_w2)
      clear hb b_w2
      have O_v2 := Lib.hid o_v2
      clear o_v2
      have c_wh_0 := B_wh.out.cell 0 rfl
      have l_wh := B_wh.out.lt
      have c_st_0 := B_st.out.cell 0 rfl
      have c_st_1 := B_st.out.cell 1 rfl
      have l_st := B_st.out.lt
      go_wp2_with fail
      refine (K2.out _ _ (Sl.of_own (own_below O_v.out (by first | (with_reducible exact Below.refl _ _) | go_grown)))).mono ?_
      rintro e w3 ⟨v3, rfl, o_v3, hb⟩
      obtain ⟨A_v3, C_v3, rfl⟩ := own_form o_v3
      have b_w3 : Below w2.heap.size w2 w3 := Below.trans (by first | (with_reducible exact Below.refl _ _) | go_grown) (hb.mono (by first | (with_reducible exact Nat.le_refl _) | (with_reducible assumption) | (simp [go_sem]; done) | (simp [go_sem]; omega) | omega))
      replace B_wh := Lib.hid (B_wh.out.below b_w3)
      replace B_st := Lib.hid (B_st.out.below b_w3)
      replace O_v := Lib.hid (own_below O_v.out b_w3)
      replace O_v2 := Lib.hid (own_below O_v2.out b_w3)
      have B_x : Hid (Blk w3 (w2.heap.size) 28 #[.int .i64 me.1, .int .i64 me.2]) := Blk.below (by first | exact Blk.new _ _ _ | exact (Blk.new _ _ _).alloc _ | (have h := Blk.new (w2) 28 #[.int .i64 me.1, .int .i64 me.2]; simpa using h)) hb
      replace old := Lib.hid (grown_again old.out b_w3)
      clear hb b_w3
      have O_v3 := Lib.hid o_v3
      clear o_v3
      clear c_wh_0 l_wh c_st_0 c_st_1 l_st
      have c_wh_0 := B_wh.out.cell 0 rfl
      have l_wh := B_wh.out.lt
      have c_st_0 := B_st.out.cell 0 rfl
      have c_st_1 := B_st.out.cell 1 rfl
      have l_st := B_st.out.lt
      have c_x_0 := B_x.out.cell 0 rfl
      have c_x_1 := B_x.out.cell 1 rfl
      have l_x := B_x.out.lt
      go_upto_region 6 with fail
      obtain ⟨w4, hh⟩ : ∃ x : World, x = (w3.alloc (.cells #[.int .i64 me.1, .int .i64 me.2] 28)) := ⟨_, rfl⟩
      have db : Below w3.heap.size w3 w4 := by rw [hh]; go_grown
      have B_y : Hid (Blk w4 (w3.heap.size) 28 #[.int .i64 me.1, .int .i64 me.2]) := by rw [hh]; exact Blk.new _ _ _
      replace B_wh := Lib.hid (B_wh.out.below db)
      replace B_st := Lib.hid (B_st.out.below db)
      replace B_x := Lib.hid (B_x.out.below db)
      replace O_v := Lib.hid (own_below O_v.out db)
      replace O_v2 := Lib.hid (own_below O_v2.out db)
      replace O_v3 := Lib.hid (own_below O_v3.out db)
      replace old := Lib.hid (grown_again old.out db)
      rw [← hh]
      clear hh db
      clear c_wh_0 l_wh c_st_0 c_st_1 l_st c_x_0 c_x_1 l_x
      have c_wh_0 := B_wh.out.cell 0 rfl
      have l_wh := B_wh.out.lt
      have c_st_0 := B_st.out.cell 0 rfl
      have c_st_1 := B_st.out.cell 1 rfl
      have l_st := B_st.out.lt
      have c_x_0 := B_x.out.cell 0 rfl
      have c_x_1 := B_x.out.cell 1 rfl
      have l_x := B_x.out.lt
      have c_y_0 := B_y.out.cell 0 rfl
      have c_y_1 := B_y.out.cell 1 rfl
      have l_y := B_y.out.lt
      go_wp2_with fail
      have HSr := Lib.hid (fun (w' : World) (hb : Below w4.heap.size w4 w') => (⟨(B_x.out.below hb).cell 0 rfl, (B_x.out.below hb).cell 1 rfl, (B_y.out.below hb).cell 0 rfl, (B_y.out.below hb).cell 1 rfl, (B_wh.out.below hb).cell 0 rfl, (B_st.out.below hb).cell 0 rfl, (B_st.out.below hb).cell 1 rfl⟩ : w'.cell? ⟨w2.heap.size, 0, none⟩ = some (.int .i64 me.1) ∧ w'.cell? ⟨w2.heap.size, 1, none⟩ = some (.int .i64 me.2) ∧ w'.cell? ⟨w3.heap.size, 0, none⟩ = some (.int .i64 me.1) ∧ w'.cell? ⟨w3.heap.size, 1, none⟩ = some (.int .i64 me.2) ∧ w'.cell? ⟨w1.heap.size, 0, none⟩ = some (.slice A_v gs.length C_v) ∧ w'.cell? ⟨w1.heap.size + 1, 0, none⟩ = some (.int .i64 h) ∧ w'.cell? ⟨w1.heap.size + 1, 1, none⟩ = some (.int .i64 q)))
      go_region_held3 (fun w' => w'.cell? ⟨w2.heap.size, 0, none⟩ = some (.int .i64 me.1) ∧ w'.cell? ⟨w2.heap.size, 1, none⟩ = some (.int .i64 me.2) ∧ w'.cell? ⟨w3.heap.size, 0, none⟩ = some (.int .i64 me.1) ∧ w'.cell? ⟨w3.heap.size, 1, none⟩ = some (.int .i64 me.2) ∧ w'.cell? ⟨w1.heap.size, 0, none⟩ = some (.slice A_v gs.length C_v) ∧ w'.cell? ⟨w1.heap.size + 1, 0, none⟩ = some (.int .i64 h) ∧ w'.cell? ⟨w1.heap.size + 1, 1, none⟩ = some (.int .i64 q)) (first | assumption | exact HSr.out _ (by go_grown) | go_keep)
        (first
          | (go_at_call 31; refine (f6same_b _ _ (ls) _ (Sl.of_own (own_below O_v2.out (by first | (with_reducible exact Below.refl _ _) | go_grown))) (Sl.of_own (own_below O_v3.out (by first | (with_reducible exact Below.refl _ _) | go_grown)))).mono ?_; rintro e w5 ⟨rfl, hb⟩; have b_w5 : Below w4.heap.size w4 w5 := Below.trans (by first | (with_reducible exact Below.refl _ _) | go_grown) (hb.mono (by first | (with_reducible exact Nat.le_refl _) | (with_reducible assumption) | (simp [go_sem]; done) | (simp [go_sem]; omega) | omega)); have y_w5 := b_w5.size; have S_w5 := HSr.out _ b_w5; clear hb)
          | (go_at_call 32; refine (ValidHands_i _ gs h q _ (Sl.of_own (own_below O_v.out (grown_again b_w5 (by first | (with_reducible exact Below.refl _ _) | go_grown))))).mono ?_; rintro e w6 ⟨rfl, hb⟩; have b_w6 : Below w4.heap.size w4 w6 := Below.trans (grown_again b_w5 (by first | (with_reducible exact Below.refl _ _) | go_grown)) (hb.mono (by first | (with_reducible exact Nat.le_refl _) | (with_reducible assumption) | (simp [go_sem]; done) | (simp [go_sem]; omega) | omega)); have y_w6 := b_w6.size; have S_w6 := HSr.out _ b_w6; clear hb)
          | (go_at_call 33; refine (ValidHands_s _ gs h q _ (Sl.of_own (own_below O_v.out (grown_again b_w6 (by first | (with_reducible exact Below.refl _ _) | go_grown))))).mono ?_; rintro e w7 ⟨rfl, hb⟩; have b_w7 : Below w4.heap.size w4 w7 := Below.trans (grown_again b_w6 (by first | (with_reducible exact Below.refl _ _) | go_grown)) (hb.mono (by first | (with_reducible exact Nat.le_refl _) | (with_reducible assumption) | (simp [go_sem]; done) | (simp [go_sem]; omega) | omega)); have y_w7 := b_w7.size; have S_w7 := HSr.out _ b_w7; clear hb))
      all_goals
        replace B_wh := Lib.hid (B_wh.out.below b_w7)
        replace B_st := Lib.hid (B_st.out.below b_w7)
        replace B_x := Lib.hid (B_x.out.below b_w7)
        replace B_y := Lib.hid (B_y.out.below b_w7)
        replace O_v := Lib.hid (own_below O_v.out b_w7)
        replace O_v2 := Lib.hid (own_below O_v2.out b_w7)
        replace O_v3 := Lib.hid (own_below O_v3.out b_w7)
        replace old := Lib.hid (grown_again old.out b_w7)
        clear HSr b_w5 S_w5 y_w5 b_w6 S_w6 y_w6 b_w7 S_w7 y_w7
        clear c_wh_0 l_wh c_st_0 c_st_1 l_st c_x_0 c_x_1 l_x c_y_0 c_y_1 l_y
        have c_wh_0 := B_wh.out.cell 0 rfl
        have l_wh := B_wh.out.lt
        have c_st_0 := B_st.out.cell 0 rfl
        have c_st_1 := B_st.out.cell 1 rfl
        have l_st := B_st.out.lt
        have c_x_0 := B_x.out.cell 0 rfl
        have c_x_1 := B_x.out.cell 1 rfl
        have l_x := B_x.out.lt
        have c_y_0 := B_y.out.cell 0 rfl
        have c_y_1 := B_y.out.cell 1 rfl
        have l_y := B_y.out.lt
        go_wp2_with fail
        refine (f6roll_any vb bs W _ HV.out (grown_again old.out (by first | (with_reducible exact Below.refl _ _) | go_grown)) _ rfl _ (by decide) (by decide)).mono ?_
        rintro e w8 ⟨rfl, hd, hb⟩
        have HD := Lib.hid hd
        have BA : Hid (Below w7.heap.size w7 w8) := Below.trans (by first | (with_reducible exact Below.refl _ _) | go_grown) (hb.mono (by first | (with_reducible exact Nat.le_refl _) | (with_reducible assumption) | (simp [go_sem]; done) | (simp [go_sem]; omega) | omega))
        clear hd hb
        go_wp2_with fail
        refine (below_any W _ _ vb bs HD.out _ (by omega) (by omega)).mono ?_
        rintro e w9 ⟨at_, ⟨at0, at1⟩, rfl, _, hgd⟩
        have hb := BA.out.trans (below_of_grown hgd BA.out.size (fun j hj => by cases hj; exact Nat.le_refl _))
        clear hgd BA HD
        have b_w9 : Below w7.heap.size w7 w9 := Below.trans (by first | (with_reducible exact Below.refl _ _) | go_grown) (hb.mono (by first | (with_reducible exact Nat.le_refl _) | (with_reducible assumption) | (simp [go_sem]; done) | (simp [go_sem]; omega) | omega))
        replace B_wh := Lib.hid (B_wh.out.below b_w9)
        replace B_st := Lib.hid (B_st.out.below b_w9)
        replace B_x := Lib.hid (B_x.out.below b_w9)
        replace B_y := Lib.hid (B_y.out.below b_w9)
        replace O_v := Lib.hid (own_below O_v.out b_w9)
        replace O_v2 := Lib.hid (own_below O_v2.out b_w9)
        replace O_v3 := Lib.hid (own_below O_v3.out b_w9)
        replace old := Lib.hid (grown_again old.out b_w9)
        clear hb b_w9
        obtain ⟨T, rfl⟩ := Int.eq_ofNat_of_zero_le at0
        have hT : T ≤ s.size := by omega
        obtain ⟨s1, hs1⟩ : ∃ s1, s.extract 0 T = s1 := ⟨_, rfl⟩
        obtain ⟨s2, hs2⟩ : ∃ s2, s.extract T s.size = s2 := ⟨_, rfl⟩
        have HE1 := Lib.hid hs1
        have HE2 := Lib.hid hs2
        have hz1 : s1.size = T := by rw [← hs1, size_ext hT]; omega
        have hz2 : s2.size = s.size - T := by rw [← hs2, size_ext (Nat.le_refl _)]
        have hk1 : knB s1 = true := by rw [← hs1]; exact knB_ext hT H3.out
        have hk2 : knB s2 = true := by rw [← hs2]; exact knB_ext (Nat.le_refl _) H3.out
        have hp1 := mv_pre (gs := gs) (s := s) (s1 := s1) (h := h) (q := q) (n := T) (fun j hj => by rw [← hs1, bY_ext hT (by omega), Nat.zero_add]) T (Nat.le_refl _)
        have hp2 := mv_suf (gs := gs) (s := s) (s2 := s2) (h := h) (q := q) (T := T) (n := s.size - T) (fun j hj => by rw [← hs2, bY_ext (Nat.le_refl _) (by omega)]) (s.size - T) (Nat.le_refl _)
        rw [show T + (s.size - T) = s.size by omega] at hp2
        obtain ⟨m1, hm1⟩ : ∃ m1, m1 = mvS gs s h q T := ⟨_, rfl⟩
        obtain ⟨l1, hl1⟩ : ∃ l1, l1 = mvL gs s h q T := ⟨_, rfl⟩
        obtain ⟨l2, hl2⟩ : ∃ l2, l2 = mvL gs s2 m1.1 m1.2 (s.size - T) := ⟨_, rfl⟩
        have hmv : hnB gs m1.1 m1.2 = true := hnB_iff.2 ⟨HW.out, by rw [hm1]; exact mvS_in (whB_iff.1 HW.out).2.1 s HX.out T⟩
        rw [← hm1, ← hl1] at hp1 hp2
        rw [← hl2, ← HME.out, ← HLS.out] at hp2
        have HL12 : Hid (l1 ++ l2 = ls) := hp2.2
        have K3 : Hid (∀ v w, Sl w v gs → Calls Tryd.prog 16 #[.agg #[v], .agg #[.int .i64 h, .int .i64 q], .string s1] w fun e w' => ∃ v', e = .returned (.tuple #[.agg #[.int .i64 m1.1, .int .i64 m1.2], v', .int .i64 0]) ∧ w'.ownsRow w.heap.size 2 1 v' l1.length (I64 l1) ∧ Below w.heap.size w w') := fun v w hv => by
          have := MoveHands_i0 v gs h q s1 w hv H1.out (by omega) hk1
          rwa [hz1, hp1.1, hp1.2] at this
        have K4 : Hid (∀ v w, Sl w v gs → Calls Tryd.prog 16 #[.agg #[v], .agg #[.int .i64 m1.1, .int .i64 m1.2], .string s2] w fun e w' => ∃ v', e = .returned (.tuple #[.agg #[.int .i64 me.1, .int .i64 me.2], v', .int .i64 0]) ∧ w'.ownsRow w.heap.size 2 1 v' l2.length (I64 l2) ∧ Below w.heap.size w w') := fun v w hv => by
          have := MoveHands_i0 v gs m1.1 m1.2 s2 w hv hmv (by omega) hk2
          rwa [hz2, hp2.1, ← hl2] at this
        have hTs : (T : Int) ≤ (s.size : Int) := by omega
        have hT0 : (0 : Int) ≤ (T : Int) := by omega
        have hTn : ((T : Int)).toNat = T := by omega
        have hl1n : l1.length ≤ 60 := by rw [hl1]; have := mvL_length gs s h q T; omega
        have hl2n : l2.length ≤ 60 := by rw [hl2]; have := mvL_length gs s2 m1.1 m1.2 (s.size - T); omega
        clear hp1 hp2 hm1 hl1 hl2 hk1 hk2 hz1 hz2 hmv at0 at1 HLS HME
        clear c_wh_0 l_wh c_st_0 c_st_1 l_st c_x_0 c_x_1 l_x c_y_0 c_y_1 l_y
        have c_wh_0 := B_wh.out.cell 0 rfl
        have l_wh := B_wh.out.lt
        have c_st_0 := B_st.out.cell 0 rfl
        have c_st_1 := B_st.out.cell 1 rfl
        have l_st := B_st.out.lt
        have c_x_0 := B_x.out.cell 0 rfl
        have c_x_1 := B_x.out.cell 1 rfl
        have l_x := B_x.out.lt
        have c_y_0 := B_y.out.cell 0 rfl
        have c_y_1 := B_y.out.cell 1 rfl
        have l_y := B_y.out.lt
        go_upto_region 11 with (fail)
        go_cut [13, 14, 15] (fun a0 a1 a2 wr => ∃ (gm : Nat) (vm : Value), a0 = .pointer (some ⟨gm, 0, none⟩) ∧ vm = a1 ∧ a2 = .int .i64 0 ∧ (w9.heap.size ≤ gm ∧ gm < wr.heap.size) ∧ wr.cell? ⟨gm, 0, none⟩ = some (.int .i64 m1.1) ∧ wr.cell? ⟨gm, 1, none⟩ = some (.int .i64 m1.2) ∧ wr.ownsRow w9.heap.size 2 1 vm l1.length (I64 l1) ∧ Below w9.heap.size w9 wr)
        case first =>
          have HSr := Lib.hid (fun (w' : World) (hb : Below w9.heap.size w9 w') => (⟨(B_wh.out.below hb).cell 0 rfl, (B_st.out.below hb).cell 0 rfl, (B_st.out.below hb).cell 1 rfl⟩ : w'.cell? ⟨w1.heap.size, 0, none⟩ = some (.slice A_v gs.length C_v) ∧ w'.cell? ⟨w1.heap.size + 1, 0, none⟩ = some (.int .i64 h) ∧ w'.cell? ⟨w1.heap.size + 1, 1, none⟩ = some (.int .i64 q)))
          go_region_held3 (fun w' => w'.cell? ⟨w1.heap.size, 0, none⟩ = some (.slice A_v gs.length C_v) ∧ w'.cell? ⟨w1.heap.size + 1, 0, none⟩ = some (.int .i64 h) ∧ w'.cell? ⟨w1.heap.size + 1, 1, none⟩ = some (.int .i64 q)) (first | assumption | (refine HSr.out _ ?_; go_grown; done) | ((try dsimp only); (repeat' apply And.intro) <;> (first | assumption | (simp [go_sem, *]; done))) | go_keep)
            ((go_at_call 16; refine (K3.out _ _ (Sl.of_own (own_below O_v.out (by first | (with_reducible exact Below.refl _ _) | go_grown)))).mono ?_; rintro e wn ⟨vn, rfl, on, hb2⟩; obtain ⟨An, Cn, rfl⟩ := own_form on; have BN : Below w9.heap.size w9 wn := Below.trans (by first | (with_reducible exact Below.refl _ _) | go_grown) (hb2.mono (by first | (with_reducible exact Nat.le_refl _) | (with_reducible assumption) | (simp [go_sem]; done) | (simp [go_sem]; omega) | omega)); have SN := HSr.out wn BN; have yn := BN.size; obtain ⟨hcn, hfn⟩ := bcell hb2; (try (have an : w9.heap.size < wn.heap.size := Nat.lt_of_lt_of_le (by first | assumption | (simp [go_sem]; done) | (simp only [go_sem]; omega) | (simp [go_sem]; omega)) hb2.size)); clear hb2))
          all_goals (go_wp2_with fail; go_meet)
          all_goals refine ⟨_, .slice An l1.length Cn, rfl, rfl, rfl, ⟨?_, ?_⟩, ?_, ?_, ?_, ?_⟩
          all_goals first
            | (with_reducible exact Nat.le_refl _) | (with_reducible assumption)
            | (go_grown; done)
            | (simp [go_sem, *]; done)
            | ((repeat' first | exact own_mono on (by first | (with_reducible exact Nat.le_refl _) | (with_reducible assumption) | (simp [go_sem]; done) | (simp [go_sem]; omega) | omega) | refine own_far ?_ ?_ _ | refine World.ownsRow.alloc ?_ _); all_goals (exact own_ne on (Or.inl (by first | assumption | (simp; done) | omega))); done)
            | (simp; omega)
        case rest =>
          obtain ⟨w10, rfl⟩ : ∃ x : World, x = wc := ⟨_, rfl⟩
          obtain ⟨gm, v5, rfl, rfl, rfl, ⟨g0, g1⟩, e0, e1, o_v5, hb⟩ := hcut
          obtain ⟨A_v5, C_v5, rfl⟩ := own_form o_v5
          have b_w10 : Below w9.heap.size w9 w10 := Below.trans (by first | (with_reducible exact Below.refl _ _) | go_grown) (hb.mono (by first | (with_reducible exact Nat.le_refl _) | (with_reducible assumption) | (simp [go_sem]; done) | (simp [go_sem]; omega) | omega))
          replace B_wh := Lib.hid (B_wh.out.below b_w10)
          replace B_st := Lib.hid (B_st.out.below b_w10)
          replace B_x := Lib.hid (B_x.out.below b_w10)
          replace B_y := Lib.hid (B_y.out.below b_w10)
          replace O_v := Lib.hid (own_below O_v.out b_w10)
          replace O_v2 := Lib.hid (own_below O_v2.out b_w10)
          replace O_v3 := Lib.hid (own_below O_v3.out b_w10)
          replace old := Lib.hid (grown_again old.out b_w10)
          clear hb b_w10
          have O_v5 := Lib.hid o_v5
          have B_m := Lib.hid (Cels.two g1 e0 e1)
          clear o_v5 g0 g1 e0 e1
          clear c_wh_0 l_wh c_st_0 c_st_1 l_st c_x_0 c_x_1 l_x c_y_0 c_y_1 l_y
          have c_wh_0 := B_wh.out.cell 0 rfl
          have l_wh := B_wh.out.lt
          have c_st_0 := B_st.out.cell 0 rfl
          have c_st_1 := B_st.out.cell 1 rfl
          have l_st := B_st.out.lt
          have c_x_0 := B_x.out.cell 0 rfl
          have c_x_1 := B_x.out.cell 1 rfl
          have l_x := B_x.out.lt
          have c_y_0 := B_y.out.cell 0 rfl
          have c_y_1 := B_y.out.cell 1 rfl
          have l_y := B_y.out.lt
          have c_m_0 := B_m.out.cell 0 rfl
          have c_m_1 := B_m.out.cell 1 rfl
          have l_m := B_m.out.lt
          go_upto_region 12 with (fail)
          go_cut [16, 17, 18] (fun a0 a1 a2 wr => ∃ (gm : Nat) (vm : Value), a0 = .pointer (some ⟨gm, 0, none⟩) ∧ vm = a1 ∧ a2 = .int .i64 0 ∧ (w10.heap.size ≤ gm ∧ gm < wr.heap.size) ∧ wr.cell? ⟨gm, 0, none⟩ = some (.int .i64 me.1) ∧ wr.cell? ⟨gm, 1, none⟩ = some (.int .i64 me.2) ∧ wr.ownsRow w10.heap.size 2 1 vm l2.length (I64 l2) ∧ Below w10.heap.size w10 wr)
          case first =>
            have HSr := Lib.hid (fun (w' : World) (hb : Below w10.heap.size w10 w') => (⟨(B_wh.out.below hb).cell 0 rfl, (B_m.out.below hb).cell 0 rfl, (B_m.out.below hb).cell 1 rfl⟩ : w'.cell? ⟨w1.heap.size, 0, none⟩ = some (.slice A_v gs.length C_v) ∧ w'.cell? ⟨gm, 0, none⟩ = some (.int .i64 m1.1) ∧ w'.cell? ⟨gm, 1, none⟩ = some (.int .i64 m1.2)))
            go_region_held3 (fun w' => w'.cell? ⟨w1.heap.size, 0, none⟩ = some (.slice A_v gs.length C_v) ∧ w'.cell? ⟨gm, 0, none⟩ = some (.int .i64 m1.1) ∧ w'.cell? ⟨gm, 1, none⟩ = some (.int .i64 m1.2)) (first | assumption | (refine HSr.out _ ?_; go_grown; done) | ((try dsimp only); (repeat' apply And.intro) <;> (first | assumption | (simp [go_sem, *]; done))) | go_keep)
              ((go_at_call 16; refine (K4.out _ _ (Sl.of_own (own_below O_v.out (by first | (with_reducible exact Below.refl _ _) | go_grown)))).mono ?_; rintro e wn ⟨vn, rfl, on, hb2⟩; obtain ⟨An, Cn, rfl⟩ := own_form on; have BN : Below w10.heap.size w10 wn := Below.trans (by first | (with_reducible exact Below.refl _ _) | go_grown) (hb2.mono (by first | (with_reducible exact Nat.le_refl _) | (with_reducible assumption) | (simp [go_sem]; done) | (simp [go_sem]; omega) | omega)); have SN := HSr.out wn BN; have yn := BN.size; obtain ⟨hcn, hfn⟩ := bcell hb2; (try (have an : w10.heap.size < wn.heap.size := Nat.lt_of_lt_of_le (by first | assumption | (simp [go_sem]; done) | (simp only [go_sem]; omega) | (simp [go_sem]; omega)) hb2.size)); clear hb2))
            all_goals (go_wp2_with fail; go_meet)
            all_goals refine ⟨_, .slice An l2.length Cn, rfl, rfl, rfl, ⟨?_, ?_⟩, ?_, ?_, ?_, ?_⟩
            all_goals first
              | (with_reducible exact Nat.le_refl _) | (with_reducible assumption)
              | (go_grown; done)
              | (simp [go_sem, *]; done)
              | ((repeat' first | exact own_mono on (by first | (with_reducible exact Nat.le_refl _) | (with_reducible assumption) | (simp [go_sem]; done) | (simp [go_sem]; omega) | omega) | refine own_far ?_ ?_ _ | refine World.ownsRow.alloc ?_ _); all_goals (exact own_ne on (Or.inl (by first | assumption | (simp; done) | omega))); done)
              | (simp; omega)
          case rest =>
            obtain ⟨w11, rfl⟩ : ∃ x : World, x = wc := ⟨_, rfl⟩
            obtain ⟨gn, v6, rfl, rfl, rfl, ⟨g0, g1⟩, e0, e1, o_v6, hb⟩ := hcut
            obtain ⟨A_v6, C_v6, rfl⟩ := own_form o_v6
            have b_w11 : Below w10.heap.size w10 w11 := Below.trans (by first | (with_reducible exact Below.refl _ _) | go_grown) (hb.mono (by first | (with_reducible exact Nat.le_refl _) | (with_reducible assumption) | (simp [go_sem]; done) | (simp [go_sem]; omega) | omega))
            replace B_wh := Lib.hid (B_wh.out.below b_w11)
            replace B_st := Lib.hid (B_st.out.below b_w11)
            replace B_x := Lib.hid (B_x.out.below b_w11)
            replace B_y := Lib.hid (B_y.out.below b_w11)
            replace B_m := Lib.hid (B_m.out.below b_w11)
            replace O_v := Lib.hid (own_below O_v.out b_w11)
            replace O_v2 := Lib.hid (own_below O_v2.out b_w11)
            replace O_v3 := Lib.hid (own_below O_v3.out b_w11)
            replace O_v5 := Lib.hid (own_below O_v5.out b_w11)
            replace old := Lib.hid (grown_again old.out b_w11)
            clear hb b_w11
            have O_v6 := Lib.hid o_v6
            have B_n := Lib.hid (Cels.two g1 e0 e1)
            clear o_v6 g0 g1 e0 e1
            clear c_wh_0 l_wh c_st_0 c_st_1 l_st c_x_0 c_x_1 l_x c_y_0 c_y_1 l_y c_m_0 c_m_1 l_m
            have c_wh_0 := B_wh.out.cell 0 rfl
            have l_wh := B_wh.out.lt
            have c_st_0 := B_st.out.cell 0 rfl
            have c_st_1 := B_st.out.cell 1 rfl
            have l_st := B_st.out.lt
            have c_x_0 := B_x.out.cell 0 rfl
            have c_x_1 := B_x.out.cell 1 rfl
            have l_x := B_x.out.lt
            have c_y_0 := B_y.out.cell 0 rfl
            have c_y_1 := B_y.out.cell 1 rfl
            have l_y := B_y.out.lt
            have c_m_0 := B_m.out.cell 0 rfl
            have c_m_1 := B_m.out.cell 1 rfl
            have l_m := B_m.out.lt
            have c_n_0 := B_n.out.cell 0 rfl
            have c_n_1 := B_n.out.cell 1 rfl
            have l_n := B_n.out.lt
            have hcl := cntB_le s s.size
            go_wp2_with fail
            go_loopw [19, 20] (fun a19 a20 wr => ∃ j : Nat, j ≤ s.size ∧ a20 = .int .i64 (j : Int) ∧ a19 = .int .i64 (cntB s j : Int) ∧ w11 = wr) (fun _ a _ => s.size - (intOf a).toNat)
            case atStart => exact ⟨0, by omega, by go_num, rfl, rfl⟩
            case round =>
              obtain ⟨j, hj, rfl, rfl, hw⟩ := hrel
              subst hw
              have hcj := cntB_le s j
              by_cases hlt : j < s.size
              · have i1 : (j : Int) < (s.size : Int) := by omega
                have eb : bY s j = s[j] := by rw [bY_eq hlt]; rfl
                by_cases hb : bY s j = 98
                · have e1 : ((s[j]'hlt).toNat : Int) = 98 := by rw [← eb, hb]; rfl
                  have HC := Lib.hid (cntB_b hb)
                  clear hb eb
                  go_wp2_with fail
                  go_roundw
                  case rel => exact ⟨j + 1, by omega, by go_num, by rw [HC.out], trivial⟩
                  case measure => simp [intOf]; omega
                · have e1 : ¬ ((s[j]'hlt).toNat : Int) = 98 := fun e => hb (by
                    rw [eb]
                    have : s[j].toNat = 98 := by omega
                    exact UInt8.toNat_inj.1 this)
                  have HC := Lib.hid (cntB_n hb)
                  clear hb eb
                  go_wp2_with fail
                  go_roundw
                  case rel => exact ⟨j + 1, by omega, by go_num, by rw [HC.out]; go_num, trivial⟩
                  case measure => simp [intOf]; omega
              · obtain rfl : j = s.size := by omega
                have elen : ((ls.length : Int) == (cntB s s.size : Int)) = true := by rw [HLC.out]; simp
                have HO0 := Lib.hid (own_lit0 (base := w11.heap.size) w11 w11.heap.size rfl (Nat.le_refl _) 2)
                go_wp2_with (first
                  | (at_builtin; refine wpList_appG (by first | rfl | (simp [Region.wanted, yielded]; done)) _ _ rfl w11.heap.size (.slice (some ⟨w11.heap.size, 0, none⟩) 0 0) [] rfl HO0.out (.slice A_v5 l1.length C_v5) rfl l1 ((Sl.of_own O_v5.out).below (by go_grown)) l1 rfl (by decide) (by omega) (by simp) ?_; intro v7 wA ho7 hb7 hg7; obtain ⟨A7, C7, rfl⟩ := own_form ho7; have HO7 := Lib.hid ho7; have HBA : Hid (Below w11.heap.size w11 wA) := Below.trans (by go_grown) hb7; have zA := HBA.out.size; clear ho7 hb7 hg7)
                  | (at_builtin; refine wpList_appG (by first | rfl | (simp [Region.wanted, yielded]; done)) _ _ rfl w11.heap.size (.slice A7 l1.length C7) l1 rfl HO7.out (.slice A_v6 l2.length C_v6) rfl l2 ((Sl.of_own O_v6.out).below HBA.out) ls HL12.out (by omega) (by omega) (by omega) ?_; intro v8 wB ho8 hb8 hg8; have HO8 := Lib.hid ho8; have HBB : Hid (Below w11.heap.size w11 wB) := HBA.out.trans hb8; clear ho8 hb8 hg8)
                  | (go_at_call 31; refine (f6same_b _ _ ls _ (Sl.of_own HO8.out) ((Sl.of_own O_v2.out).below HBB.out)).mono ?_; rintro e wC ⟨rfl, hb⟩; have HBC : Hid (Below w11.heap.size w11 wC) := HBB.out.trans (hb.mono HBB.out.size); clear hb))
                go_ret
                exact ⟨rfl, grown_again old.out HBC.out⟩

set_option maxRecDepth 100000 in
theorem fnMovedHands_lifted (os : Os) (started : os.Started) (H : Type) (enc : TypeId × Value → H) :
    ReturnsInHanded {} Tryd.checked os 7 .any (fun w args => (Rows.fnMovedHandsSpec.pre enc Tryd.prog Tryd.f7 Rows.fnMovedHandsRow.domain false w args ∧ laidMetH Tryd.prog Rows.fnMovedHandsRow.laid w) ∧ sizedMet enc Tryd.prog Tryd.f7 (OpenSpec.ofChange Rows.fnMovedHandsSpec) false w args)
      (Rows.fnMovedHandsSpec.post enc Tryd.prog Tryd.f7 false true false false) := by
  refine returnsInHanded_of_change_and (C := Tryd.checked) (X := fun w _ => laidMetH Tryd.prog Rows.fnMovedHandsRow.laid w) (fun _ _ _ hh h => h.of_heap hh) Tryd.own started (by kernel_rfl) Tryd.func7
    (ChangeSpec.witness_shaped (enc := enc) (C := Tryd.checked) (os := os) (X := fun w _ => laidMetH Tryd.prog Rows.fnMovedHandsRow.laid w) false (World.laidAll Tryd.prog os Rows.fnMovedHandsRow.laid) #[.slice none 0 0] 8 (World.laidAll_os _ _ _)
      (World.shaped_of_ZipB (by kernel_rfl) (by kernel_rfl)) (by kernel_rfl) (by kernel_rfl) (by kernel_rfl)
      (by rw [MakeChecks.laidMetH_plain _ _ _ (by kernel_rfl)]; exact laidMet_laidAll _ (by kernel_rfl) (by kernel_rfl))) ?_
  intro W base args ds gs before hval0 hW hcnd _ _ _
  have hval : ∀ (j : Nat) t v, Tryd.f7.params[j]? = some t → args[j]? = some v → Value.okWide Tryd.prog W .any base t v := hval0
  have hW' := hW
  have hltB : ∀ x ∈ before, x.block < W.heap.size := fun x hx => hW.lt x hx
  obtain ⟨p, q, hA0, hV, rfl, hfz, hnd⟩ := hW
  have hA : DataW.TrodAll enc Tryd.prog W 0 (fun _ => true) true Tryd.f7.params.toList args.toList ds p := hA0
  rw [Tryd.params7] at hA hval
  obtain ⟨v0, vs0, d0, ds0, p0, q0, hargs, rfl, rfl, h0, r0⟩ := trodAll_cons hA
  obtain ⟨rfl, rfl, rfl⟩ := trodAll_nil r0
  obtain rfl : args = #[v0] := by cases args; simp_all
  clear hA0 hval0 hA hcnd hfz hnd
  have hlt0 : ∀ x ∈ p0, x.block < W.heap.size := fun x hx => hltB x (by simp [hx])
  obtain ⟨a0, n0, c0, rfl⟩ := okWide_slice Tryd.underlying44 (hval 0 44 v0 rfl rfl)
  obtain ⟨fu0, hf0⟩ := h0
  obtain ⟨bs, hbs, _⟩ := trod_bytes Tryd.underlying44 Tryd.underlying5 (by kernel_rfl) hf0 hlt0
  refine (movedHands_walk _ bs W hbs).mono fun e W' ⟨he, hb⟩ => ?_
  subst he
  exact ⟨_, rfl, post_law Tryd.laidOut hW' rfl rfl (by kernel_rfl) (by kernel_rfl) Tryd.underlying4 hb⟩

set_option maxHeartbeats 2000000 in
theorem fnMovedHands_facts : joinedFacts Tryd.prog 7 Tryd.f7 Rows.fnMovedHandsSpec Rows.fnMovedHandsRow = true := by
  unfold joinedFacts
  simp only [Bool.and_eq_true]
  repeat' apply And.intro
  all_goals first | with_reducible exact Tryd.laidOut | with_reducible exact Tryd.g2 | with_reducible exact Tryd.g24 | with_reducible exact Tryd.g25 | (rw [Tryd.g26]; rfl) | (rw [Tryd.g27]; rfl) | as_aux_lemma => kernel_rfl
/-- The statement. -/
theorem fnMovedHands_holds : Rows.FnMovedHandsSaid :=
  OpenClaim.holds_of_wide 7 Tryd.f7 rfl rfl rfl rfl rfl rfl rfl ⟨rfl, rfl, rfl, rfl, rfl⟩ rfl rfl rfl rfl rfl (by as_aux_lemma => kernel_rfl) Tryd.func7 fnMovedHands_facts
    (by as_aux_lemma => exact of_decide_eq_true (by kernel_rfl)) (by as_aux_lemma => unfold Func.isWrapper; rw [if_neg (of_decide_eq_false (by kernel_rfl))]; exact ⟨rfl, rfl⟩)
    (fun os started H enc _ => fnMovedHands_lifted os started H enc)
/-- The card. -/
theorem fnMovedHands_card : Rows.FnMovedHandsCardSaid :=
  Claim7.holds_tied_plain_at .later [] [.data, .pinned] true (true, "a60b9ccea365084ae19031547614f694475d4502188d491dabf98e0fff8eab37") false fnMovedHands_holds (fun _ h => by cases h) (by kernel_rfl) (fun _ h => by cases h) fnMovedHands_row_tie rfl ⟨rfl, rfl⟩ (by kernel_rfl) rfl
    (fun f fn hf hfn => by
      obtain rfl : f = 7 := Option.some.inj ((show Tryd.prog.funcNamed "loop.example/g00921/laws.FnMovedHands" = some 7 by kernel_rfl).symm.trans hf) |>.symm
      obtain rfl : fn = Tryd.f7 := (Option.some.inj (Tryd.func7.symm.trans hfn)).symm
      exact ⟨by kernel_rfl, fun j t ht => by
        rw [Tryd.params7] at ht
        have hm : t ∈ [44] := by simpa using Array.mem_of_getElem? ht
        have hall : ([44].all fun u => !Tryd.prog.wantsStandIn u) = true := by kernel_rfl
        exact (show Tryd.prog.wantsStandIn t = false by simpa using List.all_eq_true.1 hall t hm)⟩)
    (by kernel_rfl)
#print axioms fnMovedHands_card
end Go.Proofs.YtfddibdncniekaaDoor
