/- FnExactMoveHands is proved: for every wheel, state and text the program's MoveHands and the reference's return the same state, list and number, the wheel is not changed, and what is returned shares no memory with anything else. No condition. -/
import Derived.Test.YtfddibdncniekaaDoorHnN
import Derived.Test.YtfddibdncniekaaDoorStCountWheel
import Derived.Test.YtfddibdncniekaaDoorSiHandState
import Derived.Test.YtfddibdncniekaaDoorCpy
import Derived.Test.YtfddibdncniekaaDoorRowF
import Derived.Test.YtfddibdncniekaaDoorBx
import Derived.Test.YtfddibdncniekaaDoorRow1
import Derived.Test.YtfddibdncniekaaDoorCards
import Derived.Test.YtfddibdncniekaaDoorTie
import Derived.OpenShut
import Derived.LaidMore
import Derived.Lay
import Derived.SevenTiedAt
import Derived.Stop.Joined
import Derived.ChangeMaps5
import Derived.Deep.RegionHeld3
import Derived.Deep.DeepCutAuto
namespace Go.Proofs.YtfddibdncniekaaDoor
open Go.ChangeShapes Go.WideShapes Go.ChangeAt Go.RowKit
attribute [local go_sem ↓] Go.wp_at_zero Go.wp_at_succ

set_option maxRecDepth 100000 in
set_option maxHeartbeats 16000000 in
theorem exactMoveHands_walk (v : Value) (gs : List Int) (s : ByteArray) (sh sq : Int) (W : World) (hv_v : Sl W v gs) :
    Calls Tryd.prog 3 #[.agg #[v], .agg #[.int .i64 sh, .int .i64 sq], .string s] W fun e W' => e = .returned (.bool true) ∧ Below W.heap.size W W' := by
  have HV_v := Lib.hid hv_v
  clear hv_v
  by_cases hl_s : s.size ≤ 1048576
  · skip
    by_cases hl_gs : gs.length ≤ 1048576
    · skip
      obtain ⟨ra, rb, rl, rc, hL_rl, HFI, HFS⟩ := MoveHands_both gs sh sq s (by omega)
      have HI := Lib.hid HFI
      have HS := Lib.hid HFS
      clear HFI HFS
      go_enter Tryd.func3, Tryd.ntmps3
      have kk := bx2 W 24 26 #[v] #[.int .i64 sh, .int .i64 sq]
      obtain ⟨k0, k1⟩ := kk
      have KH0 := Lib.hid k0
      have KH1 := Lib.hid k1
      clear k0 k1
      go_wp2_with fail
      refine (szCountWheel_fits v gs _ _ (HV_v.out.below (by first | (with_reducible exact Below.refl _ _) | go_grown)) (by omega) (by omega)).mono ?_
      rintro e w1 ⟨rfl, hb⟩
      have x0 := KH0.out.below hb
      have c0_0 : w1.cell? ⟨W.heap.size, 0, none⟩ = some (v) := x0.cell 0 rfl
      have l0 := x0.lt
      clear x0 KH0
      have Q0 := Lib.hid l0
      have x1 := KH1.out.below hb
      have c1_0 : w1.cell? ⟨W.heap.size + 1, 0, none⟩ = some (.int .i64 sh) := x1.cell 0 rfl
      have c1_1 : w1.cell? ⟨W.heap.size + 1, 1, none⟩ = some (.int .i64 sq) := x1.cell 1 rfl
      have l1 := x1.lt
      clear x1 KH1
      have Q1 := Lib.hid l1
      have old : Below W.heap.size W w1 := Below.trans (by first | exact Below.refl _ _ | go_grown) (hb.mono (by first | (with_reducible exact Nat.le_refl _) | (with_reducible assumption) | (simp [go_sem]; done) | (simp [go_sem]; omega) | omega))
      have z_w1 := old.size
      clear hb
      go_upto_region 7 with (fail)
      go_cut [8, 9, 10] (fun a8 a9 a10 wr => ∃ (gw_0 : Nat) (vw_1 : Value), a8 = .pointer (some ⟨gw_0, 0, none⟩) ∧ vw_1 = a9 ∧ a10 = .int .i64 rc ∧ (w1.heap.size ≤ gw_0 ∧ gw_0 < wr.heap.size) ∧ wr.cell? ⟨gw_0, 0, none⟩ = some (.int .i64 ra) ∧ wr.cell? ⟨gw_0, 1, none⟩ = some (.int .i64 rb) ∧ wr.ownsRow w1.heap.size 2 1 vw_1 rl.length (I64 rl) ∧ some gw_0 ≠ vw_1.ownBlock ∧ Below w1.heap.size w1 wr)
      case first =>
        have HSr := Lib.hid (fun (w' : World) (hb : Below w1.heap.size w1 w') => (⟨(hb.cell (p := ⟨W.heap.size, 0, none⟩) l0).trans c0_0, (hb.cell (p := ⟨W.heap.size + 1, 0, none⟩) l1).trans c1_0, (hb.cell (p := ⟨W.heap.size + 1, 1, none⟩) l1).trans c1_1⟩ : w'.cell? ⟨W.heap.size, 0, none⟩ = some (v) ∧ w'.cell? ⟨W.heap.size + 1, 0, none⟩ = some (.int .i64 sh) ∧ w'.cell? ⟨W.heap.size + 1, 1, none⟩ = some (.int .i64 sq)))
        have b_w1 := Below.refl w1.heap.size w1
        go_region_held3 (fun w' => w'.cell? ⟨W.heap.size, 0, none⟩ = some (v) ∧ w'.cell? ⟨W.heap.size + 1, 0, none⟩ = some (.int .i64 sh) ∧ w'.cell? ⟨W.heap.size + 1, 1, none⟩ = some (.int .i64 sq)) (first | assumption | exact HSr.out _ (by go_grown) | go_keep)
          (first
            | (go_at_call 14; refine (toCountWheel_any v gs _ (HV_v.out.below (grown_again old (by first | (with_reducible exact Below.refl _ _) | go_grown))) hl_gs).mono ?_; rintro e w2 ⟨uw2, rfl, o_uw2, hb⟩; have b_w2 : Below w1.heap.size w1 w2 := Below.trans (grown_again b_w1 (by first | (with_reducible exact Below.refl _ _) | go_grown)) (hb.mono (by first | (with_reducible exact Nat.le_refl _) | (with_reducible assumption) | (simp [go_sem]; done) | (simp [go_sem]; omega) | omega)); have y_w2 := b_w2.size; (try (have a_w2_w1 : w1.heap.size < w2.heap.size := Nat.lt_of_lt_of_le (by first | assumption | (simp [go_sem]; done) | (simp only [go_sem]; omega) | (simp [go_sem]; omega)) hb.size)); obtain ⟨hc_w2, hf_w2⟩ := bcell hb; have s_uw2 := Sl.of_own o_uw2; clear o_uw2; have S_w2 := HSr.out _ b_w2; clear hb)
            | (go_at_call 15; refine (toHandState_any sh sq _).mono ?_; rintro e w3 ⟨rfl, hb⟩; have b_w3 : Below w1.heap.size w1 w3 := Below.trans (grown_again b_w2 (by first | (with_reducible exact Below.refl _ _) | go_grown)) (hb.mono (by first | (with_reducible exact Nat.le_refl _) | (with_reducible assumption) | (simp [go_sem]; done) | (simp [go_sem]; omega) | omega)); have y_w3 := b_w3.size; (try (have a_w3_w2 : w2.heap.size < w3.heap.size := Nat.lt_of_lt_of_le (by first | assumption | (simp [go_sem]; done) | (simp only [go_sem]; omega) | (simp [go_sem]; omega)) hb.size)); (try (have a_w3_w1 : w1.heap.size < w3.heap.size := Nat.lt_of_lt_of_le (by first | assumption | (simp [go_sem]; done) | (simp only [go_sem]; omega) | (simp [go_sem]; omega)) hb.size)); obtain ⟨hc_w3, hf_w3⟩ := bcell hb; replace s_uw2 := (s_uw2.below (by first | (with_reducible exact Below.refl _ _) | go_grown)).below hb; have S_w3 := HSr.out _ b_w3; clear hb)
            | (go_at_call 13; refine (HS.out uw2 _ (s_uw2.below (by first | (with_reducible exact Below.refl _ _) | go_grown))).mono ?_; rintro e w4 ⟨vw_1, rfl, o_vw_1, hb⟩; obtain ⟨A_vw_1, C_vw_1, rfl⟩ := own_form o_vw_1; have b_w4 : Below w1.heap.size w1 w4 := Below.trans (grown_again b_w3 (by first | (with_reducible exact Below.refl _ _) | go_grown)) (hb.mono (by first | (with_reducible exact Nat.le_refl _) | (with_reducible assumption) | (simp [go_sem]; done) | (simp [go_sem]; omega) | omega)); have y_w4 := b_w4.size; (try (have a_w4_w2 : w2.heap.size < w4.heap.size := Nat.lt_of_lt_of_le (by first | assumption | (simp [go_sem]; done) | (simp only [go_sem]; omega) | (simp [go_sem]; omega)) hb.size)); (try (have a_w4_w3 : w3.heap.size < w4.heap.size := Nat.lt_of_lt_of_le (by first | assumption | (simp [go_sem]; done) | (simp only [go_sem]; omega) | (simp [go_sem]; omega)) hb.size)); (try (have a_w4_w1 : w1.heap.size < w4.heap.size := Nat.lt_of_lt_of_le (by first | assumption | (simp [go_sem]; done) | (simp only [go_sem]; omega) | (simp [go_sem]; omega)) hb.size)); obtain ⟨hc_w4, hf_w4⟩ := bcell hb; have S_w4 := HSr.out _ b_w4; clear hb))
        all_goals (go_wp2_with fail; go_meet)
        all_goals refine ⟨_, .slice A_vw_1 rl.length C_vw_1, rfl, rfl, rfl, ⟨?_, ?_⟩, ?_, ?_, ?_, ?_, ?_⟩
        all_goals first
          | (with_reducible exact Nat.le_refl _) | (with_reducible assumption)
          | (go_grown; done)
          | (simp [go_sem, *]; done)
          | ((repeat' first | exact own_mono o_vw_1 (by first | (with_reducible exact Nat.le_refl _) | (with_reducible assumption) | (simp [go_sem]; done) | (simp [go_sem]; omega) | omega) | refine own_far ?_ ?_ _ | refine World.ownsRow.alloc ?_ _); all_goals (exact own_ne o_vw_1 (Or.inl (by first | assumption | (simp; done) | omega))); done)
          | exact own_ne o_vw_1 (Or.inr (by first | (with_reducible exact Nat.le_refl _) | (with_reducible assumption) | (simp [go_sem]; done) | (simp [go_sem]; omega) | omega)) | exact own_ne o_vw_1 (Or.inl (by first | (with_reducible exact Nat.le_refl _) | (with_reducible assumption) | (simp [go_sem]; done) | (simp [go_sem]; omega) | omega))
          | (have := b_w2.size; have := b_w3.size; have := b_w4.size; simp; omega)
      case rest =>
        obtain ⟨w5, rfl⟩ : ∃ x : World, x = wc := ⟨_, rfl⟩
        obtain ⟨gw_0, vw_1, rfl, rfl, rfl, ⟨rgw_0, l2⟩, c2_0, c2_1, o_vw_1, m_gw_0_vw_1, hb⟩ := hcut
        have Q2 : Hid (w1.heap.size ≤ gw_0 ∧ gw_0 < w5.heap.size) := ⟨rgw_0, l2⟩
        have R_vw_1 := Lib.hid (rng_of o_vw_1 (Nat.le_refl w1.heap.size))
        have E2_vw_1 := Lib.hid m_gw_0_vw_1
        clear m_gw_0_vw_1
        clear rgw_0
        replace c0_0 := (hb.cell (p := ⟨W.heap.size, 0, none⟩) l0).trans c0_0
        replace l0 := Nat.lt_of_lt_of_le l0 hb.size
        replace c1_0 := (hb.cell (p := ⟨W.heap.size + 1, 0, none⟩) l1).trans c1_0
        replace c1_1 := (hb.cell (p := ⟨W.heap.size + 1, 1, none⟩) l1).trans c1_1
        replace l1 := Nat.lt_of_lt_of_le l1 hb.size
        replace old := grown_again old hb
        have z_w5 := hb.size
        clear hb
        go_upto_region 8 with (fail)
        go_cut [11] (fun a11 wr => ∃ (gx0_0 : Nat) (vx0 : Value), a11 = .pointer (some ⟨gx0_0, 0, none⟩) ∧ (w5.heap.size ≤ gx0_0 ∧ gx0_0 < wr.heap.size) ∧ wr.cell? ⟨gx0_0, 0, none⟩ = some (vx0) ∧ wr.ownsRow w5.heap.size 2 1 vx0 gs.length (I64 gs) ∧ some gx0_0 ≠ vx0.ownBlock ∧ Below w5.heap.size w5 wr)
        case first =>
          have b_w5 := Below.refl w5.heap.size w5
          go_wp2_with fail
          refine (toCountWheel_any v gs _ (HV_v.out.below (grown_again old (by first | (with_reducible exact Below.refl _ _) | go_grown))) hl_gs).mono ?_
          rintro e w6 ⟨vx0, rfl, o_vx0, hb⟩
          obtain ⟨A_vx0, C_vx0, rfl⟩ := own_form o_vx0
          have b_w6 : Below w5.heap.size w5 w6 := Below.trans (grown_again b_w5 (by first | (with_reducible exact Below.refl _ _) | go_grown)) (hb.mono (by first | (with_reducible exact Nat.le_refl _) | (with_reducible assumption) | (simp [go_sem]; done) | (simp [go_sem]; omega) | omega))
          have y_w6 := b_w6.size
          (try (have a_w6_w5 : w5.heap.size < w6.heap.size := Nat.lt_of_lt_of_le (by first | assumption | (simp [go_sem]; done) | (simp only [go_sem]; omega) | (simp [go_sem]; omega)) hb.size))
          obtain ⟨hc_w6, hf_w6⟩ := bcell hb
          clear hb
          all_goals (go_wp2_with fail; go_meet)
          all_goals refine ⟨_, .slice A_vx0 gs.length C_vx0, rfl, ⟨?_, ?_⟩, ?_, ?_, ?_, ?_⟩
          all_goals first
            | (with_reducible exact Nat.le_refl _) | (with_reducible assumption)
            | (go_grown; done)
            | (simp [go_sem, *]; done)
            | ((repeat' first | exact own_mono o_vx0 (by first | (with_reducible exact Nat.le_refl _) | (with_reducible assumption) | (simp [go_sem]; done) | (simp [go_sem]; omega) | omega) | refine own_far ?_ ?_ _ | refine World.ownsRow.alloc ?_ _); all_goals (exact own_ne o_vx0 (Or.inl (by first | assumption | (simp; done) | omega))); done)
            | exact own_ne o_vx0 (Or.inr (by first | (with_reducible exact Nat.le_refl _) | (with_reducible assumption) | (simp [go_sem]; done) | (simp [go_sem]; omega) | omega)) | exact own_ne o_vx0 (Or.inl (by first | (with_reducible exact Nat.le_refl _) | (with_reducible assumption) | (simp [go_sem]; done) | (simp [go_sem]; omega) | omega))
            | (have := b_w6.size; simp; omega)
        case rest =>
          obtain ⟨w7, rfl⟩ : ∃ x : World, x = wc := ⟨_, rfl⟩
          obtain ⟨gx0_0, vx0, rfl, ⟨rgx0_0, l3⟩, c3_0, o_vx0, m_gx0_0_vx0, hb⟩ := hcut
          have Q3 : Hid (w5.heap.size ≤ gx0_0 ∧ gx0_0 < w7.heap.size) := ⟨rgx0_0, l3⟩
          have R_vx0 := Lib.hid (rng_of o_vx0 (Nat.le_refl w5.heap.size))
          have E3_vx0 := Lib.hid m_gx0_0_vx0
          clear m_gx0_0_vx0
          clear rgx0_0
          replace c0_0 := (hb.cell (p := ⟨W.heap.size, 0, none⟩) l0).trans c0_0
          replace l0 := Nat.lt_of_lt_of_le l0 hb.size
          replace c1_0 := (hb.cell (p := ⟨W.heap.size + 1, 0, none⟩) l1).trans c1_0
          replace c1_1 := (hb.cell (p := ⟨W.heap.size + 1, 1, none⟩) l1).trans c1_1
          replace l1 := Nat.lt_of_lt_of_le l1 hb.size
          replace c2_0 := (hb.cell (p := ⟨gw_0, 0, none⟩) l2).trans c2_0
          replace c2_1 := (hb.cell (p := ⟨gw_0, 1, none⟩) l2).trans c2_1
          replace l2 := Nat.lt_of_lt_of_le l2 hb.size
          replace o_vw_1 := own_below o_vw_1 hb
          replace old := grown_again old hb
          have z_w7 := hb.size
          clear hb
          go_upto_region 9 with (fail)
          go_cut [12, 13, 14] (fun a12 a13 a14 wr => ∃ (gg_0 : Nat) (vg_1 : Value), a12 = .pointer (some ⟨gg_0, 0, none⟩) ∧ vg_1 = a13 ∧ a14 = .int .i64 rc ∧ (w7.heap.size ≤ gg_0 ∧ gg_0 < wr.heap.size) ∧ wr.cell? ⟨gg_0, 0, none⟩ = some (.int .i64 ra) ∧ wr.cell? ⟨gg_0, 1, none⟩ = some (.int .i64 rb) ∧ wr.ownsRow w7.heap.size 2 1 vg_1 rl.length (I64 rl) ∧ some gg_0 ≠ vg_1.ownBlock ∧ Below w7.heap.size w7 wr)
          case first =>
            have HSr := Lib.hid (fun (w' : World) (hb : Below w7.heap.size w7 w') => (⟨(hb.cell (p := ⟨gx0_0, 0, none⟩) l3).trans c3_0, (hb.cell (p := ⟨W.heap.size + 1, 0, none⟩) l1).trans c1_0, (hb.cell (p := ⟨W.heap.size + 1, 1, none⟩) l1).trans c1_1⟩ : w'.cell? ⟨gx0_0, 0, none⟩ = some (vx0) ∧ w'.cell? ⟨W.heap.size + 1, 0, none⟩ = some (.int .i64 sh) ∧ w'.cell? ⟨W.heap.size + 1, 1, none⟩ = some (.int .i64 sq)))
            have b_w7 := Below.refl w7.heap.size w7
            go_region_held3 (fun w' => w'.cell? ⟨gx0_0, 0, none⟩ = some (vx0) ∧ w'.cell? ⟨W.heap.size + 1, 0, none⟩ = some (.int .i64 sh) ∧ w'.cell? ⟨W.heap.size + 1, 1, none⟩ = some (.int .i64 sq)) (first | assumption | exact HSr.out _ (by go_grown) | go_keep)
              (first
                | (go_at_call 15; refine (toHandState_any sh sq _).mono ?_; rintro e w8 ⟨rfl, hb⟩; have b_w8 : Below w7.heap.size w7 w8 := Below.trans (grown_again b_w7 (by first | (with_reducible exact Below.refl _ _) | go_grown)) (hb.mono (by first | (with_reducible exact Nat.le_refl _) | (with_reducible assumption) | (simp [go_sem]; done) | (simp [go_sem]; omega) | omega)); have y_w8 := b_w8.size; (try (have a_w8_w7 : w7.heap.size < w8.heap.size := Nat.lt_of_lt_of_le (by first | assumption | (simp [go_sem]; done) | (simp only [go_sem]; omega) | (simp [go_sem]; omega)) hb.size)); obtain ⟨hc_w8, hf_w8⟩ := bcell hb; have S_w8 := HSr.out _ b_w8; clear hb)
                | (go_at_call 16; refine (HI.out vx0 _ ((Sl.of_own o_vx0).below (grown_again b_w7 (by first | (with_reducible exact Below.refl _ _) | go_grown)))).mono ?_; rintro e w9 ⟨vg_1, rfl, o_vg_1, hb⟩; obtain ⟨A_vg_1, C_vg_1, rfl⟩ := own_form o_vg_1; have b_w9 : Below w7.heap.size w7 w9 := Below.trans (grown_again b_w8 (by first | (with_reducible exact Below.refl _ _) | go_grown)) (hb.mono (by first | (with_reducible exact Nat.le_refl _) | (with_reducible assumption) | (simp [go_sem]; done) | (simp [go_sem]; omega) | omega)); have y_w9 := b_w9.size; (try (have a_w9_w8 : w8.heap.size < w9.heap.size := Nat.lt_of_lt_of_le (by first | assumption | (simp [go_sem]; done) | (simp only [go_sem]; omega) | (simp [go_sem]; omega)) hb.size)); (try (have a_w9_w7 : w7.heap.size < w9.heap.size := Nat.lt_of_lt_of_le (by first | assumption | (simp [go_sem]; done) | (simp only [go_sem]; omega) | (simp [go_sem]; omega)) hb.size)); obtain ⟨hc_w9, hf_w9⟩ := bcell hb; have S_w9 := HSr.out _ b_w9; clear hb))
            all_goals (go_wp2_with fail; go_meet)
            all_goals refine ⟨_, .slice A_vg_1 rl.length C_vg_1, rfl, rfl, rfl, ⟨?_, ?_⟩, ?_, ?_, ?_, ?_, ?_⟩
            all_goals first
              | (with_reducible exact Nat.le_refl _) | (with_reducible assumption)
              | (go_grown; done)
              | (simp [go_sem, *]; done)
              | ((repeat' first | exact own_mono o_vg_1 (by first | (with_reducible exact Nat.le_refl _) | (with_reducible assumption) | (simp [go_sem]; done) | (simp [go_sem]; omega) | omega) | refine own_far ?_ ?_ _ | refine World.ownsRow.alloc ?_ _); all_goals (exact own_ne o_vg_1 (Or.inl (by first | assumption | (simp; done) | omega))); done)
              | exact own_ne o_vg_1 (Or.inr (by first | (with_reducible exact Nat.le_refl _) | (with_reducible assumption) | (simp [go_sem]; done) | (simp [go_sem]; omega) | omega)) | exact own_ne o_vg_1 (Or.inl (by first | (with_reducible exact Nat.le_refl _) | (with_reducible assumption) | (simp [go_sem]; done) | (simp [go_sem]; omega) | omega))
              | (have := b_w8.size; have := b_w9.size; simp; omega)
          case rest =>
            obtain ⟨w10, rfl⟩ : ∃ x : World, x = wc := ⟨_, rfl⟩
            obtain ⟨gg_0, vg_1, rfl, rfl, rfl, ⟨rgg_0, l4⟩, c4_0, c4_1, o_vg_1, m_gg_0_vg_1, hb⟩ := hcut
            have Q4 : Hid (w7.heap.size ≤ gg_0 ∧ gg_0 < w10.heap.size) := ⟨rgg_0, l4⟩
            have R_vg_1 := Lib.hid (rng_of o_vg_1 (Nat.le_refl w7.heap.size))
            have E4_vg_1 := Lib.hid m_gg_0_vg_1
            clear m_gg_0_vg_1
            clear rgg_0
            replace c0_0 := (hb.cell (p := ⟨W.heap.size, 0, none⟩) l0).trans c0_0
            replace l0 := Nat.lt_of_lt_of_le l0 hb.size
            replace c1_0 := (hb.cell (p := ⟨W.heap.size + 1, 0, none⟩) l1).trans c1_0
            replace c1_1 := (hb.cell (p := ⟨W.heap.size + 1, 1, none⟩) l1).trans c1_1
            replace l1 := Nat.lt_of_lt_of_le l1 hb.size
            replace c2_0 := (hb.cell (p := ⟨gw_0, 0, none⟩) l2).trans c2_0
            replace c2_1 := (hb.cell (p := ⟨gw_0, 1, none⟩) l2).trans c2_1
            replace l2 := Nat.lt_of_lt_of_le l2 hb.size
            replace c3_0 := (hb.cell (p := ⟨gx0_0, 0, none⟩) l3).trans c3_0
            replace l3 := Nat.lt_of_lt_of_le l3 hb.size
            replace o_vw_1 := own_below o_vw_1 hb
            replace o_vx0 := own_below o_vx0 hb
            replace old := grown_again old hb
            have z_w10 := hb.size
            clear hb
            go_wp2_with fail
            refine (eqHandState_true (ra) (rb) _).mono ?_
            rintro e w11 ⟨rfl, hb⟩
            have b_w11 : Below w10.heap.size w10 w11 := Below.trans (by first | (with_reducible exact Below.refl _ _) | go_grown) (hb.mono (by first | (with_reducible exact Nat.le_refl _) | (with_reducible assumption) | (simp [go_sem]; done) | (simp [go_sem]; omega) | omega))
            clear hb
            replace c0_0 := (b_w11.cell (p := ⟨W.heap.size, 0, none⟩) l0).trans c0_0
            replace l0 := Nat.lt_of_lt_of_le l0 b_w11.size
            replace c1_0 := (b_w11.cell (p := ⟨W.heap.size + 1, 0, none⟩) l1).trans c1_0
            replace c1_1 := (b_w11.cell (p := ⟨W.heap.size + 1, 1, none⟩) l1).trans c1_1
            replace l1 := Nat.lt_of_lt_of_le l1 b_w11.size
            replace c2_0 := (b_w11.cell (p := ⟨gw_0, 0, none⟩) l2).trans c2_0
            replace c2_1 := (b_w11.cell (p := ⟨gw_0, 1, none⟩) l2).trans c2_1
            replace l2 := Nat.lt_of_lt_of_le l2 b_w11.size
            replace c3_0 := (b_w11.cell (p := ⟨gx0_0, 0, none⟩) l3).trans c3_0
            replace l3 := Nat.lt_of_lt_of_le l3 b_w11.size
            replace c4_0 := (b_w11.cell (p := ⟨gg_0, 0, none⟩) l4).trans c4_0
            replace c4_1 := (b_w11.cell (p := ⟨gg_0, 1, none⟩) l4).trans c4_1
            replace l4 := Nat.lt_of_lt_of_le l4 b_w11.size
            replace o_vw_1 := own_below o_vw_1 b_w11
            replace o_vx0 := own_below o_vx0 b_w11
            replace o_vg_1 := own_below o_vg_1 b_w11
            replace old := grown_again old b_w11
            have z_w11 := b_w11.size
            clear b_w11
            go_wp2_with fail
            refine (eqInt64S_b vg_1 vw_1 rl _ (((Sl.of_own o_vg_1)).below (by first | (with_reducible exact Below.refl _ _) | go_grown)) (((Sl.of_own o_vw_1)).below (by first | (with_reducible exact Below.refl _ _) | go_grown))).mono ?_
            rintro e w12 ⟨rfl, hb⟩
            have b_w12 : Below w11.heap.size w11 w12 := Below.trans (by first | (with_reducible exact Below.refl _ _) | go_grown) (hb.mono (by first | (with_reducible exact Nat.le_refl _) | (with_reducible assumption) | (simp [go_sem]; done) | (simp [go_sem]; omega) | omega))
            clear hb
            replace c0_0 := (b_w12.cell (p := ⟨W.heap.size, 0, none⟩) l0).trans c0_0
            replace l0 := Nat.lt_of_lt_of_le l0 b_w12.size
            replace c1_0 := (b_w12.cell (p := ⟨W.heap.size + 1, 0, none⟩) l1).trans c1_0
            replace c1_1 := (b_w12.cell (p := ⟨W.heap.size + 1, 1, none⟩) l1).trans c1_1
            replace l1 := Nat.lt_of_lt_of_le l1 b_w12.size
            replace c2_0 := (b_w12.cell (p := ⟨gw_0, 0, none⟩) l2).trans c2_0
            replace c2_1 := (b_w12.cell (p := ⟨gw_0, 1, none⟩) l2).trans c2_1
            replace l2 := Nat.lt_of_lt_of_le l2 b_w12.size
            replace c3_0 := (b_w12.cell (p := ⟨gx0_0, 0, none⟩) l3).trans c3_0
            replace l3 := Nat.lt_of_lt_of_le l3 b_w12.size
            replace c4_0 := (b_w12.cell (p := ⟨gg_0, 0, none⟩) l4).trans c4_0
            replace c4_1 := (b_w12.cell (p := ⟨gg_0, 1, none⟩) l4).trans c4_1
            replace l4 := Nat.lt_of_lt_of_le l4 b_w12.size
            replace o_vw_1 := own_below o_vw_1 b_w12
            replace o_vx0 := own_below o_vx0 b_w12
            replace o_vg_1 := own_below o_vg_1 b_w12
            replace old := grown_again old b_w12
            have z_w12 := b_w12.size
            clear b_w12
            go_upto_region 12 with (fail)
            have HSr := Lib.hid (fun (w' : World) (hb : Below w12.heap.size w12 w') => (⟨(hb.cell (p := ⟨gx0_0, 0, none⟩) l3).trans c3_0, (hb.cell (p := ⟨W.heap.size, 0, none⟩) l0).trans c0_0⟩ : w'.cell? ⟨gx0_0, 0, none⟩ = some (vx0) ∧ w'.cell? ⟨W.heap.size, 0, none⟩ = some (v)))
            go_region_held3 (fun w' => w'.cell? ⟨gx0_0, 0, none⟩ = some (vx0) ∧ w'.cell? ⟨W.heap.size, 0, none⟩ = some (v)) (first | assumption | exact HSr.out _ (by go_grown) | go_keep)
              (first
                | (go_at_call 14; refine (toCountWheel_any v gs _ (HV_v.out.below (grown_again old (by first | (with_reducible exact Below.refl _ _) | go_grown))) hl_gs).mono ?_; rintro e w13 ⟨uw13, rfl, o_uw13, hb⟩; have b_w13 : Below w12.heap.size w12 w13 := Below.trans (by first | (with_reducible exact Below.refl _ _) | go_grown) (hb.mono (by first | (with_reducible exact Nat.le_refl _) | (with_reducible assumption) | (simp [go_sem]; done) | (simp [go_sem]; omega) | omega)); have y_w13 := b_w13.size; have S_w13 := HSr.out _ b_w13; have s_uw13 := Sl.of_own o_uw13; clear o_uw13; clear hb)
                | (go_at_call 19; refine (eqCountWheel_true vx0 uw13 gs _ ((Sl.of_own o_vx0).below (grown_again b_w13 (by first | (with_reducible exact Below.refl _ _) | go_grown))) (s_uw13.below (by first | (with_reducible exact Below.refl _ _) | go_grown))).mono ?_; rintro e w14 ⟨rfl, hb⟩; have b_w14 : Below w12.heap.size w12 w14 := Below.trans (grown_again b_w13 (by first | (with_reducible exact Below.refl _ _) | go_grown)) (hb.mono (by first | (with_reducible exact Nat.le_refl _) | (with_reducible assumption) | (simp [go_sem]; done) | (simp [go_sem]; omega) | omega)); have S_w14 := HSr.out _ b_w14; clear hb))
            clear HSr S_w13 S_w14 s_uw13
            replace c0_0 := (b_w14.cell (p := ⟨W.heap.size, 0, none⟩) l0).trans c0_0
            replace l0 := Nat.lt_of_lt_of_le l0 b_w14.size
            replace c1_0 := (b_w14.cell (p := ⟨W.heap.size + 1, 0, none⟩) l1).trans c1_0
            replace c1_1 := (b_w14.cell (p := ⟨W.heap.size + 1, 1, none⟩) l1).trans c1_1
            replace l1 := Nat.lt_of_lt_of_le l1 b_w14.size
            replace c2_0 := (b_w14.cell (p := ⟨gw_0, 0, none⟩) l2).trans c2_0
            replace c2_1 := (b_w14.cell (p := ⟨gw_0, 1, none⟩) l2).trans c2_1
            replace l2 := Nat.lt_of_lt_of_le l2 b_w14.size
            replace c3_0 := (b_w14.cell (p := ⟨gx0_0, 0, none⟩) l3).trans c3_0
            replace l3 := Nat.lt_of_lt_of_le l3 b_w14.size
            replace c4_0 := (b_w14.cell (p := ⟨gg_0, 0, none⟩) l4).trans c4_0
            replace c4_1 := (b_w14.cell (p := ⟨gg_0, 1, none⟩) l4).trans c4_1
            replace l4 := Nat.lt_of_lt_of_le l4 b_w14.size
            replace o_vw_1 := own_below o_vw_1 b_w14
            replace o_vx0 := own_below o_vx0 b_w14
            replace o_vg_1 := own_below o_vg_1 b_w14
            replace old := grown_again old b_w14
            have z_w14 := b_w14.size
            clear b_w13 b_w14
            go_wp2_with fail
            have M := markCountWheel_any vx0 1 gs _ w14 o_vx0 (by omega) (by omega) (by omega)
            have M := Lib.hid M
            refine M.out.mono ?_
            rintro e w15 ⟨rfl, om, hg⟩
            clear M
            replace c0_0 := hg.cell c0_0 (Rng.ne (g := W.heap.size) R_vx0.out (by have := Q0.out; omega))
            replace l0 := Nat.lt_of_lt_of_le l0 hg.size
            replace c1_0 := hg.cell c1_0 (Rng.ne (g := W.heap.size + 1) R_vx0.out (by have := Q1.out; omega))
            replace c1_1 := hg.cell c1_1 (Rng.ne (g := W.heap.size + 1) R_vx0.out (by have := Q1.out; omega))
            replace l1 := Nat.lt_of_lt_of_le l1 hg.size
            replace c2_0 := hg.cell c2_0 (Rng.ne (g := gw_0) R_vx0.out (by have := Q2.out; omega))
            replace c2_1 := hg.cell c2_1 (Rng.ne (g := gw_0) R_vx0.out (by have := Q2.out; omega))
            replace l2 := Nat.lt_of_lt_of_le l2 hg.size
            replace c3_0 := hg.cell c3_0 E3_vx0.out
            replace l3 := Nat.lt_of_lt_of_le l3 hg.size
            replace c4_0 := hg.cell c4_0 (Rng.ne (g := gg_0) R_vx0.out (by have := Q4.out; omega))
            replace c4_1 := hg.cell c4_1 (Rng.ne (g := gg_0) R_vx0.out (by have := Q4.out; omega))
            replace l4 := Nat.lt_of_lt_of_le l4 hg.size
            replace o_vw_1 := o_vw_1.kept hg (Rng.apart R_vw_1.out R_vx0.out (by omega))
            replace o_vg_1 := o_vg_1.kept hg (Rng.apart R_vg_1.out R_vx0.out (by omega))
            replace old := below_grown old hg R_vx0.out (by omega)
            have z_w15 := hg.size
            replace o_vx0 := om
            clear hg
            go_wp2_with fail
            refine (eqHandState_true (ra) (rb) _).mono ?_
            rintro e w16 ⟨rfl, hb⟩
            have b_w16 : Below w15.heap.size w15 w16 := Below.trans (by first | (with_reducible exact Below.refl _ _) | go_grown) (hb.mono (by first | (with_reducible exact Nat.le_refl _) | (with_reducible assumption) | (simp [go_sem]; done) | (simp [go_sem]; omega) | omega))
            clear hb
            replace c0_0 := (b_w16.cell (p := ⟨W.heap.size, 0, none⟩) l0).trans c0_0
            replace l0 := Nat.lt_of_lt_of_le l0 b_w16.size
            replace c1_0 := (b_w16.cell (p := ⟨W.heap.size + 1, 0, none⟩) l1).trans c1_0
            replace c1_1 := (b_w16.cell (p := ⟨W.heap.size + 1, 1, none⟩) l1).trans c1_1
            replace l1 := Nat.lt_of_lt_of_le l1 b_w16.size
            replace c2_0 := (b_w16.cell (p := ⟨gw_0, 0, none⟩) l2).trans c2_0
            replace c2_1 := (b_w16.cell (p := ⟨gw_0, 1, none⟩) l2).trans c2_1
            replace l2 := Nat.lt_of_lt_of_le l2 b_w16.size
            replace c3_0 := (b_w16.cell (p := ⟨gx0_0, 0, none⟩) l3).trans c3_0
            replace l3 := Nat.lt_of_lt_of_le l3 b_w16.size
            replace c4_0 := (b_w16.cell (p := ⟨gg_0, 0, none⟩) l4).trans c4_0
            replace c4_1 := (b_w16.cell (p := ⟨gg_0, 1, none⟩) l4).trans c4_1
            replace l4 := Nat.lt_of_lt_of_le l4 b_w16.size
            replace o_vw_1 := own_below o_vw_1 b_w16
            replace o_vx0 := own_below o_vx0 b_w16
            replace o_vg_1 := own_below o_vg_1 b_w16
            replace old := grown_again old b_w16
            have z_w16 := b_w16.size
            clear b_w16
            go_wp2_with fail
            refine (eqInt64S_b vg_1 vw_1 rl _ (((Sl.of_own o_vg_1)).below (by first | (with_reducible exact Below.refl _ _) | go_grown)) (((Sl.of_own o_vw_1)).below (by first | (with_reducible exact Below.refl _ _) | go_grown))).mono ?_
            rintro e w17 ⟨rfl, hb⟩
            have b_w17 : Below w16.heap.size w16 w17 := Below.trans (by first | (with_reducible exact Below.refl _ _) | go_grown) (hb.mono (by first | (with_reducible exact Nat.le_refl _) | (with_reducible assumption) | (simp [go_sem]; done) | (simp [go_sem]; omega) | omega))
            clear hb
            replace c0_0 := (b_w17.cell (p := ⟨W.heap.size, 0, none⟩) l0).trans c0_0
            replace l0 := Nat.lt_of_lt_of_le l0 b_w17.size
            replace c1_0 := (b_w17.cell (p := ⟨W.heap.size + 1, 0, none⟩) l1).trans c1_0
            replace c1_1 := (b_w17.cell (p := ⟨W.heap.size + 1, 1, none⟩) l1).trans c1_1
            replace l1 := Nat.lt_of_lt_of_le l1 b_w17.size
            replace c2_0 := (b_w17.cell (p := ⟨gw_0, 0, none⟩) l2).trans c2_0
            replace c2_1 := (b_w17.cell (p := ⟨gw_0, 1, none⟩) l2).trans c2_1
            replace l2 := Nat.lt_of_lt_of_le l2 b_w17.size
            replace c3_0 := (b_w17.cell (p := ⟨gx0_0, 0, none⟩) l3).trans c3_0
            replace l3 := Nat.lt_of_lt_of_le l3 b_w17.size
            replace c4_0 := (b_w17.cell (p := ⟨gg_0, 0, none⟩) l4).trans c4_0
            replace c4_1 := (b_w17.cell (p := ⟨gg_0, 1, none⟩) l4).trans c4_1
            replace l4 := Nat.lt_of_lt_of_le l4 b_w17.size
            replace o_vw_1 := own_below o_vw_1 b_w17
            replace o_vx0 := own_below o_vx0 b_w17
            replace o_vg_1 := own_below o_vg_1 b_w17
            replace old := grown_again old b_w17
            have z_w17 := b_w17.size
            clear b_w17
            go_wp2_with fail
            have M := markInt64S_any vg_1 1 rl _ w17 o_vg_1 (by omega) (by omega) (by omega)
            have M := Lib.hid M
            refine M.out.mono ?_
            rintro e w18 ⟨rfl, om, hg⟩
            clear M
            replace c0_0 := hg.cell c0_0 (Rng.ne (g := W.heap.size) R_vg_1.out (by have := Q0.out; omega))
            replace l0 := Nat.lt_of_lt_of_le l0 hg.size
            replace c1_0 := hg.cell c1_0 (Rng.ne (g := W.heap.size + 1) R_vg_1.out (by have := Q1.out; omega))
            replace c1_1 := hg.cell c1_1 (Rng.ne (g := W.heap.size + 1) R_vg_1.out (by have := Q1.out; omega))
            replace l1 := Nat.lt_of_lt_of_le l1 hg.size
            replace c2_0 := hg.cell c2_0 (Rng.ne (g := gw_0) R_vg_1.out (by have := Q2.out; omega))
            replace c2_1 := hg.cell c2_1 (Rng.ne (g := gw_0) R_vg_1.out (by have := Q2.out; omega))
            replace l2 := Nat.lt_of_lt_of_le l2 hg.size
            replace c3_0 := hg.cell c3_0 (Rng.ne (g := gx0_0) R_vg_1.out (by have := Q3.out; omega))
            replace l3 := Nat.lt_of_lt_of_le l3 hg.size
            replace c4_0 := hg.cell c4_0 E4_vg_1.out
            replace c4_1 := hg.cell c4_1 E4_vg_1.out
            replace l4 := Nat.lt_of_lt_of_le l4 hg.size
            replace o_vw_1 := o_vw_1.kept hg (Rng.apart R_vw_1.out R_vg_1.out (by omega))
            replace o_vx0 := o_vx0.kept hg (Rng.apart R_vx0.out R_vg_1.out (by omega))
            replace old := below_grown old hg R_vg_1.out (by omega)
            have z_w18 := hg.size
            replace o_vg_1 := om
            clear hg
            go_wp2_with fail
            refine (heldInt64S_any vg_1 1 rl.length _ ((Sl.of_own o_vg_1).below (by first | (with_reducible exact Below.refl _ _) | go_grown)) (by omega) (by omega) (by omega)).mono ?_
            rintro e w' ⟨rfl, rfl⟩
            go_upto_region 26 with (fail)
            go_cut [18, 19, 20] (fun a18 a19 a20 wr => ∃ (gh_0 : Nat) (vh_1 : Value), a18 = .pointer (some ⟨gh_0, 0, none⟩) ∧ vh_1 = a19 ∧ a20 = .int .i64 rc ∧ (w18.heap.size ≤ gh_0 ∧ gh_0 < wr.heap.size) ∧ wr.cell? ⟨gh_0, 0, none⟩ = some (.int .i64 ra) ∧ wr.cell? ⟨gh_0, 1, none⟩ = some (.int .i64 rb) ∧ wr.ownsRow w18.heap.size 2 1 vh_1 rl.length (I64 rl) ∧ some gh_0 ≠ vh_1.ownBlock ∧ Below w18.heap.size w18 wr)
            case first =>
              have HSr := Lib.hid (fun (w' : World) (hb : Below w18.heap.size w18 w') => (⟨(hb.cell (p := ⟨W.heap.size, 0, none⟩) l0).trans c0_0, (hb.cell (p := ⟨W.heap.size + 1, 0, none⟩) l1).trans c1_0, (hb.cell (p := ⟨W.heap.size + 1, 1, none⟩) l1).trans c1_1⟩ : w'.cell? ⟨W.heap.size, 0, none⟩ = some (v) ∧ w'.cell? ⟨W.heap.size + 1, 0, none⟩ = some (.int .i64 sh) ∧ w'.cell? ⟨W.heap.size + 1, 1, none⟩ = some (.int .i64 sq)))
              have b_w18 := Below.refl w18.heap.size w18
              go_region_held3 (fun w' => w'.cell? ⟨W.heap.size, 0, none⟩ = some (v) ∧ w'.cell? ⟨W.heap.size + 1, 0, none⟩ = some (.int .i64 sh) ∧ w'.cell? ⟨W.heap.size + 1, 1, none⟩ = some (.int .i64 sq)) (first | assumption | exact HSr.out _ (by go_grown) | go_keep)
                (first
                  | (go_at_call 14; refine (toCountWheel_any v gs _ (HV_v.out.below (grown_again old (by first | (with_reducible exact Below.refl _ _) | go_grown))) hl_gs).mono ?_; rintro e w20 ⟨uw20, rfl, o_uw20, hb⟩; have b_w20 : Below w18.heap.size w18 w20 := Below.trans (grown_again b_w18 (by first | (with_reducible exact Below.refl _ _) | go_grown)) (hb.mono (by first | (with_reducible exact Nat.le_refl _) | (with_reducible assumption) | (simp [go_sem]; done) | (simp [go_sem]; omega) | omega)); have y_w20 := b_w20.size; (try (have a_w20_w18 : w18.heap.size < w20.heap.size := Nat.lt_of_lt_of_le (by first | assumption | (simp [go_sem]; done) | (simp only [go_sem]; omega) | (simp [go_sem]; omega)) hb.size)); obtain ⟨hc_w20, hf_w20⟩ := bcell hb; have s_uw20 := Sl.of_own o_uw20; clear o_uw20; have S_w20 := HSr.out _ b_w20; clear hb)
                  | (go_at_call 15; refine (toHandState_any sh sq _).mono ?_; rintro e w21 ⟨rfl, hb⟩; have b_w21 : Below w18.heap.size w18 w21 := Below.trans (grown_again b_w20 (by first | (with_reducible exact Below.refl _ _) | go_grown)) (hb.mono (by first | (with_reducible exact Nat.le_refl _) | (with_reducible assumption) | (simp [go_sem]; done) | (simp [go_sem]; omega) | omega)); have y_w21 := b_w21.size; (try (have a_w21_w20 : w20.heap.size < w21.heap.size := Nat.lt_of_lt_of_le (by first | assumption | (simp [go_sem]; done) | (simp only [go_sem]; omega) | (simp [go_sem]; omega)) hb.size)); (try (have a_w21_w18 : w18.heap.size < w21.heap.size := Nat.lt_of_lt_of_le (by first | assumption | (simp [go_sem]; done) | (simp only [go_sem]; omega) | (simp [go_sem]; omega)) hb.size)); obtain ⟨hc_w21, hf_w21⟩ := bcell hb; replace s_uw20 := (s_uw20.below (by first | (with_reducible exact Below.refl _ _) | go_grown)).below hb; have S_w21 := HSr.out _ b_w21; clear hb)
                  | (go_at_call 16; refine (HI.out uw20 _ (s_uw20.below (by first | (with_reducible exact Below.refl _ _) | go_grown))).mono ?_; rintro e w22 ⟨vh_1, rfl, o_vh_1, hb⟩; obtain ⟨A_vh_1, C_vh_1, rfl⟩ := own_form o_vh_1; have b_w22 : Below w18.heap.size w18 w22 := Below.trans (grown_again b_w21 (by first | (with_reducible exact Below.refl _ _) | go_grown)) (hb.mono (by first | (with_reducible exact Nat.le_refl _) | (with_reducible assumption) | (simp [go_sem]; done) | (simp [go_sem]; omega) | omega)); have y_w22 := b_w22.size; (try (have a_w22_w20 : w20.heap.size < w22.heap.size := Nat.lt_of_lt_of_le (by first | assumption | (simp [go_sem]; done) | (simp only [go_sem]; omega) | (simp [go_sem]; omega)) hb.size)); (try (have a_w22_w21 : w21.heap.size < w22.heap.size := Nat.lt_of_lt_of_le (by first | assumption | (simp [go_sem]; done) | (simp only [go_sem]; omega) | (simp [go_sem]; omega)) hb.size)); (try (have a_w22_w18 : w18.heap.size < w22.heap.size := Nat.lt_of_lt_of_le (by first | assumption | (simp [go_sem]; done) | (simp only [go_sem]; omega) | (simp [go_sem]; omega)) hb.size)); obtain ⟨hc_w22, hf_w22⟩ := bcell hb; have S_w22 := HSr.out _ b_w22; clear hb))
              all_goals (go_wp2_with fail; go_meet)
              all_goals refine ⟨_, .slice A_vh_1 rl.length C_vh_1, rfl, rfl, rfl, ⟨?_, ?_⟩, ?_, ?_, ?_, ?_, ?_⟩
              all_goals first
                | (with_reducible exact Nat.le_refl _) | (with_reducible assumption)
                | (go_grown; done)
                | (simp [go_sem, *]; done)
                | ((repeat' first | exact own_mono o_vh_1 (by first | (with_reducible exact Nat.le_refl _) | (with_reducible assumption) | (simp [go_sem]; done) | (simp [go_sem]; omega) | omega) | refine own_far ?_ ?_ _ | refine World.ownsRow.alloc ?_ _); all_goals (exact own_ne o_vh_1 (Or.inl (by first | assumption | (simp; done) | omega))); done)
                | exact own_ne o_vh_1 (Or.inr (by first | (with_reducible exact Nat.le_refl _) | (with_reducible assumption) | (simp [go_sem]; done) | (simp [go_sem]; omega) | omega)) | exact own_ne o_vh_1 (Or.inl (by first | (with_reducible exact Nat.le_refl _) | (with_reducible assumption) | (simp [go_sem]; done) | (simp [go_sem]; omega) | omega))
                | (have := b_w20.size; have := b_w21.size; have := b_w22.size; simp; omega)
            case rest =>
              obtain ⟨w23, rfl⟩ : ∃ x : World, x = wc := ⟨_, rfl⟩
              obtain ⟨gh_0, vh_1, rfl, rfl, rfl, ⟨rgh_0, l5⟩, c5_0, c5_1, o_vh_1, m_gh_0_vh_1, hb⟩ := hcut
              have Q5 : Hid (w18.heap.size ≤ gh_0 ∧ gh_0 < w23.heap.size) := ⟨rgh_0, l5⟩
              have R_vh_1 := Lib.hid (rng_of o_vh_1 (Nat.le_refl w18.heap.size))
              have E5_vh_1 := Lib.hid m_gh_0_vh_1
              clear m_gh_0_vh_1
              clear rgh_0
              replace c0_0 := (hb.cell (p := ⟨W.heap.size, 0, none⟩) l0).trans c0_0
              replace l0 := Nat.lt_of_lt_of_le l0 hb.size
              replace c1_0 := (hb.cell (p := ⟨W.heap.size + 1, 0, none⟩) l1).trans c1_0
              replace c1_1 := (hb.cell (p := ⟨W.heap.size + 1, 1, none⟩) l1).trans c1_1
              replace l1 := Nat.lt_of_lt_of_le l1 hb.size
              replace c2_0 := (hb.cell (p := ⟨gw_0, 0, none⟩) l2).trans c2_0
              replace c2_1 := (hb.cell (p := ⟨gw_0, 1, none⟩) l2).trans c2_1
              replace l2 := Nat.lt_of_lt_of_le l2 hb.size
              replace c3_0 := (hb.cell (p := ⟨gx0_0, 0, none⟩) l3).trans c3_0
              replace l3 := Nat.lt_of_lt_of_le l3 hb.size
              replace c4_0 := (hb.cell (p := ⟨gg_0, 0, none⟩) l4).trans c4_0
              replace c4_1 := (hb.cell (p := ⟨gg_0, 1, none⟩) l4).trans c4_1
              replace l4 := Nat.lt_of_lt_of_le l4 hb.size
              replace o_vw_1 := own_below o_vw_1 hb
              replace o_vx0 := own_below o_vx0 hb
              replace o_vg_1 := own_below o_vg_1 hb
              replace old := grown_again old hb
              have z_w23 := hb.size
              clear hb
              go_wp2_with fail
              refine (eqHandState_true (ra) (rb) _).mono ?_
              rintro e w24 ⟨rfl, hb⟩
              have b_w24 : Below w23.heap.size w23 w24 := Below.trans (by first | (with_reducible exact Below.refl _ _) | go_grown) (hb.mono (by first | (with_reducible exact Nat.le_refl _) | (with_reducible assumption) | (simp [go_sem]; done) | (simp [go_sem]; omega) | omega))
              clear hb
              replace c0_0 := (b_w24.cell (p := ⟨W.heap.size, 0, none⟩) l0).trans c0_0
              replace l0 := Nat.lt_of_lt_of_le l0 b_w24.size
              replace c1_0 := (b_w24.cell (p := ⟨W.heap.size + 1, 0, none⟩) l1).trans c1_0
              replace c1_1 := (b_w24.cell (p := ⟨W.heap.size + 1, 1, none⟩) l1).trans c1_1
              replace l1 := Nat.lt_of_lt_of_le l1 b_w24.size
              replace c2_0 := (b_w24.cell (p := ⟨gw_0, 0, none⟩) l2).trans c2_0
              replace c2_1 := (b_w24.cell (p := ⟨gw_0, 1, none⟩) l2).trans c2_1
              replace l2 := Nat.lt_of_lt_of_le l2 b_w24.size
              replace c3_0 := (b_w24.cell (p := ⟨gx0_0, 0, none⟩) l3).trans c3_0
              replace l3 := Nat.lt_of_lt_of_le l3 b_w24.size
              replace c4_0 := (b_w24.cell (p := ⟨gg_0, 0, none⟩) l4).trans c4_0
              replace c4_1 := (b_w24.cell (p := ⟨gg_0, 1, none⟩) l4).trans c4_1
              replace l4 := Nat.lt_of_lt_of_le l4 b_w24.size
              replace c5_0 := (b_w24.cell (p := ⟨gh_0, 0, none⟩) l5).trans c5_0
              replace c5_1 := (b_w24.cell (p := ⟨gh_0, 1, none⟩) l5).trans c5_1
              replace l5 := Nat.lt_of_lt_of_le l5 b_w24.size
              replace o_vw_1 := own_below o_vw_1 b_w24
              replace o_vx0 := own_below o_vx0 b_w24
              replace o_vg_1 := own_below o_vg_1 b_w24
              replace o_vh_1 := own_below o_vh_1 b_w24
              replace old := grown_again old b_w24
              have z_w24 := b_w24.size
              clear b_w24
              go_wp2_with fail
              refine (eqInt64S_b vh_1 vw_1 rl _ (((Sl.of_own o_vh_1)).below (by first | (with_reducible exact Below.refl _ _) | go_grown)) (((Sl.of_own o_vw_1)).below (by first | (with_reducible exact Below.refl _ _) | go_grown))).mono ?_
              rintro e w25 ⟨rfl, hb⟩
              have b_w25 : Below w24.heap.size w24 w25 := Below.trans (by first | (with_reducible exact Below.refl _ _) | go_grown) (hb.mono (by first | (with_reducible exact Nat.le_refl _) | (with_reducible assumption) | (simp [go_sem]; done) | (simp [go_sem]; omega) | omega))
              clear hb
              replace c0_0 := (b_w25.cell (p := ⟨W.heap.size, 0, none⟩) l0).trans c0_0
              replace l0 := Nat.lt_of_lt_of_le l0 b_w25.size
              replace c1_0 := (b_w25.cell (p := ⟨W.heap.size + 1, 0, none⟩) l1).trans c1_0
              replace c1_1 := (b_w25.cell (p := ⟨W.heap.size + 1, 1, none⟩) l1).trans c1_1
              replace l1 := Nat.lt_of_lt_of_le l1 b_w25.size
              replace c2_0 := (b_w25.cell (p := ⟨gw_0, 0, none⟩) l2).trans c2_0
              replace c2_1 := (b_w25.cell (p := ⟨gw_0, 1, none⟩) l2).trans c2_1
              replace l2 := Nat.lt_of_lt_of_le l2 b_w25.size
              replace c3_0 := (b_w25.cell (p := ⟨gx0_0, 0, none⟩) l3).trans c3_0
              replace l3 := Nat.lt_of_lt_of_le l3 b_w25.size
              replace c4_0 := (b_w25.cell (p := ⟨gg_0, 0, none⟩) l4).trans c4_0
              replace c4_1 := (b_w25.cell (p := ⟨gg_0, 1, none⟩) l4).trans c4_1
              replace l4 := Nat.lt_of_lt_of_le l4 b_w25.size
              replace c5_0 := (b_w25.cell (p := ⟨gh_0, 0, none⟩) l5).trans c5_0
              replace c5_1 := (b_w25.cell (p := ⟨gh_0, 1, none⟩) l5).trans c5_1
              replace l5 := Nat.lt_of_lt_of_le l5 b_w25.size
              replace o_vw_1 := own_below o_vw_1 b_w25
              replace o_vx0 := own_below o_vx0 b_w25
              replace o_vg_1 := own_below o_vg_1 b_w25
              replace o_vh_1 := own_below o_vh_1 b_w25
              replace old := grown_again old b_w25
              have z_w25 := b_w25.size
              clear b_w25
              go_wp2_with fail
              refine (heldInt64S_any vg_1 1 rl.length _ ((Sl.of_own o_vg_1).below (by first | (with_reducible exact Below.refl _ _) | go_grown)) (by omega) (by omega) (by omega)).mono ?_
              rintro e w' ⟨rfl, rfl⟩
              go_wp2
              go_ret
              exact ⟨rfl, old⟩
    · go_enter Tryd.func3, Tryd.ntmps3
      go_wp2_with fail
      refine (szCountWheel_big v gs _ _ (HV_v.out.below (by first | (with_reducible exact Below.refl _ _) | go_grown)) (by omega) (by omega)).mono ?_
      rintro e w1 ⟨rfl, hb⟩
      go_wp2
      go_ret
      exact ⟨rfl, Below.trans (by first | exact Below.refl _ _ | go_grown) (hb.mono (by first | (with_reducible exact Nat.le_refl _) | (with_reducible assumption) | (simp [go_sem]; done) | (simp [go_sem]; omega) | omega))⟩
  · go_enter Tryd.func3, Tryd.ntmps3
    go_wp2
    go_ret
    exact ⟨rfl, by first | exact Below.refl _ _ | go_grown⟩

set_option maxRecDepth 100000 in
theorem fnExactMoveHands_lifted (os : Os) (started : os.Started) (H : Type) (enc : TypeId × Value → H) :
    ReturnsInHanded {} Tryd.checked os 3 .any (fun w args => (Rows.fnExactMoveHandsSpec.pre enc Tryd.prog Tryd.f3 Rows.fnExactMoveHandsRow.domain false w args ∧ laidMetH Tryd.prog Rows.fnExactMoveHandsRow.laid w) ∧ sizedMet enc Tryd.prog Tryd.f3 (OpenSpec.ofChange Rows.fnExactMoveHandsSpec) false w args)
      (Rows.fnExactMoveHandsSpec.post enc Tryd.prog Tryd.f3 false true false false) := by
  refine returnsInHanded_of_change_and (C := Tryd.checked) (X := fun w _ => laidMetH Tryd.prog Rows.fnExactMoveHandsRow.laid w) (fun _ _ _ hh h => h.of_heap hh) Tryd.own started (by kernel_rfl) Tryd.func3
    (ChangeSpec.witness_shaped (enc := enc) (C := Tryd.checked) (os := os) (X := fun w _ => laidMetH Tryd.prog Rows.fnExactMoveHandsRow.laid w) false (World.laidAll Tryd.prog os Rows.fnExactMoveHandsRow.laid) #[.agg #[.slice none 0 0], .agg #[.int .i64 0, .int .i64 0], .string ⟨#[]⟩] 8 (World.laidAll_os _ _ _)
      (World.shaped_of_ZipB (by kernel_rfl) (by kernel_rfl)) (by kernel_rfl) (by kernel_rfl) (by kernel_rfl)
      (by rw [MakeChecks.laidMetH_plain _ _ _ (by kernel_rfl)]; exact laidMet_laidAll _ (by kernel_rfl) (by kernel_rfl))) ?_
  intro W base args ds gs before hval0 hW hcnd _ _ _
  have hval : ∀ (j : Nat) t v, Tryd.f3.params[j]? = some t → args[j]? = some v → Value.okWide Tryd.prog W .any base t v := hval0
  have hW' := hW
  have hltB : ∀ x ∈ before, x.block < W.heap.size := fun x hx => hW.lt x hx
  obtain ⟨p, q, hA0, hV, rfl, hfz, hnd⟩ := hW
  have hA : DataW.TrodAll enc Tryd.prog W 0 (fun _ => true) true Tryd.f3.params.toList args.toList ds p := hA0
  rw [Tryd.params3] at hA hval
  obtain ⟨v0, vs0, d0, ds0, p0, q0, hargs, rfl, rfl, h0, r0⟩ := trodAll_cons hA
  obtain ⟨v1, vs1, d1, ds1, p1, q1, rfl, rfl, rfl, h1, r1⟩ := trodAll_cons r0
  obtain ⟨v2, vs2, d2, ds2, p2, q2, rfl, rfl, rfl, h2, r2⟩ := trodAll_cons r1
  obtain ⟨rfl, rfl, rfl⟩ := trodAll_nil r2
  obtain rfl : args = #[v0, v1, v2] := by cases args; simp_all
  clear hA0 hval0 hA hcnd hfz hnd
  have hlt0 : ∀ x ∈ p0, x.block < W.heap.size := fun x hx => hltB x (by simp [hx])
  have hlt1 : ∀ x ∈ p1, x.block < W.heap.size := fun x hx => hltB x (by simp [hx])
  have hlt2 : ∀ x ∈ p2, x.block < W.heap.size := fun x hx => hltB x (by simp [hx])
  obtain ⟨u0_0, y0_0, m0, rfl, rfl, rfl, g0_0⟩ := open_agg1 Tryd.underlying24 (by kernel_rfl) (by kernel_rfl) (hval 0 24 v0 rfl rfl) h0
  obtain ⟨gs, hgs, bgs⟩ := trod_sl Tryd.underlying22 Tryd.underlying2 (by kernel_rfl) g0_0 (fun x hx => hlt0 x (by simp [hx]))
  obtain ⟨u1_0, u1_1, y1_0, y1_1, m1, rfl, rfl, rfl, g1_0, g1_1⟩ := Joins.open_agg2 Tryd.underlying26 (by kernel_rfl) (by kernel_rfl) (hval 1 26 v1 rfl rfl) h1
  obtain ⟨sh, rfl, bsh⟩ := trod_i64 Tryd.underlying2 g1_0
  obtain ⟨sq, rfl, bsq⟩ := trod_i64 Tryd.underlying2 g1_1
  obtain ⟨s, rfl, rfl, rfl, ws⟩ := Go.ChangeMaps.open_string Tryd.underlying9 (hval 2 9 v2 rfl rfl) h2
  refine (exactMoveHands_walk _ gs s sh sq W hgs).mono fun e W' ⟨he, hb⟩ => ?_
  subst he
  exact ⟨_, rfl, post_law Tryd.laidOut hW' rfl rfl (by kernel_rfl) (by kernel_rfl) Tryd.underlying4 hb⟩

set_option maxHeartbeats 2000000 in
theorem fnExactMoveHands_facts : joinedFacts Tryd.prog 3 Tryd.f3 Rows.fnExactMoveHandsSpec Rows.fnExactMoveHandsRow = true := by
  unfold joinedFacts
  simp only [Bool.and_eq_true]
  repeat' apply And.intro
  all_goals first | with_reducible exact Tryd.laidOut | with_reducible exact Tryd.g2 | with_reducible exact Tryd.g24 | with_reducible exact Tryd.g25 | (rw [Tryd.g26]; rfl) | (rw [Tryd.g27]; rfl) | as_aux_lemma => kernel_rfl
/-- The statement. -/
theorem fnExactMoveHands_holds : Rows.FnExactMoveHandsSaid :=
  OpenClaim.holds_of_wide 3 Tryd.f3 rfl rfl rfl rfl rfl rfl rfl ⟨rfl, rfl, rfl, rfl, rfl⟩ rfl rfl rfl rfl rfl (by as_aux_lemma => kernel_rfl) Tryd.func3 fnExactMoveHands_facts
    (by as_aux_lemma => exact of_decide_eq_true (by kernel_rfl)) (by as_aux_lemma => unfold Func.isWrapper; rw [if_neg (of_decide_eq_false (by kernel_rfl))]; exact ⟨rfl, rfl⟩)
    (fun os started H enc _ => fnExactMoveHands_lifted os started H enc)
/-- The card. -/
theorem fnExactMoveHands_card : Rows.FnExactMoveHandsCardSaid :=
  Claim7.holds_tied_plain_at .later [] [.data, .pinned] true (true, "a60b9ccea365084ae19031547614f694475d4502188d491dabf98e0fff8eab37") false fnExactMoveHands_holds (fun _ h => by cases h) (by kernel_rfl) (fun _ h => by cases h) fnExactMoveHands_row_tie rfl ⟨rfl, rfl⟩ (by kernel_rfl) rfl
    (fun f fn hf hfn => by
      obtain rfl : f = 3 := Option.some.inj ((show Tryd.prog.funcNamed "loop.example/g00921/laws.FnExactMoveHands" = some 3 by kernel_rfl).symm.trans hf) |>.symm
      obtain rfl : fn = Tryd.f3 := (Option.some.inj (Tryd.func3.symm.trans hfn)).symm
      exact ⟨by kernel_rfl, fun j t ht => by
        rw [Tryd.params3] at ht
        have hm : t ∈ [24, 26, 9] := by simpa using Array.mem_of_getElem? ht
        have hall : ([24, 26, 9].all fun u => !Tryd.prog.wantsStandIn u) = true := by kernel_rfl
        exact (show Tryd.prog.wantsStandIn t = false by simpa using List.all_eq_true.1 hall t hm)⟩)
    (by kernel_rfl)
#print axioms fnExactMoveHands_card
end Go.Proofs.YtfddibdncniekaaDoor
