/- FnExactReachableHands is proved: for every wheel, state and text the program's ReachableHands and the reference's return the same states and number, the wheel is not changed, and what is returned shares no memory with anything else. No condition. -/
import Derived.Test.YtfddibdncniekaaDoorHsR
import Derived.Test.YtfddibdncniekaaDoorStCountWheel
import Derived.Test.YtfddibdncniekaaDoorSiHandState
import Derived.Test.YtfddibdncniekaaDoorPxHandState
import Derived.Test.YtfddibdncniekaaDoorCpy
import Derived.Test.YtfddibdncniekaaDoorRowF
import Derived.Test.YtfddibdncniekaaDoorBx
import Derived.Test.YtfddibdncniekaaDoorRow1
import Derived.Test.YtfddibdncniekaaDoorCards
import Derived.Test.YtfddibdncniekaaDoorTie
import Derived.OpenShut
import Derived.LaidMore
import Derived.Lay
import Derived.SevenTiedAt
import Derived.Stop.Joined
import Derived.ChangeMaps5
import Derived.Deep.RegionHeld3
import Derived.Deep.DeepCutAuto
namespace Go.Proofs.YtfddibdncniekaaDoor
open Go.ChangeShapes Go.WideShapes Go.ChangeAt Go.RowKit
attribute [local go_sem ↓] Go.wp_at_zero Go.wp_at_succ

set_option maxRecDepth 100000 in
set_option maxHeartbeats 16000000 in
theorem exactReachableHands_walk (v : Value) (gs : List Int) (s : ByteArray) (sh sq : Int) (W : World) (hv_v : Sl W v gs) :
    Calls Tryd.prog 10 #[.agg #[v], .agg #[.int .i64 sh, .int .i64 sq], .string s] W fun e W' => e = .returned (.bool true) ∧ Below W.heap.size W W' := by
  have HV_v := Lib.hid hv_v
  clear hv_v
  by_cases hl_s : s.size ≤ 1048576
  · skip
    by_cases hl_gs : gs.length ≤ 1048576
    · skip
      obtain ⟨rl, rc, hL_rl, HFI, HFS⟩ := ReachableHands_both gs sh sq s (by omega)
      have HI := Lib.hid HFI
      have HS := Lib.hid HFS
      clear HFI HFS
      go_enter Tryd.func10, Tryd.ntmps10
      have kk := bx2 W 24 26 #[v] #[.int .i64 sh, .int .i64 sq]
      obtain ⟨k0, k1⟩ := kk
      have KH0 := Lib.hid k0
      have KH1 := Lib.hid k1
      clear k0 k1
      go_wp2_with fail
      refine (szCountWheel_fits v gs _ _ (HV_v.out.below (by first | (with_reducible exact Below.refl _ _) | go_grown)) (by omega) (by omega)).mono ?_
      rintro e w1 ⟨rfl, hb⟩
      have x0 := KH0.out.below hb
      have c0_0 : w1.cell? ⟨W.heap.size, 0, none⟩ = some (v) := x0.cell 0 rfl
      have l0 := x0.lt
      clear x0 KH0
      have Q0 := Lib.hid l0
      have x1 := KH1.out.below hb
      have c1_0 : w1.cell? ⟨W.heap.size + 1, 0, none⟩ = some (.int .i64 sh) := x1.cell 0 rfl
      have c1_1 : w1.cell? ⟨W.heap.size + 1, 1, none⟩ = some (.int .i64 sq) := x1.cell 1 rfl
      have l1 := x1.lt
      clear x1 KH1
      have Q1 := Lib.hid l1
      have old : Below W.heap.size W w1 := Below.trans (by first | exact Below.refl _ _ | go_grown) (hb.mono (by first | (with_reducible exact Nat.le_refl _) | (with_reducible assumption) | (simp [go_sem]; done) | (simp [go_sem]; omega) | omega))
      have z_w1 := old.size
      clear hb
      go_upto_region 7 with (fail)
      go_cut [8, 9] (fun a8 a9 wr => ∃ (vw_0 : Value), vw_0 = a8 ∧ a9 = .int .i64 rc ∧ wr.ownsRow w1.heap.size 28 2 vw_0 rl.length (P64 rl) ∧ Below w1.heap.size w1 wr)
      case first =>
        have HSr := Lib.hid (fun (w' : World) (hb : Below w1.heap.size w1 w') => (⟨(hb.cell (p := ⟨W.heap.size, 0, none⟩) l0).trans c0_0, (hb.cell (p := ⟨W.heap.size + 1, 0, none⟩) l1).trans c1_0, (hb.cell (p := ⟨W.heap.size + 1, 1, none⟩) l1).trans c1_1⟩ : w'.cell? ⟨W.heap.size, 0, none⟩ = some (v) ∧ w'.cell? ⟨W.heap.size + 1, 0, none⟩ = some (.int .i64 sh) ∧ w'.cell? ⟨W.heap.size + 1, 1, none⟩ = some (.int .i64 sq)))
        have b_w1 := Below.refl w1.heap.size w1
        go_region_held3 (fun w' => w'.cell? ⟨W.heap.size, 0, none⟩ = some (v) ∧ w'.cell? ⟨W.heap.size + 1, 0, none⟩ = some (.int .i64 sh) ∧ w'.cell? ⟨W.heap.size + 1, 1, none⟩ = some (.int .i64 sq)) (first | assumption | exact HSr.out _ (by go_grown) | go_keep)
          (first
            | (go_at_call 14; refine (toCountWheel_any v gs _ (HV_v.out.below (grown_again old (by first | (with_reducible exact Below.refl _ _) | go_grown))) hl_gs).mono ?_; rintro e w2 ⟨uw2, rfl, o_uw2, hb⟩; have b_w2 : Below w1.heap.size w1 w2 := Below.trans (grown_again b_w1 (by first | (with_reducible exact Below.refl _ _) | go_grown)) (hb.mono (by first | (with_reducible exact Nat.le_refl _) | (with_reducible assumption) | (simp [go_sem]; done) | (simp [go_sem]; omega) | omega)); have y_w2 := b_w2.size; (try (have a_w2_w1 : w1.heap.size < w2.heap.size := Nat.lt_of_lt_of_le (by first | assumption | (simp [go_sem]; done) | (simp only [go_sem]; omega) | (simp [go_sem]; omega)) hb.size)); obtain ⟨hc_w2, hf_w2⟩ := bcell hb; have s_uw2 := Sl.of_own o_uw2; clear o_uw2; have S_w2 := HSr.out _ b_w2; clear hb)
            | (go_at_call 15; refine (toHandState_any sh sq _).mono ?_; rintro e w3 ⟨rfl, hb⟩; have b_w3 : Below w1.heap.size w1 w3 := Below.trans (grown_again b_w2 (by first | (with_reducible exact Below.refl _ _) | go_grown)) (hb.mono (by first | (with_reducible exact Nat.le_refl _) | (with_reducible assumption) | (simp [go_sem]; done) | (simp [go_sem]; omega) | omega)); have y_w3 := b_w3.size; (try (have a_w3_w2 : w2.heap.size < w3.heap.size := Nat.lt_of_lt_of_le (by first | assumption | (simp [go_sem]; done) | (simp only [go_sem]; omega) | (simp [go_sem]; omega)) hb.size)); (try (have a_w3_w1 : w1.heap.size < w3.heap.size := Nat.lt_of_lt_of_le (by first | assumption | (simp [go_sem]; done) | (simp only [go_sem]; omega) | (simp [go_sem]; omega)) hb.size)); obtain ⟨hc_w3, hf_w3⟩ := bcell hb; replace s_uw2 := (s_uw2.below (by first | (with_reducible exact Below.refl _ _) | go_grown)).below hb; have S_w3 := HSr.out _ b_w3; clear hb)
            | (go_at_call 45; refine (HS.out uw2 _ (s_uw2.below (by first | (with_reducible exact Below.refl _ _) | go_grown))).mono ?_; rintro e w4 ⟨vw_0, rfl, o_vw_0, hb⟩; obtain ⟨A_vw_0, C_vw_0, rfl⟩ := own_form o_vw_0; have b_w4 : Below w1.heap.size w1 w4 := Below.trans (grown_again b_w3 (by first | (with_reducible exact Below.refl _ _) | go_grown)) (hb.mono (by first | (with_reducible exact Nat.le_refl _) | (with_reducible assumption) | (simp [go_sem]; done) | (simp [go_sem]; omega) | omega)); have y_w4 := b_w4.size; (try (have a_w4_w2 : w2.heap.size < w4.heap.size := Nat.lt_of_lt_of_le (by first | assumption | (simp [go_sem]; done) | (simp only [go_sem]; omega) | (simp [go_sem]; omega)) hb.size)); (try (have a_w4_w3 : w3.heap.size < w4.heap.size := Nat.lt_of_lt_of_le (by first | assumption | (simp [go_sem]; done) | (simp only [go_sem]; omega) | (simp [go_sem]; omega)) hb.size)); (try (have a_w4_w1 : w1.heap.size < w4.heap.size := Nat.lt_of_lt_of_le (by first | assumption | (simp [go_sem]; done) | (simp only [go_sem]; omega) | (simp [go_sem]; omega)) hb.size)); obtain ⟨hc_w4, hf_w4⟩ := bcell hb; have S_w4 := HSr.out _ b_w4; clear hb))
        all_goals (go_wp2_with fail; go_meet)
        all_goals refine ⟨.slice A_vw_0 rl.length C_vw_0, rfl, rfl, ?_, ?_⟩
        all_goals first
          | (with_reducible exact Nat.le_refl _) | (with_reducible assumption)
          | (go_grown; done)
          | (simp [go_sem, *]; done)
          | ((repeat' first | exact own_mono o_vw_0 (by first | (with_reducible exact Nat.le_refl _) | (with_reducible assumption) | (simp [go_sem]; done) | (simp [go_sem]; omega) | omega) | refine own_far ?_ ?_ _ | refine World.ownsRow.alloc ?_ _); all_goals (exact own_ne o_vw_0 (Or.inl (by first | assumption | (simp; done) | omega))); done)
          | (have := b_w2.size; have := b_w3.size; have := b_w4.size; simp; omega)
      case rest =>
        obtain ⟨w5, rfl⟩ : ∃ x : World, x = wc := ⟨_, rfl⟩
        obtain ⟨vw_0, rfl, rfl, o_vw_0, hb⟩ := hcut
        have R_vw_0 := Lib.hid (rng_of o_vw_0 (Nat.le_refl w1.heap.size))
        replace c0_0 := (hb.cell (p := ⟨W.heap.size, 0, none⟩) l0).trans c0_0
        replace l0 := Nat.lt_of_lt_of_le l0 hb.size
        replace c1_0 := (hb.cell (p := ⟨W.heap.size + 1, 0, none⟩) l1).trans c1_0
        replace c1_1 := (hb.cell (p := ⟨W.heap.size + 1, 1, none⟩) l1).trans c1_1
        replace l1 := Nat.lt_of_lt_of_le l1 hb.size
        replace old := grown_again old hb
        have z_w5 := hb.size
        clear hb
        go_upto_region 8 with (fail)
        go_cut [10] (fun a10 wr => ∃ (gx0_0 : Nat) (vx0 : Value), a10 = .pointer (some ⟨gx0_0, 0, none⟩) ∧ (w5.heap.size ≤ gx0_0 ∧ gx0_0 < wr.heap.size) ∧ wr.cell? ⟨gx0_0, 0, none⟩ = some (vx0) ∧ wr.ownsRow w5.heap.size 2 1 vx0 gs.length (I64 gs) ∧ some gx0_0 ≠ vx0.ownBlock ∧ Below w5.heap.size w5 wr)
        case first =>
          have b_w5 := Below.refl w5.heap.size w5
          go_wp2_with fail
          refine (toCountWheel_any v gs _ (HV_v.out.below (grown_again old (by first | (with_reducible exact Below.refl _ _) | go_grown))) hl_gs).mono ?_
          rintro e w6 ⟨vx0, rfl, o_vx0, hb⟩
          obtain ⟨A_vx0, C_vx0, rfl⟩ := own_form o_vx0
          have b_w6 : Below w5.heap.size w5 w6 := Below.trans (grown_again b_w5 (by first | (with_reducible exact Below.refl _ _) | go_grown)) (hb.mono (by first | (with_reducible exact Nat.le_refl _) | (with_reducible assumption) | (simp [go_sem]; done) | (simp [go_sem]; omega) | omega))
          have y_w6 := b_w6.size
          (try (have a_w6_w5 : w5.heap.size < w6.heap.size := Nat.lt_of_lt_of_le (by first | assumption | (simp [go_sem]; done) | (simp only [go_sem]; omega) | (simp [go_sem]; omega)) hb.size))
          obtain ⟨hc_w6, hf_w6⟩ := bcell hb
          clear hb
          all_goals (go_wp2_with fail; go_meet)
          all_goals refine ⟨_, .slice A_vx0 gs.length C_vx0, rfl, ⟨?_, ?_⟩, ?_, ?_, ?_, ?_⟩
          all_goals first
            | (with_reducible exact Nat.le_refl _) | (with_reducible assumption)
            | (go_grown; done)
            | (simp [go_sem, *]; done)
            | ((repeat' first | exact own_mono o_vx0 (by first | (with_reducible exact Nat.le_refl _) | (with_reducible assumption) | (simp [go_sem]; done) | (simp [go_sem]; omega) | omega) | refine own_far ?_ ?_ _ | refine World.ownsRow.alloc ?_ _); all_goals (exact own_ne o_vx0 (Or.inl (by first | assumption | (simp; done) | omega))); done)
            | exact own_ne o_vx0 (Or.inr (by first | (with_reducible exact Nat.le_refl _) | (with_reducible assumption) | (simp [go_sem]; done) | (simp [go_sem]; omega) | omega)) | exact own_ne o_vx0 (Or.inl (by first | (with_reducible exact Nat.le_refl _) | (with_reducible assumption) | (simp [go_sem]; done) | (simp [go_sem]; omega) | omega))
            | (have := b_w6.size; simp; omega)
        case rest =>
          obtain ⟨w7, rfl⟩ : ∃ x : World, x = wc := ⟨_, rfl⟩
          obtain ⟨gx0_0, vx0, rfl, ⟨rgx0_0, l2⟩, c2_0, o_vx0, m_gx0_0_vx0, hb⟩ := hcut
          have Q2 : Hid (w5.heap.size ≤ gx0_0 ∧ gx0_0 < w7.heap.size) := ⟨rgx0_0, l2⟩
          have R_vx0 := Lib.hid (rng_of o_vx0 (Nat.le_refl w5.heap.size))
          have E2_vx0 := Lib.hid m_gx0_0_vx0
          clear m_gx0_0_vx0
          clear rgx0_0
          replace c0_0 := (hb.cell (p := ⟨W.heap.size, 0, none⟩) l0).trans c0_0
          replace l0 := Nat.lt_of_lt_of_le l0 hb.size
          replace c1_0 := (hb.cell (p := ⟨W.heap.size + 1, 0, none⟩) l1).trans c1_0
          replace c1_1 := (hb.cell (p := ⟨W.heap.size + 1, 1, none⟩) l1).trans c1_1
          replace l1 := Nat.lt_of_lt_of_le l1 hb.size
          replace o_vw_0 := own_below o_vw_0 hb
          replace old := grown_again old hb
          have z_w7 := hb.size
          clear hb
          go_upto_region 9 with (fail)
          go_cut [11, 12] (fun a11 a12 wr => ∃ (vg_0 : Value), vg_0 = a11 ∧ a12 = .int .i64 rc ∧ wr.ownsRow w7.heap.size 28 2 vg_0 rl.length (P64 rl) ∧ Below w7.heap.size w7 wr)
          case first =>
            have HSr := Lib.hid (fun (w' : World) (hb : Below w7.heap.size w7 w') => (⟨(hb.cell (p := ⟨gx0_0, 0, none⟩) l2).trans c2_0, (hb.cell (p := ⟨W.heap.size + 1, 0, none⟩) l1).trans c1_0, (hb.cell (p := ⟨W.heap.size + 1, 1, none⟩) l1).trans c1_1⟩ : w'.cell? ⟨gx0_0, 0, none⟩ = some (vx0) ∧ w'.cell? ⟨W.heap.size + 1, 0, none⟩ = some (.int .i64 sh) ∧ w'.cell? ⟨W.heap.size + 1, 1, none⟩ = some (.int .i64 sq)))
            have b_w7 := Below.refl w7.heap.size w7
            go_region_held3 (fun w' => w'.cell? ⟨gx0_0, 0, none⟩ = some (vx0) ∧ w'.cell? ⟨W.heap.size + 1, 0, none⟩ = some (.int .i64 sh) ∧ w'.cell? ⟨W.heap.size + 1, 1, none⟩ = some (.int .i64 sq)) (first | assumption | exact HSr.out _ (by go_grown) | go_keep)
              (first
                | (go_at_call 15; refine (toHandState_any sh sq _).mono ?_; rintro e w8 ⟨rfl, hb⟩; have b_w8 : Below w7.heap.size w7 w8 := Below.trans (grown_again b_w7 (by first | (with_reducible exact Below.refl _ _) | go_grown)) (hb.mono (by first | (with_reducible exact Nat.le_refl _) | (with_reducible assumption) | (simp [go_sem]; done) | (simp [go_sem]; omega) | omega)); have y_w8 := b_w8.size; (try (have a_w8_w7 : w7.heap.size < w8.heap.size := Nat.lt_of_lt_of_le (by first | assumption | (simp [go_sem]; done) | (simp only [go_sem]; omega) | (simp [go_sem]; omega)) hb.size)); obtain ⟨hc_w8, hf_w8⟩ := bcell hb; have S_w8 := HSr.out _ b_w8; clear hb)
                | (go_at_call 46; refine (HI.out vx0 _ ((Sl.of_own o_vx0).below (grown_again b_w7 (by first | (with_reducible exact Below.refl _ _) | go_grown)))).mono ?_; rintro e w9 ⟨vg_0, rfl, o_vg_0, hb⟩; obtain ⟨A_vg_0, C_vg_0, rfl⟩ := own_form o_vg_0; have b_w9 : Below w7.heap.size w7 w9 := Below.trans (grown_again b_w8 (by first | (with_reducible exact Below.refl _ _) | go_grown)) (hb.mono (by first | (with_reducible exact Nat.le_refl _) | (with_reducible assumption) | (simp [go_sem]; done) | (simp [go_sem]; omega) | omega)); have y_w9 := b_w9.size; (try (have a_w9_w8 : w8.heap.size < w9.heap.size := Nat.lt_of_lt_of_le (by first | assumption | (simp [go_sem]; done) | (simp only [go_sem]; omega) | (simp [go_sem]; omega)) hb.size)); (try (have a_w9_w7 : w7.heap.size < w9.heap.size := Nat.lt_of_lt_of_le (by first | assumption | (simp [go_sem]; done) | (simp only [go_sem]; omega) | (simp [go_sem]; omega)) hb.size)); obtain ⟨hc_w9, hf_w9⟩ := bcell hb; have S_w9 := HSr.out _ b_w9; clear hb))
            all_goals (go_wp2_with fail; go_meet)
            all_goals refine ⟨.slice A_vg_0 rl.length C_vg_0, rfl, rfl, ?_, ?_⟩
            all_goals first
              | (with_reducible exact Nat.le_refl _) | (with_reducible assumption)
              | (go_grown; done)
              | (simp [go_sem, *]; done)
              | ((repeat' first | exact own_mono o_vg_0 (by first | (with_reducible exact Nat.le_refl _) | (with_reducible assumption) | (simp [go_sem]; done) | (simp [go_sem]; omega) | omega) | refine own_far ?_ ?_ _ | refine World.ownsRow.alloc ?_ _); all_goals (exact own_ne o_vg_0 (Or.inl (by first | assumption | (simp; done) | omega))); done)
              | (have := b_w8.size; have := b_w9.size; simp; omega)
          case rest =>
            obtain ⟨w10, rfl⟩ : ∃ x : World, x = wc := ⟨_, rfl⟩
            obtain ⟨vg_0, rfl, rfl, o_vg_0, hb⟩ := hcut
            have R_vg_0 := Lib.hid (rng_of o_vg_0 (Nat.le_refl w7.heap.size))
            replace c0_0 := (hb.cell (p := ⟨W.heap.size, 0, none⟩) l0).trans c0_0
            replace l0 := Nat.lt_of_lt_of_le l0 hb.size
            replace c1_0 := (hb.cell (p := ⟨W.heap.size + 1, 0, none⟩) l1).trans c1_0
            replace c1_1 := (hb.cell (p := ⟨W.heap.size + 1, 1, none⟩) l1).trans c1_1
            replace l1 := Nat.lt_of_lt_of_le l1 hb.size
            replace c2_0 := (hb.cell (p := ⟨gx0_0, 0, none⟩) l2).trans c2_0
            replace l2 := Nat.lt_of_lt_of_le l2 hb.size
            replace o_vw_0 := own_below o_vw_0 hb
            replace o_vx0 := own_below o_vx0 hb
            replace old := grown_again old hb
            have z_w10 := hb.size
            clear hb
            go_wp2_with fail
            refine (eqHandStateS_b vg_0 vw_0 rl _ (((SlP.of_own o_vg_0)).below (by first | (with_reducible exact Below.refl _ _) | go_grown)) (((SlP.of_own o_vw_0)).below (by first | (with_reducible exact Below.refl _ _) | go_grown))).mono ?_
            rintro e w11 ⟨rfl, hb⟩
            have b_w11 : Below w10.heap.size w10 w11 := Below.trans (by first | (with_reducible exact Below.refl _ _) | go_grown) (hb.mono (by first | (with_reducible exact Nat.le_refl _) | (with_reducible assumption) | (simp [go_sem]; done) | (simp [go_sem]; omega) | omega))
            clear hb
            replace c0_0 := (b_w11.cell (p := ⟨W.heap.size, 0, none⟩) l0).trans c0_0
            replace l0 := Nat.lt_of_lt_of_le l0 b_w11.size
            replace c1_0 := (b_w11.cell (p := ⟨W.heap.size + 1, 0, none⟩) l1).trans c1_0
            replace c1_1 := (b_w11.cell (p := ⟨W.heap.size + 1, 1, none⟩) l1).trans c1_1
            replace l1 := Nat.lt_of_lt_of_le l1 b_w11.size
            replace c2_0 := (b_w11.cell (p := ⟨gx0_0, 0, none⟩) l2).trans c2_0
            replace l2 := Nat.lt_of_lt_of_le l2 b_w11.size
            replace o_vw_0 := own_below o_vw_0 b_w11
            replace o_vx0 := own_below o_vx0 b_w11
            replace o_vg_0 := own_below o_vg_0 b_w11
            replace old := grown_again old b_w11
            have z_w11 := b_w11.size
            clear b_w11
            go_upto_region 12 with (fail)
            have HSr := Lib.hid (fun (w' : World) (hb : Below w11.heap.size w11 w') => (⟨(hb.cell (p := ⟨gx0_0, 0, none⟩) l2).trans c2_0, (hb.cell (p := ⟨W.heap.size, 0, none⟩) l0).trans c0_0⟩ : w'.cell? ⟨gx0_0, 0, none⟩ = some (vx0) ∧ w'.cell? ⟨W.heap.size, 0, none⟩ = some (v)))
            go_region_held3 (fun w' => w'.cell? ⟨gx0_0, 0, none⟩ = some (vx0) ∧ w'.cell? ⟨W.heap.size, 0, none⟩ = some (v)) (first | assumption | exact HSr.out _ (by go_grown) | go_keep)
              (first
                | (go_at_call 14; refine (toCountWheel_any v gs _ (HV_v.out.below (grown_again old (by first | (with_reducible exact Below.refl _ _) | go_grown))) hl_gs).mono ?_; rintro e w12 ⟨uw12, rfl, o_uw12, hb⟩; have b_w12 : Below w11.heap.size w11 w12 := Below.trans (by first | (with_reducible exact Below.refl _ _) | go_grown) (hb.mono (by first | (with_reducible exact Nat.le_refl _) | (with_reducible assumption) | (simp [go_sem]; done) | (simp [go_sem]; omega) | omega)); have y_w12 := b_w12.size; have S_w12 := HSr.out _ b_w12; have s_uw12 := Sl.of_own o_uw12; clear o_uw12; clear hb)
                | (go_at_call 19; refine (eqCountWheel_true vx0 uw12 gs _ ((Sl.of_own o_vx0).below (grown_again b_w12 (by first | (with_reducible exact Below.refl _ _) | go_grown))) (s_uw12.below (by first | (with_reducible exact Below.refl _ _) | go_grown))).mono ?_; rintro e w13 ⟨rfl, hb⟩; have b_w13 : Below w11.heap.size w11 w13 := Below.trans (grown_again b_w12 (by first | (with_reducible exact Below.refl _ _) | go_grown)) (hb.mono (by first | (with_reducible exact Nat.le_refl _) | (with_reducible assumption) | (simp [go_sem]; done) | (simp [go_sem]; omega) | omega)); have S_w13 := HSr.out _ b_w13; clear hb))
            clear HSr S_w12 S_w13 s_uw12
            replace c0_0 := (b_w13.cell (p := ⟨W.heap.size, 0, none⟩) l0).trans c0_0
            replace l0 := Nat.lt_of_lt_of_le l0 b_w13.size
            replace c1_0 := (b_w13.cell (p := ⟨W.heap.size + 1, 0, none⟩) l1).trans c1_0
            replace c1_1 := (b_w13.cell (p := ⟨W.heap.size + 1, 1, none⟩) l1).trans c1_1
            replace l1 := Nat.lt_of_lt_of_le l1 b_w13.size
            replace c2_0 := (b_w13.cell (p := ⟨gx0_0, 0, none⟩) l2).trans c2_0
            replace l2 := Nat.lt_of_lt_of_le l2 b_w13.size
            replace o_vw_0 := own_below o_vw_0 b_w13
            replace o_vx0 := own_below o_vx0 b_w13
            replace o_vg_0 := own_below o_vg_0 b_w13
            replace old := grown_again old b_w13
            have z_w13 := b_w13.size
            clear b_w12 b_w13
            go_wp2_with fail
            have M := markCountWheel_any vx0 1 gs _ w13 o_vx0 (by omega) (by omega) (by omega)
            have M := Lib.hid M
            refine M.out.mono ?_
            rintro e w14 ⟨rfl, om, hg⟩
            clear M
            replace c0_0 := hg.cell c0_0 (Rng.ne (g := W.heap.size) R_vx0.out (by have := Q0.out; omega))
            replace l0 := Nat.lt_of_lt_of_le l0 hg.size
            replace c1_0 := hg.cell c1_0 (Rng.ne (g := W.heap.size + 1) R_vx0.out (by have := Q1.out; omega))
            replace c1_1 := hg.cell c1_1 (Rng.ne (g := W.heap.size + 1) R_vx0.out (by have := Q1.out; omega))
            replace l1 := Nat.lt_of_lt_of_le l1 hg.size
            replace c2_0 := hg.cell c2_0 E2_vx0.out
            replace l2 := Nat.lt_of_lt_of_le l2 hg.size
            replace o_vw_0 := o_vw_0.kept hg (Rng.apart R_vw_0.out R_vx0.out (by omega))
            replace o_vg_0 := o_vg_0.kept hg (Rng.apart R_vg_0.out R_vx0.out (by omega))
            replace old := below_grown old hg R_vx0.out (by omega)
            have z_w14 := hg.size
            replace o_vx0 := om
            clear hg
            go_wp2_with fail
            refine (eqHandStateS_b vg_0 vw_0 rl _ (((SlP.of_own o_vg_0)).below (by first | (with_reducible exact Below.refl _ _) | go_grown)) (((SlP.of_own o_vw_0)).below (by first | (with_reducible exact Below.refl _ _) | go_grown))).mono ?_
            rintro e w15 ⟨rfl, hb⟩
            have b_w15 : Below w14.heap.size w14 w15 := Below.trans (by first | (with_reducible exact Below.refl _ _) | go_grown) (hb.mono (by first | (with_reducible exact Nat.le_refl _) | (with_reducible assumption) | (simp [go_sem]; done) | (simp [go_sem]; omega) | omega))
            clear hb
            replace c0_0 := (b_w15.cell (p := ⟨W.heap.size, 0, none⟩) l0).trans c0_0
            replace l0 := Nat.lt_of_lt_of_le l0 b_w15.size
            replace c1_0 := (b_w15.cell (p := ⟨W.heap.size + 1, 0, none⟩) l1).trans c1_0
            replace c1_1 := (b_w15.cell (p := ⟨W.heap.size + 1, 1, none⟩) l1).trans c1_1
            replace l1 := Nat.lt_of_lt_of_le l1 b_w15.size
            replace c2_0 := (b_w15.cell (p := ⟨gx0_0, 0, none⟩) l2).trans c2_0
            replace l2 := Nat.lt_of_lt_of_le l2 b_w15.size
            replace o_vw_0 := own_below o_vw_0 b_w15
            replace o_vx0 := own_below o_vx0 b_w15
            replace o_vg_0 := own_below o_vg_0 b_w15
            replace old := grown_again old b_w15
            have z_w15 := b_w15.size
            clear b_w15
            go_wp2_with fail
            have M := markHandStateS_any vg_0 1 rl _ w15 o_vg_0 (by omega) (by omega) (by omega)
            have M := Lib.hid M
            refine M.out.mono ?_
            rintro e w16 ⟨rfl, om, hg⟩
            clear M
            replace c0_0 := hg.cell c0_0 (Rng.ne (g := W.heap.size) R_vg_0.out (by have := Q0.out; omega))
            replace l0 := Nat.lt_of_lt_of_le l0 hg.size
            replace c1_0 := hg.cell c1_0 (Rng.ne (g := W.heap.size + 1) R_vg_0.out (by have := Q1.out; omega))
            replace c1_1 := hg.cell c1_1 (Rng.ne (g := W.heap.size + 1) R_vg_0.out (by have := Q1.out; omega))
            replace l1 := Nat.lt_of_lt_of_le l1 hg.size
            replace c2_0 := hg.cell c2_0 (Rng.ne (g := gx0_0) R_vg_0.out (by have := Q2.out; omega))
            replace l2 := Nat.lt_of_lt_of_le l2 hg.size
            replace o_vw_0 := o_vw_0.kept hg (Rng.apart R_vw_0.out R_vg_0.out (by omega))
            replace o_vx0 := o_vx0.kept hg (Rng.apart R_vx0.out R_vg_0.out (by omega))
            replace old := below_grown old hg R_vg_0.out (by omega)
            have z_w16 := hg.size
            replace o_vg_0 := om
            clear hg
            go_wp2_with fail
            refine (heldHandStateS_any vg_0 1 rl.length _ ((SlP.of_own o_vg_0).below (by first | (with_reducible exact Below.refl _ _) | go_grown)) (by omega) (by omega) (by omega)).mono ?_
            rintro e w' ⟨rfl, rfl⟩
            go_upto_region 26 with (fail)
            go_cut [16, 17] (fun a16 a17 wr => ∃ (vh_0 : Value), vh_0 = a16 ∧ a17 = .int .i64 rc ∧ wr.ownsRow w16.heap.size 28 2 vh_0 rl.length (P64 rl) ∧ Below w16.heap.size w16 wr)
            case first =>
              have HSr := Lib.hid (fun (w' : World) (hb : Below w16.heap.size w16 w') => (⟨(hb.cell (p := ⟨W.heap.size, 0, none⟩) l0).trans c0_0, (hb.cell (p := ⟨W.heap.size + 1, 0, none⟩) l1).trans c1_0, (hb.cell (p := ⟨W.heap.size + 1, 1, none⟩) l1).trans c1_1⟩ : w'.cell? ⟨W.heap.size, 0, none⟩ = some (v) ∧ w'.cell? ⟨W.heap.size + 1, 0, none⟩ = some (.int .i64 sh) ∧ w'.cell? ⟨W.heap.size + 1, 1, none⟩ = some (.int .i64 sq)))
              have b_w16 := Below.refl w16.heap.size w16
              go_region_held3 (fun w' => w'.cell? ⟨W.heap.size, 0, none⟩ = some (v) ∧ w'.cell? ⟨W.heap.size + 1, 0, none⟩ = some (.int .i64 sh) ∧ w'.cell? ⟨W.heap.size + 1, 1, none⟩ = some (.int .i64 sq)) (first | assumption | exact HSr.out _ (by go_grown) | go_keep)
                (first
                  | (go_at_call 14; refine (toCountWheel_any v gs _ (HV_v.out.below (grown_again old (by first | (with_reducible exact Below.refl _ _) | go_grown))) hl_gs).mono ?_; rintro e w18 ⟨uw18, rfl, o_uw18, hb⟩; have b_w18 : Below w16.heap.size w16 w18 := Below.trans (grown_again b_w16 (by first | (with_reducible exact Below.refl _ _) | go_grown)) (hb.mono (by first | (with_reducible exact Nat.le_refl _) | (with_reducible assumption) | (simp [go_sem]; done) | (simp [go_sem]; omega) | omega)); have y_w18 := b_w18.size; (try (have a_w18_w16 : w16.heap.size < w18.heap.size := Nat.lt_of_lt_of_le (by first | assumption | (simp [go_sem]; done) | (simp only [go_sem]; omega) | (simp [go_sem]; omega)) hb.size)); obtain ⟨hc_w18, hf_w18⟩ := bcell hb; have s_uw18 := Sl.of_own o_uw18; clear o_uw18; have S_w18 := HSr.out _ b_w18; clear hb)
                  | (go_at_call 15; refine (toHandState_any sh sq _).mono ?_; rintro e w19 ⟨rfl, hb⟩; have b_w19 : Below w16.heap.size w16 w19 := Below.trans (grown_again b_w18 (by first | (with_reducible exact Below.refl _ _) | go_grown)) (hb.mono (by first | (with_reducible exact Nat.le_refl _) | (with_reducible assumption) | (simp [go_sem]; done) | (simp [go_sem]; omega) | omega)); have y_w19 := b_w19.size; (try (have a_w19_w18 : w18.heap.size < w19.heap.size := Nat.lt_of_lt_of_le (by first | assumption | (simp [go_sem]; done) | (simp only [go_sem]; omega) | (simp [go_sem]; omega)) hb.size)); (try (have a_w19_w16 : w16.heap.size < w19.heap.size := Nat.lt_of_lt_of_le (by first | assumption | (simp [go_sem]; done) | (simp only [go_sem]; omega) | (simp [go_sem]; omega)) hb.size)); obtain ⟨hc_w19, hf_w19⟩ := bcell hb; replace s_uw18 := (s_uw18.below (by first | (with_reducible exact Below.refl _ _) | go_grown)).below hb; have S_w19 := HSr.out _ b_w19; clear hb)
                  | (go_at_call 46; refine (HI.out uw18 _ (s_uw18.below (by first | (with_reducible exact Below.refl _ _) | go_grown))).mono ?_; rintro e w20 ⟨vh_0, rfl, o_vh_0, hb⟩; obtain ⟨A_vh_0, C_vh_0, rfl⟩ := own_form o_vh_0; have b_w20 : Below w16.heap.size w16 w20 := Below.trans (grown_again b_w19 (by first | (with_reducible exact Below.refl _ _) | go_grown)) (hb.mono (by first | (with_reducible exact Nat.le_refl _) | (with_reducible assumption) | (simp [go_sem]; done) | (simp [go_sem]; omega) | omega)); have y_w20 := b_w20.size; (try (have a_w20_w18 : w18.heap.size < w20.heap.size := Nat.lt_of_lt_of_le (by first | assumption | (simp [go_sem]; done) | (simp only [go_sem]; omega) | (simp [go_sem]; omega)) hb.size)); (try (have a_w20_w19 : w19.heap.size < w20.heap.size := Nat.lt_of_lt_of_le (by first | assumption | (simp [go_sem]; done) | (simp only [go_sem]; omega) | (simp [go_sem]; omega)) hb.size)); (try (have a_w20_w16 : w16.heap.size < w20.heap.size := Nat.lt_of_lt_of_le (by first | assumption | (simp [go_sem]; done) | (simp only [go_sem]; omega) | (simp [go_sem]; omega)) hb.size)); obtain ⟨hc_w20, hf_w20⟩ := bcell hb; have S_w20 := HSr.out _ b_w20; clear hb))
              all_goals (go_wp2_with fail; go_meet)
              all_goals refine ⟨.slice A_vh_0 rl.length C_vh_0, rfl, rfl, ?_, ?_⟩
              all_goals first
                | (with_reducible exact Nat.le_refl _) | (with_reducible assumption)
                | (go_grown; done)
                | (simp [go_sem, *]; done)
                | ((repeat' first | exact own_mono o_vh_0 (by first | (with_reducible exact Nat.le_refl _) | (with_reducible assumption) | (simp [go_sem]; done) | (simp [go_sem]; omega) | omega) | refine own_far ?_ ?_ _ | refine World.ownsRow.alloc ?_ _); all_goals (exact own_ne o_vh_0 (Or.inl (by first | assumption | (simp; done) | omega))); done)
                | (have := b_w18.size; have := b_w19.size; have := b_w20.size; simp; omega)
            case rest =>
              obtain ⟨w21, rfl⟩ : ∃ x : World, x = wc := ⟨_, rfl⟩
              obtain ⟨vh_0, rfl, rfl, o_vh_0, hb⟩ := hcut
              have R_vh_0 := Lib.hid (rng_of o_vh_0 (Nat.le_refl w16.heap.size))
              replace c0_0 := (hb.cell (p := ⟨W.heap.size, 0, none⟩) l0).trans c0_0
              replace l0 := Nat.lt_of_lt_of_le l0 hb.size
              replace c1_0 := (hb.cell (p := ⟨W.heap.size + 1, 0, none⟩) l1).trans c1_0
              replace c1_1 := (hb.cell (p := ⟨W.heap.size + 1, 1, none⟩) l1).trans c1_1
              replace l1 := Nat.lt_of_lt_of_le l1 hb.size
              replace c2_0 := (hb.cell (p := ⟨gx0_0, 0, none⟩) l2).trans c2_0
              replace l2 := Nat.lt_of_lt_of_le l2 hb.size
              replace o_vw_0 := own_below o_vw_0 hb
              replace o_vx0 := own_below o_vx0 hb
              replace o_vg_0 := own_below o_vg_0 hb
              replace old := grown_again old hb
              have z_w21 := hb.size
              clear hb
              go_wp2_with fail
              refine (eqHandStateS_b vh_0 vw_0 rl _ (((SlP.of_own o_vh_0)).below (by first | (with_reducible exact Below.refl _ _) | go_grown)) (((SlP.of_own o_vw_0)).below (by first | (with_reducible exact Below.refl _ _) | go_grown))).mono ?_
              rintro e w22 ⟨rfl, hb⟩
              have b_w22 : Below w21.heap.size w21 w22 := Below.trans (by first | (with_reducible exact Below.refl _ _) | go_grown) (hb.mono (by first | (with_reducible exact Nat.le_refl _) | (with_reducible assumption) | (simp [go_sem]; done) | (simp [go_sem]; omega) | omega))
              clear hb
              replace c0_0 := (b_w22.cell (p := ⟨W.heap.size, 0, none⟩) l0).trans c0_0
              replace l0 := Nat.lt_of_lt_of_le l0 b_w22.size
              replace c1_0 := (b_w22.cell (p := ⟨W.heap.size + 1, 0, none⟩) l1).trans c1_0
              replace c1_1 := (b_w22.cell (p := ⟨W.heap.size + 1, 1, none⟩) l1).trans c1_1
              replace l1 := Nat.lt_of_lt_of_le l1 b_w22.size
              replace c2_0 := (b_w22.cell (p := ⟨gx0_0, 0, none⟩) l2).trans c2_0
              replace l2 := Nat.lt_of_lt_of_le l2 b_w22.size
              replace o_vw_0 := own_below o_vw_0 b_w22
              replace o_vx0 := own_below o_vx0 b_w22
              replace o_vg_0 := own_below o_vg_0 b_w22
              replace o_vh_0 := own_below o_vh_0 b_w22
              replace old := grown_again old b_w22
              have z_w22 := b_w22.size
              clear b_w22
              go_wp2_with fail
              refine (heldHandStateS_any vg_0 1 rl.length _ ((SlP.of_own o_vg_0).below (by first | (with_reducible exact Below.refl _ _) | go_grown)) (by omega) (by omega) (by omega)).mono ?_
              rintro e w' ⟨rfl, rfl⟩
              go_wp2
              go_ret
              exact ⟨rfl, old⟩
    · go_enter Tryd.func10, Tryd.ntmps10
      go_wp2_with fail
      refine (szCountWheel_big v gs _ _ (HV_v.out.below (by first | (with_reducible exact Below.refl _ _) | go_grown)) (by omega) (by omega)).mono ?_
      rintro e w1 ⟨rfl, hb⟩
      go_wp2
      go_ret
      exact ⟨rfl, Below.trans (by first | exact Below.refl _ _ | go_grown) (hb.mono (by first | (with_reducible exact Nat.le_refl _) | (with_reducible assumption) | (simp [go_sem]; done) | (simp [go_sem]; omega) | omega))⟩
  · go_enter Tryd.func10, Tryd.ntmps10
    go_wp2
    go_ret
    exact ⟨rfl, by first | exact Below.refl _ _ | go_grown⟩

set_option maxRecDepth 100000 in
theorem fnExactReachableHands_lifted (os : Os) (started : os.Started) (H : Type) (enc : TypeId × Value → H) :
    ReturnsInHanded {} Tryd.checked os 10 .any (fun w args => (Rows.fnExactReachableHandsSpec.pre enc Tryd.prog Tryd.f10 Rows.fnExactReachableHandsRow.domain false w args ∧ laidMetH Tryd.prog Rows.fnExactReachableHandsRow.laid w) ∧ sizedMet enc Tryd.prog Tryd.f10 (OpenSpec.ofChange Rows.fnExactReachableHandsSpec) false w args)
      (Rows.fnExactReachableHandsSpec.post enc Tryd.prog Tryd.f10 false true false false) := by
  refine returnsInHanded_of_change_and (C := Tryd.checked) (X := fun w _ => laidMetH Tryd.prog Rows.fnExactReachableHandsRow.laid w) (fun _ _ _ hh h => h.of_heap hh) Tryd.own started (by kernel_rfl) Tryd.func10
    (ChangeSpec.witness_shaped (enc := enc) (C := Tryd.checked) (os := os) (X := fun w _ => laidMetH Tryd.prog Rows.fnExactReachableHandsRow.laid w) false (World.laidAll Tryd.prog os Rows.fnExactReachableHandsRow.laid) #[.agg #[.slice none 0 0], .agg #[.int .i64 0, .int .i64 0], .string ⟨#[]⟩] 8 (World.laidAll_os _ _ _)
      (World.shaped_of_ZipB (by kernel_rfl) (by kernel_rfl)) (by kernel_rfl) (by kernel_rfl) (by kernel_rfl)
      (by rw [MakeChecks.laidMetH_plain _ _ _ (by kernel_rfl)]; exact laidMet_laidAll _ (by kernel_rfl) (by kernel_rfl))) ?_
  intro W base args ds gs before hval0 hW hcnd _ _ _
  have hval : ∀ (j : Nat) t v, Tryd.f10.params[j]? = some t → args[j]? = some v → Value.okWide Tryd.prog W .any base t v := hval0
  have hW' := hW
  have hltB : ∀ x ∈ before, x.block < W.heap.size := fun x hx => hW.lt x hx
  obtain ⟨p, q, hA0, hV, rfl, hfz, hnd⟩ := hW
  have hA : DataW.TrodAll enc Tryd.prog W 0 (fun _ => true) true Tryd.f10.params.toList args.toList ds p := hA0
  rw [Tryd.params10] at hA hval
  obtain ⟨v0, vs0, d0, ds0, p0, q0, hargs, rfl, rfl, h0, r0⟩ := trodAll_cons hA
  obtain ⟨v1, vs1, d1, ds1, p1, q1, rfl, rfl, rfl, h1, r1⟩ := trodAll_cons r0
  obtain ⟨v2, vs2, d2, ds2, p2, q2, rfl, rfl, rfl, h2, r2⟩ := trodAll_cons r1
  obtain ⟨rfl, rfl, rfl⟩ := trodAll_nil r2
  obtain rfl : args = #[v0, v1, v2] := by cases args; simp_all
  clear hA0 hval0 hA hcnd hfz hnd
  have hlt0 : ∀ x ∈ p0, x.block < W.heap.size := fun x hx => hltB x (by simp [hx])
  have hlt1 : ∀ x ∈ p1, x.block < W.heap.size := fun x hx => hltB x (by simp [hx])
  have hlt2 : ∀ x ∈ p2, x.block < W.heap.size := fun x hx => hltB x (by simp [hx])
  obtain ⟨u0_0, y0_0, m0, rfl, rfl, rfl, g0_0⟩ := open_agg1 Tryd.underlying24 (by kernel_rfl) (by kernel_rfl) (hval 0 24 v0 rfl rfl) h0
  obtain ⟨gs, hgs, bgs⟩ := trod_sl Tryd.underlying22 Tryd.underlying2 (by kernel_rfl) g0_0 (fun x hx => hlt0 x (by simp [hx]))
  obtain ⟨u1_0, u1_1, y1_0, y1_1, m1, rfl, rfl, rfl, g1_0, g1_1⟩ := Joins.open_agg2 Tryd.underlying26 (by kernel_rfl) (by kernel_rfl) (hval 1 26 v1 rfl rfl) h1
  obtain ⟨sh, rfl, bsh⟩ := trod_i64 Tryd.underlying2 g1_0
  obtain ⟨sq, rfl, bsq⟩ := trod_i64 Tryd.underlying2 g1_1
  obtain ⟨s, rfl, rfl, rfl, ws⟩ := Go.ChangeMaps.open_string Tryd.underlying9 (hval 2 9 v2 rfl rfl) h2
  refine (exactReachableHands_walk _ gs s sh sq W hgs).mono fun e W' ⟨he, hb⟩ => ?_
  subst he
  exact ⟨_, rfl, post_law Tryd.laidOut hW' rfl rfl (by kernel_rfl) (by kernel_rfl) Tryd.underlying4 hb⟩

set_option maxHeartbeats 2000000 in
theorem fnExactReachableHands_facts : joinedFacts Tryd.prog 10 Tryd.f10 Rows.fnExactReachableHandsSpec Rows.fnExactReachableHandsRow = true := by
  unfold joinedFacts
  simp only [Bool.and_eq_true]
  repeat' apply And.intro
  all_goals first | with_reducible exact Tryd.laidOut | with_reducible exact Tryd.g2 | with_reducible exact Tryd.g24 | with_reducible exact Tryd.g25 | (rw [Tryd.g26]; rfl) | (rw [Tryd.g27]; rfl) | as_aux_lemma => kernel_rfl
/-- The statement. -/
theorem fnExactReachableHands_holds : Rows.FnExactReachableHandsSaid :=
  OpenClaim.holds_of_wide 10 Tryd.f10 rfl rfl rfl rfl rfl rfl rfl ⟨rfl, rfl, rfl, rfl, rfl⟩ rfl rfl rfl rfl rfl (by as_aux_lemma => kernel_rfl) Tryd.func10 fnExactReachableHands_facts
    (by as_aux_lemma => exact of_decide_eq_true (by kernel_rfl)) (by as_aux_lemma => unfold Func.isWrapper; rw [if_neg (of_decide_eq_false (by kernel_rfl))]; exact ⟨rfl, rfl⟩)
    (fun os started H enc _ => fnExactReachableHands_lifted os started H enc)
/-- The card. -/
theorem fnExactReachableHands_card : Rows.FnExactReachableHandsCardSaid :=
  Claim7.holds_tied_plain_at .later [] [.data, .pinned] true (true, "a60b9ccea365084ae19031547614f694475d4502188d491dabf98e0fff8eab37") false fnExactReachableHands_holds (fun _ h => by cases h) (by kernel_rfl) (fun _ h => by cases h) fnExactReachableHands_row_tie rfl ⟨rfl, rfl⟩ (by kernel_rfl) rfl
    (fun f fn hf hfn => by
      obtain rfl : f = 10 := Option.some.inj ((show Tryd.prog.funcNamed "loop.example/g00921/laws.FnExactReachableHands" = some 10 by kernel_rfl).symm.trans hf) |>.symm
      obtain rfl : fn = Tryd.f10 := (Option.some.inj (Tryd.func10.symm.trans hfn)).symm
      exact ⟨by kernel_rfl, fun j t ht => by
        rw [Tryd.params10] at ht
        have hm : t ∈ [24, 26, 9] := by simpa using Array.mem_of_getElem? ht
        have hall : ([24, 26, 9].all fun u => !Tryd.prog.wantsStandIn u) = true := by kernel_rfl
        exact (show Tryd.prog.wantsStandIn t = false by simpa using List.all_eq_true.1 hall t hm)⟩)
    (by kernel_rfl)
#print axioms fnExactReachableHands_card
end Go.Proofs.YtfddibdncniekaaDoor
