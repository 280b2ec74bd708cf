/- FnExactHandsBetween is proved: for every wheel, two states and text the program's HandsBetween and the reference's return the same text and number, and the wheel is not changed. No condition. -/
import Derived.Test.YtfddibdncniekaaDoorHnO
import Derived.Test.YtfddibdncniekaaDoorStCountWheel
import Derived.Test.YtfddibdncniekaaDoorSiHandState
import Derived.Test.YtfddibdncniekaaDoorCpy
import Derived.Test.YtfddibdncniekaaDoorRowF
import Derived.Test.YtfddibdncniekaaDoorBx
import Derived.Test.YtfddibdncniekaaDoorRow1
import Derived.Test.YtfddibdncniekaaDoorCards
import Derived.Test.YtfddibdncniekaaDoorTie
import Derived.OpenShut
import Derived.LaidMore
import Derived.Lay
import Derived.SevenTiedAt
import Derived.Stop.Joined
import Derived.ChangeMaps5
import Derived.Deep.RegionHeld3
import Derived.Deep.DeepCutAuto
namespace Go.Proofs.YtfddibdncniekaaDoor
open Go.ChangeShapes Go.WideShapes Go.ChangeAt Go.RowKit
attribute [local go_sem ↓] Go.wp_at_zero Go.wp_at_succ

set_option maxRecDepth 100000 in
set_option maxHeartbeats 16000000 in
theorem exactHandsBetween_walk (v : Value) (gs : List Int) (s : ByteArray) (sh sq th tq : Int) (W : World) (hv_v : Sl W v gs) :
    Calls Tryd.prog 4 #[.agg #[v], .agg #[.int .i64 sh, .int .i64 sq], .agg #[.int .i64 th, .int .i64 tq], .string s] W fun e W' => e = .returned (.bool true) ∧ Below W.heap.size W W' := by
  have HV_v := Lib.hid hv_v
  clear hv_v
  by_cases hl_s : s.size ≤ 1048576
  · skip
    by_cases hl_gs : gs.length ≤ 1048576
    · skip
      obtain ⟨ra, rc, HFI, HFS⟩ := HandsBetween_both gs sh sq th tq s (by omega)
      have HI := Lib.hid HFI
      have HS := Lib.hid HFS
      clear HFI HFS
      go_enter Tryd.func4, Tryd.ntmps4
      have kk := bx3 W 24 26 26 #[v] #[.int .i64 sh, .int .i64 sq] #[.int .i64 th, .int .i64 tq]
      obtain ⟨k0, k1, k2⟩ := kk
      have KH0 := Lib.hid k0
      have KH1 := Lib.hid k1
      have KH2 := Lib.hid k2
      clear k0 k1 k2
      go_wp2_with fail
      refine (szCountWheel_fits v gs _ _ (HV_v.out.below (by first | (with_reducible exact Below.refl _ _) | go_grown)) (by omega) (by omega)).mono ?_
      rintro e w1 ⟨rfl, hb⟩
      have x0 := KH0.out.below hb
      have c0_0 : w1.cell? ⟨W.heap.size, 0, none⟩ = some (v) := x0.cell 0 rfl
      have l0 := x0.lt
      clear x0 KH0
      have Q0 := Lib.hid l0
      have x1 := KH1.out.below hb
      have c1_0 : w1.cell? ⟨W.heap.size + 1, 0, none⟩ = some (.int .i64 sh) := x1.cell 0 rfl
      have c1_1 : w1.cell? ⟨W.heap.size + 1, 1, none⟩ = some (.int .i64 sq) := x1.cell 1 rfl
      have l1 := x1.lt
      clear x1 KH1
      have Q1 := Lib.hid l1
      have x2 := KH2.out.below hb
      have c2_0 : w1.cell? ⟨W.heap.size + 1 + 1, 0, none⟩ = some (.int .i64 th) := x2.cell 0 rfl
      have c2_1 : w1.cell? ⟨W.heap.size + 1 + 1, 1, none⟩ = some (.int .i64 tq) := x2.cell 1 rfl
      have l2 := x2.lt
      clear x2 KH2
      have Q2 := Lib.hid l2
      have old : Below W.heap.size W w1 := Below.trans (by first | exact Below.refl _ _ | go_grown) (hb.mono (by first | (with_reducible exact Nat.le_refl _) | (with_reducible assumption) | (simp [go_sem]; done) | (simp [go_sem]; omega) | omega))
      have z_w1 := old.size
      clear hb
      go_upto_region 7 with (fail)
      go_cut [10, 11] (fun a10 a11 wr => a10 = .string ra ∧ a11 = .int .i64 rc ∧ Below w1.heap.size w1 wr)
      case first =>
        have HSr := Lib.hid (fun (w' : World) (hb : Below w1.heap.size w1 w') => (⟨(hb.cell (p := ⟨W.heap.size, 0, none⟩) l0).trans c0_0, (hb.cell (p := ⟨W.heap.size + 1, 0, none⟩) l1).trans c1_0, (hb.cell (p := ⟨W.heap.size + 1, 1, none⟩) l1).trans c1_1, (hb.cell (p := ⟨W.heap.size + 1 + 1, 0, none⟩) l2).trans c2_0, (hb.cell (p := ⟨W.heap.size + 1 + 1, 1, none⟩) l2).trans c2_1⟩ : w'.cell? ⟨W.heap.size, 0, none⟩ = some (v) ∧ w'.cell? ⟨W.heap.size + 1, 0, none⟩ = some (.int .i64 sh) ∧ w'.cell? ⟨W.heap.size + 1, 1, none⟩ = some (.int .i64 sq) ∧ w'.cell? ⟨W.heap.size + 1 + 1, 0, none⟩ = some (.int .i64 th) ∧ w'.cell? ⟨W.heap.size + 1 + 1, 1, none⟩ = some (.int .i64 tq)))
        have b_w1 := Below.refl w1.heap.size w1
        go_region_held3 (fun w' => w'.cell? ⟨W.heap.size, 0, none⟩ = some (v) ∧ w'.cell? ⟨W.heap.size + 1, 0, none⟩ = some (.int .i64 sh) ∧ w'.cell? ⟨W.heap.size + 1, 1, none⟩ = some (.int .i64 sq) ∧ w'.cell? ⟨W.heap.size + 1 + 1, 0, none⟩ = some (.int .i64 th) ∧ w'.cell? ⟨W.heap.size + 1 + 1, 1, none⟩ = some (.int .i64 tq)) (first | assumption | exact HSr.out _ (by go_grown) | go_keep)
          (first
            | (go_at_call 14; refine (toCountWheel_any v gs _ (HV_v.out.below (grown_again old (by first | (with_reducible exact Below.refl _ _) | go_grown))) hl_gs).mono ?_; rintro e w2 ⟨uw2, rfl, o_uw2, hb⟩; have b_w2 : Below w1.heap.size w1 w2 := Below.trans (grown_again b_w1 (by first | (with_reducible exact Below.refl _ _) | go_grown)) (hb.mono (by first | (with_reducible exact Nat.le_refl _) | (with_reducible assumption) | (simp [go_sem]; done) | (simp [go_sem]; omega) | omega)); have y_w2 := b_w2.size; (try (have a_w2_w1 : w1.heap.size < w2.heap.size := Nat.lt_of_lt_of_le (by first | assumption | (simp [go_sem]; done) | (simp only [go_sem]; omega) | (simp [go_sem]; omega)) hb.size)); obtain ⟨hc_w2, hf_w2⟩ := bcell hb; have s_uw2 := Sl.of_own o_uw2; clear o_uw2; have S_w2 := HSr.out _ b_w2; clear hb)
            | (go_at_call 15; (with_reducible show Calls _ _ #[.agg #[.int .i64 sh, .int .i64 sq]] _ _); refine (toHandState_any sh sq _).mono ?_; rintro e w3 ⟨rfl, hb⟩; have b_w3 : Below w1.heap.size w1 w3 := Below.trans (grown_again b_w2 (by first | (with_reducible exact Below.refl _ _) | go_grown)) (hb.mono (by first | (with_reducible exact Nat.le_refl _) | (with_reducible assumption) | (simp [go_sem]; done) | (simp [go_sem]; omega) | omega)); have y_w3 := b_w3.size; (try (have a_w3_w2 : w2.heap.size < w3.heap.size := Nat.lt_of_lt_of_le (by first | assumption | (simp [go_sem]; done) | (simp only [go_sem]; omega) | (simp [go_sem]; omega)) hb.size)); (try (have a_w3_w1 : w1.heap.size < w3.heap.size := Nat.lt_of_lt_of_le (by first | assumption | (simp [go_sem]; done) | (simp only [go_sem]; omega) | (simp [go_sem]; omega)) hb.size)); obtain ⟨hc_w3, hf_w3⟩ := bcell hb; replace s_uw2 := (s_uw2.below (by first | (with_reducible exact Below.refl _ _) | go_grown)).below hb; have S_w3 := HSr.out _ b_w3; clear hb)
            | (go_at_call 15; (with_reducible show Calls _ _ #[.agg #[.int .i64 th, .int .i64 tq]] _ _); refine (toHandState_any th tq _).mono ?_; rintro e w4 ⟨rfl, hb⟩; have b_w4 : Below w1.heap.size w1 w4 := Below.trans (grown_again b_w3 (by first | (with_reducible exact Below.refl _ _) | go_grown)) (hb.mono (by first | (with_reducible exact Nat.le_refl _) | (with_reducible assumption) | (simp [go_sem]; done) | (simp [go_sem]; omega) | omega)); have y_w4 := b_w4.size; (try (have a_w4_w2 : w2.heap.size < w4.heap.size := Nat.lt_of_lt_of_le (by first | assumption | (simp [go_sem]; done) | (simp only [go_sem]; omega) | (simp [go_sem]; omega)) hb.size)); (try (have a_w4_w3 : w3.heap.size < w4.heap.size := Nat.lt_of_lt_of_le (by first | assumption | (simp [go_sem]; done) | (simp only [go_sem]; omega) | (simp [go_sem]; omega)) hb.size)); (try (have a_w4_w1 : w1.heap.size < w4.heap.size := Nat.lt_of_lt_of_le (by first | assumption | (simp [go_sem]; done) | (simp only [go_sem]; omega) | (simp [go_sem]; omega)) hb.size)); obtain ⟨hc_w4, hf_w4⟩ := bcell hb; replace s_uw2 := (s_uw2.below (by first | (with_reducible exact Below.refl _ _) | go_grown)).below hb; have S_w4 := HSr.out _ b_w4; clear hb)
            | (go_at_call 23; refine (HS.out uw2 _ (s_uw2.below (by first | (with_reducible exact Below.refl _ _) | go_grown))).mono ?_; rintro e w5 ⟨rfl, hb⟩; have b_w5 : Below w1.heap.size w1 w5 := Below.trans (grown_again b_w4 (by first | (with_reducible exact Below.refl _ _) | go_grown)) (hb.mono (by first | (with_reducible exact Nat.le_refl _) | (with_reducible assumption) | (simp [go_sem]; done) | (simp [go_sem]; omega) | omega)); have y_w5 := b_w5.size; (try (have a_w5_w2 : w2.heap.size < w5.heap.size := Nat.lt_of_lt_of_le (by first | assumption | (simp [go_sem]; done) | (simp only [go_sem]; omega) | (simp [go_sem]; omega)) hb.size)); (try (have a_w5_w3 : w3.heap.size < w5.heap.size := Nat.lt_of_lt_of_le (by first | assumption | (simp [go_sem]; done) | (simp only [go_sem]; omega) | (simp [go_sem]; omega)) hb.size)); (try (have a_w5_w4 : w4.heap.size < w5.heap.size := Nat.lt_of_lt_of_le (by first | assumption | (simp [go_sem]; done) | (simp only [go_sem]; omega) | (simp [go_sem]; omega)) hb.size)); (try (have a_w5_w1 : w1.heap.size < w5.heap.size := Nat.lt_of_lt_of_le (by first | assumption | (simp [go_sem]; done) | (simp only [go_sem]; omega) | (simp [go_sem]; omega)) hb.size)); obtain ⟨hc_w5, hf_w5⟩ := bcell hb; have S_w5 := HSr.out _ b_w5; clear hb))
        all_goals (go_wp2_with fail; go_meet)
        all_goals refine ⟨rfl, rfl, ?_⟩
        all_goals first
          | (with_reducible exact Nat.le_refl _) | (with_reducible assumption)
          | (go_grown; done)
          | (simp [go_sem, *]; done)
          | (have := b_w2.size; have := b_w3.size; have := b_w4.size; have := b_w5.size; simp; omega)
      case rest =>
        obtain ⟨w6, rfl⟩ : ∃ x : World, x = wc := ⟨_, rfl⟩
        obtain ⟨rfl, rfl, hb⟩ := hcut
        replace c0_0 := (hb.cell (p := ⟨W.heap.size, 0, none⟩) l0).trans c0_0
        replace l0 := Nat.lt_of_lt_of_le l0 hb.size
        replace c1_0 := (hb.cell (p := ⟨W.heap.size + 1, 0, none⟩) l1).trans c1_0
        replace c1_1 := (hb.cell (p := ⟨W.heap.size + 1, 1, none⟩) l1).trans c1_1
        replace l1 := Nat.lt_of_lt_of_le l1 hb.size
        replace c2_0 := (hb.cell (p := ⟨W.heap.size + 1 + 1, 0, none⟩) l2).trans c2_0
        replace c2_1 := (hb.cell (p := ⟨W.heap.size + 1 + 1, 1, none⟩) l2).trans c2_1
        replace l2 := Nat.lt_of_lt_of_le l2 hb.size
        replace old := grown_again old hb
        have z_w6 := hb.size
        clear hb
        go_upto_region 8 with (fail)
        go_cut [12] (fun a12 wr => ∃ (gx0_0 : Nat) (vx0 : Value), a12 = .pointer (some ⟨gx0_0, 0, none⟩) ∧ (w6.heap.size ≤ gx0_0 ∧ gx0_0 < wr.heap.size) ∧ wr.cell? ⟨gx0_0, 0, none⟩ = some (vx0) ∧ wr.ownsRow w6.heap.size 2 1 vx0 gs.length (I64 gs) ∧ some gx0_0 ≠ vx0.ownBlock ∧ Below w6.heap.size w6 wr)
        case first =>
          have b_w6 := Below.refl w6.heap.size w6
          go_wp2_with fail
          refine (toCountWheel_any v gs _ (HV_v.out.below (grown_again old (by first | (with_reducible exact Below.refl _ _) | go_grown))) hl_gs).mono ?_
          rintro e w7 ⟨vx0, rfl, o_vx0, hb⟩
          obtain ⟨A_vx0, C_vx0, rfl⟩ := own_form o_vx0
          have b_w7 : Below w6.heap.size w6 w7 := Below.trans (grown_again b_w6 (by first | (with_reducible exact Below.refl _ _) | go_grown)) (hb.mono (by first | (with_reducible exact Nat.le_refl _) | (with_reducible assumption) | (simp [go_sem]; done) | (simp [go_sem]; omega) | omega))
          have y_w7 := b_w7.size
          (try (have a_w7_w6 : w6.heap.size < w7.heap.size := Nat.lt_of_lt_of_le (by first | assumption | (simp [go_sem]; done) | (simp only [go_sem]; omega) | (simp [go_sem]; omega)) hb.size))
          obtain ⟨hc_w7, hf_w7⟩ := bcell hb
          clear hb
          all_goals (go_wp2_with fail; go_meet)
          all_goals refine ⟨_, .slice A_vx0 gs.length C_vx0, rfl, ⟨?_, ?_⟩, ?_, ?_, ?_, ?_⟩
          all_goals first
            | (with_reducible exact Nat.le_refl _) | (with_reducible assumption)
            | (go_grown; done)
            | (simp [go_sem, *]; done)
            | ((repeat' first | exact own_mono o_vx0 (by first | (with_reducible exact Nat.le_refl _) | (with_reducible assumption) | (simp [go_sem]; done) | (simp [go_sem]; omega) | omega) | refine own_far ?_ ?_ _ | refine World.ownsRow.alloc ?_ _); all_goals (exact own_ne o_vx0 (Or.inl (by first | assumption | (simp; done) | omega))); done)
            | exact own_ne o_vx0 (Or.inr (by first | (with_reducible exact Nat.le_refl _) | (with_reducible assumption) | (simp [go_sem]; done) | (simp [go_sem]; omega) | omega)) | exact own_ne o_vx0 (Or.inl (by first | (with_reducible exact Nat.le_refl _) | (with_reducible assumption) | (simp [go_sem]; done) | (simp [go_sem]; omega) | omega))
            | (have := b_w7.size; simp; omega)
        case rest =>
          obtain ⟨w8, rfl⟩ : ∃ x : World, x = wc := ⟨_, rfl⟩
          obtain ⟨gx0_0, vx0, rfl, ⟨rgx0_0, l3⟩, c3_0, o_vx0, m_gx0_0_vx0, hb⟩ := hcut
          have Q3 : Hid (w6.heap.size ≤ gx0_0 ∧ gx0_0 < w8.heap.size) := ⟨rgx0_0, l3⟩
          have R_vx0 := Lib.hid (rng_of o_vx0 (Nat.le_refl w6.heap.size))
          have E3_vx0 := Lib.hid m_gx0_0_vx0
          clear m_gx0_0_vx0
          clear rgx0_0
          replace c0_0 := (hb.cell (p := ⟨W.heap.size, 0, none⟩) l0).trans c0_0
          replace l0 := Nat.lt_of_lt_of_le l0 hb.size
          replace c1_0 := (hb.cell (p := ⟨W.heap.size + 1, 0, none⟩) l1).trans c1_0
          replace c1_1 := (hb.cell (p := ⟨W.heap.size + 1, 1, none⟩) l1).trans c1_1
          replace l1 := Nat.lt_of_lt_of_le l1 hb.size
          replace c2_0 := (hb.cell (p := ⟨W.heap.size + 1 + 1, 0, none⟩) l2).trans c2_0
          replace c2_1 := (hb.cell (p := ⟨W.heap.size + 1 + 1, 1, none⟩) l2).trans c2_1
          replace l2 := Nat.lt_of_lt_of_le l2 hb.size
          replace old := grown_again old hb
          have z_w8 := hb.size
          clear hb
          go_upto_region 9 with (fail)
          go_cut [13, 14] (fun a13 a14 wr => a13 = .string ra ∧ a14 = .int .i64 rc ∧ Below w8.heap.size w8 wr)
          case first =>
            have HSr := Lib.hid (fun (w' : World) (hb : Below w8.heap.size w8 w') => (⟨(hb.cell (p := ⟨gx0_0, 0, none⟩) l3).trans c3_0, (hb.cell (p := ⟨W.heap.size + 1, 0, none⟩) l1).trans c1_0, (hb.cell (p := ⟨W.heap.size + 1, 1, none⟩) l1).trans c1_1, (hb.cell (p := ⟨W.heap.size + 1 + 1, 0, none⟩) l2).trans c2_0, (hb.cell (p := ⟨W.heap.size + 1 + 1, 1, none⟩) l2).trans c2_1⟩ : w'.cell? ⟨gx0_0, 0, none⟩ = some (vx0) ∧ w'.cell? ⟨W.heap.size + 1, 0, none⟩ = some (.int .i64 sh) ∧ w'.cell? ⟨W.heap.size + 1, 1, none⟩ = some (.int .i64 sq) ∧ w'.cell? ⟨W.heap.size + 1 + 1, 0, none⟩ = some (.int .i64 th) ∧ w'.cell? ⟨W.heap.size + 1 + 1, 1, none⟩ = some (.int .i64 tq)))
            have b_w8 := Below.refl w8.heap.size w8
            go_region_held3 (fun w' => w'.cell? ⟨gx0_0, 0, none⟩ = some (vx0) ∧ w'.cell? ⟨W.heap.size + 1, 0, none⟩ = some (.int .i64 sh) ∧ w'.cell? ⟨W.heap.size + 1, 1, none⟩ = some (.int .i64 sq) ∧ w'.cell? ⟨W.heap.size + 1 + 1, 0, none⟩ = some (.int .i64 th) ∧ w'.cell? ⟨W.heap.size + 1 + 1, 1, none⟩ = some (.int .i64 tq)) (first | assumption | exact HSr.out _ (by go_grown) | go_keep)
              (first
                | (go_at_call 15; (with_reducible show Calls _ _ #[.agg #[.int .i64 sh, .int .i64 sq]] _ _); refine (toHandState_any sh sq _).mono ?_; rintro e w9 ⟨rfl, hb⟩; have b_w9 : Below w8.heap.size w8 w9 := Below.trans (grown_again b_w8 (by first | (with_reducible exact Below.refl _ _) | go_grown)) (hb.mono (by first | (with_reducible exact Nat.le_refl _) | (with_reducible assumption) | (simp [go_sem]; done) | (simp [go_sem]; omega) | omega)); have y_w9 := b_w9.size; (try (have a_w9_w8 : w8.heap.size < w9.heap.size := Nat.lt_of_lt_of_le (by first | assumption | (simp [go_sem]; done) | (simp only [go_sem]; omega) | (simp [go_sem]; omega)) hb.size)); obtain ⟨hc_w9, hf_w9⟩ := bcell hb; have S_w9 := HSr.out _ b_w9; clear hb)
                | (go_at_call 15; (with_reducible show Calls _ _ #[.agg #[.int .i64 th, .int .i64 tq]] _ _); refine (toHandState_any th tq _).mono ?_; rintro e w10 ⟨rfl, hb⟩; have b_w10 : Below w8.heap.size w8 w10 := Below.trans (grown_again b_w9 (by first | (with_reducible exact Below.refl _ _) | go_grown)) (hb.mono (by first | (with_reducible exact Nat.le_refl _) | (with_reducible assumption) | (simp [go_sem]; done) | (simp [go_sem]; omega) | omega)); have y_w10 := b_w10.size; (try (have a_w10_w9 : w9.heap.size < w10.heap.size := Nat.lt_of_lt_of_le (by first | assumption | (simp [go_sem]; done) | (simp only [go_sem]; omega) | (simp [go_sem]; omega)) hb.size)); (try (have a_w10_w8 : w8.heap.size < w10.heap.size := Nat.lt_of_lt_of_le (by first | assumption | (simp [go_sem]; done) | (simp only [go_sem]; omega) | (simp [go_sem]; omega)) hb.size)); obtain ⟨hc_w10, hf_w10⟩ := bcell hb; have S_w10 := HSr.out _ b_w10; clear hb)
                | (go_at_call 24; refine (HI.out vx0 _ ((Sl.of_own o_vx0).below (grown_again b_w8 (by first | (with_reducible exact Below.refl _ _) | go_grown)))).mono ?_; rintro e w11 ⟨rfl, hb⟩; have b_w11 : Below w8.heap.size w8 w11 := Below.trans (grown_again b_w10 (by first | (with_reducible exact Below.refl _ _) | go_grown)) (hb.mono (by first | (with_reducible exact Nat.le_refl _) | (with_reducible assumption) | (simp [go_sem]; done) | (simp [go_sem]; omega) | omega)); have y_w11 := b_w11.size; (try (have a_w11_w9 : w9.heap.size < w11.heap.size := Nat.lt_of_lt_of_le (by first | assumption | (simp [go_sem]; done) | (simp only [go_sem]; omega) | (simp [go_sem]; omega)) hb.size)); (try (have a_w11_w10 : w10.heap.size < w11.heap.size := Nat.lt_of_lt_of_le (by first | assumption | (simp [go_sem]; done) | (simp only [go_sem]; omega) | (simp [go_sem]; omega)) hb.size)); (try (have a_w11_w8 : w8.heap.size < w11.heap.size := Nat.lt_of_lt_of_le (by first | assumption | (simp [go_sem]; done) | (simp only [go_sem]; omega) | (simp [go_sem]; omega)) hb.size)); obtain ⟨hc_w11, hf_w11⟩ := bcell hb; have S_w11 := HSr.out _ b_w11; clear hb))
            all_goals (go_wp2_with fail; go_meet)
            all_goals refine ⟨rfl, rfl, ?_⟩
            all_goals first
              | (with_reducible exact Nat.le_refl _) | (with_reducible assumption)
              | (go_grown; done)
              | (simp [go_sem, *]; done)
              | (have := b_w9.size; have := b_w10.size; have := b_w11.size; simp; omega)
          case rest =>
            obtain ⟨w12, rfl⟩ : ∃ x : World, x = wc := ⟨_, rfl⟩
            obtain ⟨rfl, rfl, hb⟩ := hcut
            replace c0_0 := (hb.cell (p := ⟨W.heap.size, 0, none⟩) l0).trans c0_0
            replace l0 := Nat.lt_of_lt_of_le l0 hb.size
            replace c1_0 := (hb.cell (p := ⟨W.heap.size + 1, 0, none⟩) l1).trans c1_0
            replace c1_1 := (hb.cell (p := ⟨W.heap.size + 1, 1, none⟩) l1).trans c1_1
            replace l1 := Nat.lt_of_lt_of_le l1 hb.size
            replace c2_0 := (hb.cell (p := ⟨W.heap.size + 1 + 1, 0, none⟩) l2).trans c2_0
            replace c2_1 := (hb.cell (p := ⟨W.heap.size + 1 + 1, 1, none⟩) l2).trans c2_1
            replace l2 := Nat.lt_of_lt_of_le l2 hb.size
            replace c3_0 := (hb.cell (p := ⟨gx0_0, 0, none⟩) l3).trans c3_0
            replace l3 := Nat.lt_of_lt_of_le l3 hb.size
            replace o_vx0 := own_below o_vx0 hb
            replace old := grown_again old hb
            have z_w12 := hb.size
            clear hb
            go_upto_region 12 with (fail)
            have HSr := Lib.hid (fun (w' : World) (hb : Below w12.heap.size w12 w') => (⟨(hb.cell (p := ⟨gx0_0, 0, none⟩) l3).trans c3_0, (hb.cell (p := ⟨W.heap.size, 0, none⟩) l0).trans c0_0⟩ : w'.cell? ⟨gx0_0, 0, none⟩ = some (vx0) ∧ w'.cell? ⟨W.heap.size, 0, none⟩ = some (v)))
            go_region_held3 (fun w' => w'.cell? ⟨gx0_0, 0, none⟩ = some (vx0) ∧ w'.cell? ⟨W.heap.size, 0, none⟩ = some (v)) (first | assumption | exact HSr.out _ (by go_grown) | go_keep)
              (first
                | (go_at_call 14; refine (toCountWheel_any v gs _ (HV_v.out.below (grown_again old (by first | (with_reducible exact Below.refl _ _) | go_grown))) hl_gs).mono ?_; rintro e w13 ⟨uw13, rfl, o_uw13, hb⟩; have b_w13 : Below w12.heap.size w12 w13 := Below.trans (by first | (with_reducible exact Below.refl _ _) | go_grown) (hb.mono (by first | (with_reducible exact Nat.le_refl _) | (with_reducible assumption) | (simp [go_sem]; done) | (simp [go_sem]; omega) | omega)); have y_w13 := b_w13.size; have S_w13 := HSr.out _ b_w13; have s_uw13 := Sl.of_own o_uw13; clear o_uw13; clear hb)
                | (go_at_call 19; refine (eqCountWheel_true vx0 uw13 gs _ ((Sl.of_own o_vx0).below (grown_again b_w13 (by first | (with_reducible exact Below.refl _ _) | go_grown))) (s_uw13.below (by first | (with_reducible exact Below.refl _ _) | go_grown))).mono ?_; rintro e w14 ⟨rfl, hb⟩; have b_w14 : Below w12.heap.size w12 w14 := Below.trans (grown_again b_w13 (by first | (with_reducible exact Below.refl _ _) | go_grown)) (hb.mono (by first | (with_reducible exact Nat.le_refl _) | (with_reducible assumption) | (simp [go_sem]; done) | (simp [go_sem]; omega) | omega)); have S_w14 := HSr.out _ b_w14; clear hb))
            clear HSr S_w13 S_w14 s_uw13
            replace c0_0 := (b_w14.cell (p := ⟨W.heap.size, 0, none⟩) l0).trans c0_0
            replace l0 := Nat.lt_of_lt_of_le l0 b_w14.size
            replace c1_0 := (b_w14.cell (p := ⟨W.heap.size + 1, 0, none⟩) l1).trans c1_0
            replace c1_1 := (b_w14.cell (p := ⟨W.heap.size + 1, 1, none⟩) l1).trans c1_1
            replace l1 := Nat.lt_of_lt_of_le l1 b_w14.size
            replace c2_0 := (b_w14.cell (p := ⟨W.heap.size + 1 + 1, 0, none⟩) l2).trans c2_0
            replace c2_1 := (b_w14.cell (p := ⟨W.heap.size + 1 + 1, 1, none⟩) l2).trans c2_1
            replace l2 := Nat.lt_of_lt_of_le l2 b_w14.size
            replace c3_0 := (b_w14.cell (p := ⟨gx0_0, 0, none⟩) l3).trans c3_0
            replace l3 := Nat.lt_of_lt_of_le l3 b_w14.size
            replace o_vx0 := own_below o_vx0 b_w14
            replace old := grown_again old b_w14
            have z_w14 := b_w14.size
            clear b_w13 b_w14
            go_wp2
            go_ret
            exact ⟨rfl, old⟩
    · go_enter Tryd.func4, Tryd.ntmps4
      go_wp2_with fail
      refine (szCountWheel_big v gs _ _ (HV_v.out.below (by first | (with_reducible exact Below.refl _ _) | go_grown)) (by omega) (by omega)).mono ?_
      rintro e w1 ⟨rfl, hb⟩
      go_wp2
      go_ret
      exact ⟨rfl, Below.trans (by first | exact Below.refl _ _ | go_grown) (hb.mono (by first | (with_reducible exact Nat.le_refl _) | (with_reducible assumption) | (simp [go_sem]; done) | (simp [go_sem]; omega) | omega))⟩
  · go_enter Tryd.func4, Tryd.ntmps4
    go_wp2
    go_ret
    exact ⟨rfl, by first | exact Below.refl _ _ | go_grown⟩

set_option maxRecDepth 100000 in
theorem fnExactHandsBetween_lifted (os : Os) (started : os.Started) (H : Type) (enc : TypeId × Value → H) :
    ReturnsInHanded {} Tryd.checked os 4 .any (fun w args => (Rows.fnExactHandsBetweenSpec.pre enc Tryd.prog Tryd.f4 Rows.fnExactHandsBetweenRow.domain false w args ∧ laidMetH Tryd.prog Rows.fnExactHandsBetweenRow.laid w) ∧ sizedMet enc Tryd.prog Tryd.f4 (OpenSpec.ofChange Rows.fnExactHandsBetweenSpec) false w args)
      (Rows.fnExactHandsBetweenSpec.post enc Tryd.prog Tryd.f4 false true false false) := by
  refine returnsInHanded_of_change_and (C := Tryd.checked) (X := fun w _ => laidMetH Tryd.prog Rows.fnExactHandsBetweenRow.laid w) (fun _ _ _ hh h => h.of_heap hh) Tryd.own started (by kernel_rfl) Tryd.func4
    (ChangeSpec.witness_shaped (enc := enc) (C := Tryd.checked) (os := os) (X := fun w _ => laidMetH Tryd.prog Rows.fnExactHandsBetweenRow.laid w) false (World.laidAll Tryd.prog os Rows.fnExactHandsBetweenRow.laid) #[.agg #[.slice none 0 0], .agg #[.int .i64 0, .int .i64 0], .agg #[.int .i64 0, .int .i64 0], .string ⟨#[]⟩] 8 (World.laidAll_os _ _ _)
      (World.shaped_of_ZipB (by kernel_rfl) (by kernel_rfl)) (by kernel_rfl) (by kernel_rfl) (by kernel_rfl)
      (by rw [MakeChecks.laidMetH_plain _ _ _ (by kernel_rfl)]; exact laidMet_laidAll _ (by kernel_rfl) (by kernel_rfl))) ?_
  intro W base args ds gs before hval0 hW hcnd _ _ _
  have hval : ∀ (j : Nat) t v, Tryd.f4.params[j]? = some t → args[j]? = some v → Value.okWide Tryd.prog W .any base t v := hval0
  have hW' := hW
  have hltB : ∀ x ∈ before, x.block < W.heap.size := fun x hx => hW.lt x hx
  obtain ⟨p, q, hA0, hV, rfl, hfz, hnd⟩ := hW
  have hA : DataW.TrodAll enc Tryd.prog W 0 (fun _ => true) true Tryd.f4.params.toList args.toList ds p := hA0
  rw [Tryd.params4] at hA hval
  obtain ⟨v0, vs0, d0, ds0, p0, q0, hargs, rfl, rfl, h0, r0⟩ := trodAll_cons hA
  obtain ⟨v1, vs1, d1, ds1, p1, q1, rfl, rfl, rfl, h1, r1⟩ := trodAll_cons r0
  obtain ⟨v2, vs2, d2, ds2, p2, q2, rfl, rfl, rfl, h2, r2⟩ := trodAll_cons r1
  obtain ⟨v3, vs3, d3, ds3, p3, q3, rfl, rfl, rfl, h3, r3⟩ := trodAll_cons r2
  obtain ⟨rfl, rfl, rfl⟩ := trodAll_nil r3
  obtain rfl : args = #[v0, v1, v2, v3] := by cases args; simp_all
  clear hA0 hval0 hA hcnd hfz hnd
  have hlt0 : ∀ x ∈ p0, x.block < W.heap.size := fun x hx => hltB x (by simp [hx])
  have hlt1 : ∀ x ∈ p1, x.block < W.heap.size := fun x hx => hltB x (by simp [hx])
  have hlt2 : ∀ x ∈ p2, x.block < W.heap.size := fun x hx => hltB x (by simp [hx])
  have hlt3 : ∀ x ∈ p3, x.block < W.heap.size := fun x hx => hltB x (by simp [hx])
  obtain ⟨u0_0, y0_0, m0, rfl, rfl, rfl, g0_0⟩ := open_agg1 Tryd.underlying24 (by kernel_rfl) (by kernel_rfl) (hval 0 24 v0 rfl rfl) h0
  obtain ⟨gs, hgs, bgs⟩ := trod_sl Tryd.underlying22 Tryd.underlying2 (by kernel_rfl) g0_0 (fun x hx => hlt0 x (by simp [hx]))
  obtain ⟨u1_0, u1_1, y1_0, y1_1, m1, rfl, rfl, rfl, g1_0, g1_1⟩ := Joins.open_agg2 Tryd.underlying26 (by kernel_rfl) (by kernel_rfl) (hval 1 26 v1 rfl rfl) h1
  obtain ⟨sh, rfl, bsh⟩ := trod_i64 Tryd.underlying2 g1_0
  obtain ⟨sq, rfl, bsq⟩ := trod_i64 Tryd.underlying2 g1_1
  obtain ⟨u2_0, u2_1, y2_0, y2_1, m2, rfl, rfl, rfl, g2_0, g2_1⟩ := Joins.open_agg2 Tryd.underlying26 (by kernel_rfl) (by kernel_rfl) (hval 2 26 v2 rfl rfl) h2
  obtain ⟨th, rfl, bth⟩ := trod_i64 Tryd.underlying2 g2_0
  obtain ⟨tq, rfl, btq⟩ := trod_i64 Tryd.underlying2 g2_1
  obtain ⟨s, rfl, rfl, rfl, ws⟩ := Go.ChangeMaps.open_string Tryd.underlying9 (hval 3 9 v3 rfl rfl) h3
  refine (exactHandsBetween_walk _ gs s sh sq th tq W hgs).mono fun e W' ⟨he, hb⟩ => ?_
  subst he
  exact ⟨_, rfl, post_law Tryd.laidOut hW' rfl rfl (by kernel_rfl) (by kernel_rfl) Tryd.underlying4 hb⟩

set_option maxHeartbeats 2000000 in
theorem fnExactHandsBetween_facts : joinedFacts Tryd.prog 4 Tryd.f4 Rows.fnExactHandsBetweenSpec Rows.fnExactHandsBetweenRow = true := by
  unfold joinedFacts
  simp only [Bool.and_eq_true]
  repeat' apply And.intro
  all_goals first | with_reducible exact Tryd.laidOut | with_reducible exact Tryd.g2 | with_reducible exact Tryd.g24 | with_reducible exact Tryd.g25 | (rw [Tryd.g26]; rfl) | (rw [Tryd.g27]; rfl) | as_aux_lemma => kernel_rfl
/-- The statement. -/
theorem fnExactHandsBetween_holds : Rows.FnExactHandsBetweenSaid :=
  OpenClaim.holds_of_wide 4 Tryd.f4 rfl rfl rfl rfl rfl rfl rfl ⟨rfl, rfl, rfl, rfl, rfl⟩ rfl rfl rfl rfl rfl (by as_aux_lemma => kernel_rfl) Tryd.func4 fnExactHandsBetween_facts
    (by as_aux_lemma => exact of_decide_eq_true (by kernel_rfl)) (by as_aux_lemma => unfold Func.isWrapper; rw [if_neg (of_decide_eq_false (by kernel_rfl))]; exact ⟨rfl, rfl⟩)
    (fun os started H enc _ => fnExactHandsBetween_lifted os started H enc)
/-- The card. -/
theorem fnExactHandsBetween_card : Rows.FnExactHandsBetweenCardSaid :=
  Claim7.holds_tied_plain_at .later [] [.data, .pinned] true (true, "a60b9ccea365084ae19031547614f694475d4502188d491dabf98e0fff8eab37") false fnExactHandsBetween_holds (fun _ h => by cases h) (by kernel_rfl) (fun _ h => by cases h) fnExactHandsBetween_row_tie rfl ⟨rfl, rfl⟩ (by kernel_rfl) rfl
    (fun f fn hf hfn => by
      obtain rfl : f = 4 := Option.some.inj ((show Tryd.prog.funcNamed "loop.example/g00921/laws.FnExactHandsBetween" = some 4 by kernel_rfl).symm.trans hf) |>.symm
      obtain rfl : fn = Tryd.f4 := (Option.some.inj (Tryd.func4.symm.trans hfn)).symm
      exact ⟨by kernel_rfl, fun j t ht => by
        rw [Tryd.params4] at ht
        have hm : t ∈ [24, 26, 26, 9] := by simpa using Array.mem_of_getElem? ht
        have hall : ([24, 26, 26, 9].all fun u => !Tryd.prog.wantsStandIn u) = true := by kernel_rfl
        exact (show Tryd.prog.wantsStandIn t = false by simpa using List.all_eq_true.1 hall t hm)⟩)
    (by kernel_rfl)
#print axioms fnExactHandsBetween_card
end Go.Proofs.YtfddibdncniekaaDoor
