/- FnExactPlayBarrel is proved: for every barrel, step and number the program's PlayBarrel and the reference's return the same list and number, the barrel is not changed, and what is returned shares no memory with anything else. No condition. -/
import Derived.Test.YtmjpjechmojkeaaChD
import Derived.Test.YtmjpjechmojkeaaStBarrel
import Derived.Test.YtmjpjechmojkeaaPxPin
import Derived.Test.YtmjpjechmojkeaaRowF
import Derived.Test.YtmjpjechmojkeaaBx
import Derived.Test.YtmjpjechmojkeaaRow2
import Derived.Deep.RegionHeld3
import Derived.Deep.DeepCutAuto
namespace Go.Proofs.Ytmjpjechmojkeaa
open Go.ChangeShapes Go.WideShapes Go.ChangeAt Go.RowKit
attribute [local go_sem ↓] Go.wp_at_zero Go.wp_at_succ

set_option maxRecDepth 100000 in
set_option maxHeartbeats 16000000 in
theorem exactPlayBarrel_walk (v : Value) (ps : List (Int × Int)) (st bl f n : Int) (W : World) (hv_v : SlP W v ps) :
    Calls Try.prog 11 #[.agg #[.int .i64 st, .int .i64 bl, v], .int .i64 f, .int .i64 n] W fun e W' => e = .returned (.bool true) ∧ Below W.heap.size W W' := by
  have HV_v := Lib.hid hv_v
  clear hv_v
  by_cases hl_ps : ps.length ≤ 1048576
  · skip
    obtain ⟨rl, rc, hL_rl, HFI, HFS⟩ := PlayBarrel_both st bl ps f n
    have HI := Lib.hid HFI
    have HS := Lib.hid HFS
    clear HFI HFS
    go_enter Try.func11, Try.ntmps11
    have kk := bx1 W 38 #[.int .i64 st, .int .i64 bl, v]
    have k0 := kk
    have KH0 := Lib.hid k0
    clear kk k0
    go_wp2_with fail
    refine (szBarrel_fits v ps st bl _ _ (HV_v.out.below (by first | (with_reducible exact Below.refl _ _) | go_grown)) (by omega) (by omega)).mono ?_
    rintro e w1 ⟨rfl, hb⟩
    have x0 := KH0.out.below hb
    have c0_0 : w1.cell? ⟨W.heap.size, 0, none⟩ = some (.int .i64 st) := x0.cell 0 rfl
    have c0_1 : w1.cell? ⟨W.heap.size, 1, none⟩ = some (.int .i64 bl) := x0.cell 1 rfl
    have c0_2 : w1.cell? ⟨W.heap.size, 2, none⟩ = some (v) := x0.cell 2 rfl
    have l0 := x0.lt
    clear x0 KH0
    have Q0 := Lib.hid l0
    have old : Below W.heap.size W w1 := Below.trans (by first | exact Below.refl _ _ | go_grown) (hb.mono (by first | (with_reducible exact Nat.le_refl _) | (with_reducible assumption) | (simp [go_sem]; done) | (simp [go_sem]; omega) | omega))
    have z_w1 := old.size
    clear hb
    go_upto_region 5 with (fail)
    go_cut [8, 9] (fun a8 a9 wr => ∃ (vw_0 : Value), vw_0 = a8 ∧ a9 = .int .i64 rc ∧ wr.ownsRow w1.heap.size 67 2 vw_0 rl.length (P64 rl) ∧ Below w1.heap.size w1 wr)
    case first =>
      have b_w1 := Below.refl w1.heap.size w1
      go_wp2_with fail
      refine (toBarrel_any v ps st bl _ (HV_v.out.below (grown_again old (by first | (with_reducible exact Below.refl _ _) | go_grown))) hl_ps).mono ?_
      rintro e w2 ⟨uw2, rfl, o_uw2, hb⟩
      have b_w2 : Below w1.heap.size w1 w2 := Below.trans (grown_again b_w1 (by first | (with_reducible exact Below.refl _ _) | go_grown)) (hb.mono (by first | (with_reducible exact Nat.le_refl _) | (with_reducible assumption) | (simp [go_sem]; done) | (simp [go_sem]; omega) | omega))
      have y_w2 := b_w2.size
      (try (have a_w2_w1 : w1.heap.size < w2.heap.size := Nat.lt_of_lt_of_le (by first | assumption | (simp [go_sem]; done) | (simp only [go_sem]; omega) | (simp [go_sem]; omega)) hb.size))
      obtain ⟨hc_w2, hf_w2⟩ := bcell hb
      have s_uw2 := SlP.of_own o_uw2
      clear o_uw2
      clear hb
      go_wp2_with fail
      refine (HS.out uw2 _ (s_uw2.below (by first | (with_reducible exact Below.refl _ _) | go_grown))).mono ?_
      rintro e w3 ⟨vw_0, rfl, o_vw_0, hb⟩
      obtain ⟨A_vw_0, C_vw_0, rfl⟩ := own_form o_vw_0
      have b_w3 : Below w1.heap.size w1 w3 := Below.trans (grown_again b_w2 (by first | (with_reducible exact Below.refl _ _) | go_grown)) (hb.mono (by first | (with_reducible exact Nat.le_refl _) | (with_reducible assumption) | (simp [go_sem]; done) | (simp [go_sem]; omega) | omega))
      have y_w3 := b_w3.size
      (try (have a_w3_w2 : w2.heap.size < w3.heap.size := Nat.lt_of_lt_of_le (by first | assumption | (simp [go_sem]; done) | (simp only [go_sem]; omega) | (simp [go_sem]; omega)) hb.size))
      (try (have a_w3_w1 : w1.heap.size < w3.heap.size := Nat.lt_of_lt_of_le (by first | assumption | (simp [go_sem]; done) | (simp only [go_sem]; omega) | (simp [go_sem]; omega)) hb.size))
      obtain ⟨hc_w3, hf_w3⟩ := bcell hb
      clear hb
      all_goals (go_wp2_with fail; go_meet)
      all_goals refine ⟨.slice A_vw_0 rl.length C_vw_0, rfl, rfl, ?_, ?_⟩
      all_goals first
        | (with_reducible exact Nat.le_refl _) | (with_reducible assumption)
        | (go_grown; done)
        | (simp [go_sem, *]; done)
        | ((repeat' first | exact own_mono o_vw_0 (by first | (with_reducible exact Nat.le_refl _) | (with_reducible assumption) | (simp [go_sem]; done) | (simp [go_sem]; omega) | omega) | refine own_far ?_ ?_ _ | refine World.ownsRow.alloc ?_ _); all_goals (exact own_ne o_vw_0 (Or.inl (by first | assumption | (simp; done) | omega))); done)
        | (have := b_w2.size; have := b_w3.size; simp; omega)
    case rest =>
      obtain ⟨w4, rfl⟩ : ∃ x : World, x = wc := ⟨_, rfl⟩
      obtain ⟨vw_0, rfl, rfl, o_vw_0, hb⟩ := hcut
      have R_vw_0 := Lib.hid (rng_of o_vw_0 (Nat.le_refl w1.heap.size))
      replace c0_0 := (hb.cell (p := ⟨W.heap.size, 0, none⟩) l0).trans c0_0
      replace c0_1 := (hb.cell (p := ⟨W.heap.size, 1, none⟩) l0).trans c0_1
      replace c0_2 := (hb.cell (p := ⟨W.heap.size, 2, none⟩) l0).trans c0_2
      replace l0 := Nat.lt_of_lt_of_le l0 hb.size
      replace old := grown_again old hb
      have z_w4 := hb.size
      clear hb
      go_upto_region 6 with (fail)
      go_cut [10] (fun a10 wr => ∃ (gx0_0 : Nat) (vx0 : Value), a10 = .pointer (some ⟨gx0_0, 0, none⟩) ∧ (w4.heap.size ≤ gx0_0 ∧ gx0_0 < wr.heap.size) ∧ wr.cell? ⟨gx0_0, 0, none⟩ = some (.int .i64 st) ∧ wr.cell? ⟨gx0_0, 1, none⟩ = some (.int .i64 bl) ∧ wr.cell? ⟨gx0_0, 2, none⟩ = some (vx0) ∧ wr.ownsRow w4.heap.size 67 2 vx0 ps.length (P64 ps) ∧ some gx0_0 ≠ vx0.ownBlock ∧ Below w4.heap.size w4 wr)
      case first =>
        have b_w4 := Below.refl w4.heap.size w4
        go_wp2_with fail
        refine (toBarrel_any v ps st bl _ (HV_v.out.below (grown_again old (by first | (with_reducible exact Below.refl _ _) | go_grown))) hl_ps).mono ?_
        rintro e w5 ⟨vx0, rfl, o_vx0, hb⟩
        obtain ⟨A_vx0, C_vx0, rfl⟩ := own_form o_vx0
        have b_w5 : Below w4.heap.size w4 w5 := Below.trans (grown_again b_w4 (by first | (with_reducible exact Below.refl _ _) | go_grown)) (hb.mono (by first | (with_reducible exact Nat.le_refl _) | (with_reducible assumption) | (simp [go_sem]; done) | (simp [go_sem]; omega) | omega))
        have y_w5 := b_w5.size
        (try (have a_w5_w4 : w4.heap.size < w5.heap.size := Nat.lt_of_lt_of_le (by first | assumption | (simp [go_sem]; done) | (simp only [go_sem]; omega) | (simp [go_sem]; omega)) hb.size))
        obtain ⟨hc_w5, hf_w5⟩ := bcell hb
        clear hb
        all_goals (go_wp2_with fail; go_meet)
        all_goals refine ⟨_, .slice A_vx0 ps.length C_vx0, rfl, ⟨?_, ?_⟩, ?_, ?_, ?_, ?_, ?_, ?_⟩
        all_goals first
          | (with_reducible exact Nat.le_refl _) | (with_reducible assumption)
          | (go_grown; done)
          | (simp [go_sem, *]; done)
          | ((repeat' first | exact own_mono o_vx0 (by first | (with_reducible exact Nat.le_refl _) | (with_reducible assumption) | (simp [go_sem]; done) | (simp [go_sem]; omega) | omega) | refine own_far ?_ ?_ _ | refine World.ownsRow.alloc ?_ _); all_goals (exact own_ne o_vx0 (Or.inl (by first | assumption | (simp; done) | omega))); done)
          | exact own_ne o_vx0 (Or.inr (by first | (with_reducible exact Nat.le_refl _) | (with_reducible assumption) | (simp [go_sem]; done) | (simp [go_sem]; omega) | omega)) | exact own_ne o_vx0 (Or.inl (by first | (with_reducible exact Nat.le_refl _) | (with_reducible assumption) | (simp [go_sem]; done) | (simp [go_sem]; omega) | omega))
          | (have := b_w5.size; simp; omega)
      case rest =>
        obtain ⟨w6, rfl⟩ : ∃ x : World, x = wc := ⟨_, rfl⟩
        obtain ⟨gx0_0, vx0, rfl, ⟨rgx0_0, l1⟩, c1_0, c1_1, c1_2, o_vx0, m_gx0_0_vx0, hb⟩ := hcut
        have Q1 : Hid (w4.heap.size ≤ gx0_0 ∧ gx0_0 < w6.heap.size) := ⟨rgx0_0, l1⟩
        have R_vx0 := Lib.hid (rng_of o_vx0 (Nat.le_refl w4.heap.size))
        have E1_vx0 := Lib.hid m_gx0_0_vx0
        clear m_gx0_0_vx0
        clear rgx0_0
        replace c0_0 := (hb.cell (p := ⟨W.heap.size, 0, none⟩) l0).trans c0_0
        replace c0_1 := (hb.cell (p := ⟨W.heap.size, 1, none⟩) l0).trans c0_1
        replace c0_2 := (hb.cell (p := ⟨W.heap.size, 2, none⟩) l0).trans c0_2
        replace l0 := Nat.lt_of_lt_of_le l0 hb.size
        replace o_vw_0 := own_below o_vw_0 hb
        replace old := grown_again old hb
        have z_w6 := hb.size
        clear hb
        go_upto_region 7 with (fail)
        go_cut [11, 12] (fun a11 a12 wr => ∃ (vg_0 : Value), vg_0 = a11 ∧ a12 = .int .i64 rc ∧ wr.ownsRow w6.heap.size 67 2 vg_0 rl.length (P64 rl) ∧ Below w6.heap.size w6 wr)
        case first =>
          have b_w6 := Below.refl w6.heap.size w6
          go_wp2_with fail
          refine (HI.out vx0 _ ((SlP.of_own o_vx0).below (grown_again b_w6 (by first | (with_reducible exact Below.refl _ _) | go_grown)))).mono ?_
          rintro e w7 ⟨vg_0, rfl, o_vg_0, hb⟩
          obtain ⟨A_vg_0, C_vg_0, rfl⟩ := own_form o_vg_0
          have b_w7 : Below w6.heap.size w6 w7 := Below.trans (grown_again b_w6 (by first | (with_reducible exact Below.refl _ _) | go_grown)) (hb.mono (by first | (with_reducible exact Nat.le_refl _) | (with_reducible assumption) | (simp [go_sem]; done) | (simp [go_sem]; omega) | omega))
          have y_w7 := b_w7.size
          (try (have a_w7_w6 : w6.heap.size < w7.heap.size := Nat.lt_of_lt_of_le (by first | assumption | (simp [go_sem]; done) | (simp only [go_sem]; omega) | (simp [go_sem]; omega)) hb.size))
          obtain ⟨hc_w7, hf_w7⟩ := bcell hb
          clear hb
          all_goals (go_wp2_with fail; go_meet)
          all_goals refine ⟨.slice A_vg_0 rl.length C_vg_0, rfl, rfl, ?_, ?_⟩
          all_goals first
            | (with_reducible exact Nat.le_refl _) | (with_reducible assumption)
            | (go_grown; done)
            | (simp [go_sem, *]; done)
            | ((repeat' first | exact own_mono o_vg_0 (by first | (with_reducible exact Nat.le_refl _) | (with_reducible assumption) | (simp [go_sem]; done) | (simp [go_sem]; omega) | omega) | refine own_far ?_ ?_ _ | refine World.ownsRow.alloc ?_ _); all_goals (exact own_ne o_vg_0 (Or.inl (by first | assumption | (simp; done) | omega))); done)
            | (have := b_w7.size; simp; omega)
        case rest =>
          obtain ⟨w8, rfl⟩ : ∃ x : World, x = wc := ⟨_, rfl⟩
          obtain ⟨vg_0, rfl, rfl, o_vg_0, hb⟩ := hcut
          have R_vg_0 := Lib.hid (rng_of o_vg_0 (Nat.le_refl w6.heap.size))
          replace c0_0 := (hb.cell (p := ⟨W.heap.size, 0, none⟩) l0).trans c0_0
          replace c0_1 := (hb.cell (p := ⟨W.heap.size, 1, none⟩) l0).trans c0_1
          replace c0_2 := (hb.cell (p := ⟨W.heap.size, 2, none⟩) l0).trans c0_2
          replace l0 := Nat.lt_of_lt_of_le l0 hb.size
          replace c1_0 := (hb.cell (p := ⟨gx0_0, 0, none⟩) l1).trans c1_0
          replace c1_1 := (hb.cell (p := ⟨gx0_0, 1, none⟩) l1).trans c1_1
          replace c1_2 := (hb.cell (p := ⟨gx0_0, 2, none⟩) l1).trans c1_2
          replace l1 := Nat.lt_of_lt_of_le l1 hb.size
          replace o_vw_0 := own_below o_vw_0 hb
          replace o_vx0 := own_below o_vx0 hb
          replace old := grown_again old hb
          have z_w8 := hb.size
          clear hb
          go_wp2_with fail
          refine (eqPinS_b vg_0 vw_0 rl _ (((SlP.of_own o_vg_0)).below (by first | (with_reducible exact Below.refl _ _) | go_grown)) (((SlP.of_own o_vw_0)).below (by first | (with_reducible exact Below.refl _ _) | go_grown))).mono ?_
          rintro e w9 ⟨rfl, hb⟩
          have b_w9 : Below w8.heap.size w8 w9 := Below.trans (by first | (with_reducible exact Below.refl _ _) | go_grown) (hb.mono (by first | (with_reducible exact Nat.le_refl _) | (with_reducible assumption) | (simp [go_sem]; done) | (simp [go_sem]; omega) | omega))
          clear hb
          replace c0_0 := (b_w9.cell (p := ⟨W.heap.size, 0, none⟩) l0).trans c0_0
          replace c0_1 := (b_w9.cell (p := ⟨W.heap.size, 1, none⟩) l0).trans c0_1
          replace c0_2 := (b_w9.cell (p := ⟨W.heap.size, 2, none⟩) l0).trans c0_2
          replace l0 := Nat.lt_of_lt_of_le l0 b_w9.size
          replace c1_0 := (b_w9.cell (p := ⟨gx0_0, 0, none⟩) l1).trans c1_0
          replace c1_1 := (b_w9.cell (p := ⟨gx0_0, 1, none⟩) l1).trans c1_1
          replace c1_2 := (b_w9.cell (p := ⟨gx0_0, 2, none⟩) l1).trans c1_2
          replace l1 := Nat.lt_of_lt_of_le l1 b_w9.size
          replace o_vw_0 := own_below o_vw_0 b_w9
          replace o_vx0 := own_below o_vx0 b_w9
          replace o_vg_0 := own_below o_vg_0 b_w9
          replace old := grown_again old b_w9
          have z_w9 := b_w9.size
          clear b_w9
          go_upto_region 10 with (fail)
          have HSr := Lib.hid (fun (w' : World) (hb : Below w9.heap.size w9 w') => (⟨(hb.cell (p := ⟨gx0_0, 0, none⟩) l1).trans c1_0, (hb.cell (p := ⟨gx0_0, 1, none⟩) l1).trans c1_1, (hb.cell (p := ⟨gx0_0, 2, none⟩) l1).trans c1_2, (hb.cell (p := ⟨W.heap.size, 0, none⟩) l0).trans c0_0, (hb.cell (p := ⟨W.heap.size, 1, none⟩) l0).trans c0_1, (hb.cell (p := ⟨W.heap.size, 2, none⟩) l0).trans c0_2⟩ : w'.cell? ⟨gx0_0, 0, none⟩ = some (.int .i64 st) ∧ w'.cell? ⟨gx0_0, 1, none⟩ = some (.int .i64 bl) ∧ w'.cell? ⟨gx0_0, 2, none⟩ = some (vx0) ∧ w'.cell? ⟨W.heap.size, 0, none⟩ = some (.int .i64 st) ∧ w'.cell? ⟨W.heap.size, 1, none⟩ = some (.int .i64 bl) ∧ w'.cell? ⟨W.heap.size, 2, none⟩ = some (v)))
          go_region_held3 (fun w' => w'.cell? ⟨gx0_0, 0, none⟩ = some (.int .i64 st) ∧ w'.cell? ⟨gx0_0, 1, none⟩ = some (.int .i64 bl) ∧ w'.cell? ⟨gx0_0, 2, none⟩ = some (vx0) ∧ w'.cell? ⟨W.heap.size, 0, none⟩ = some (.int .i64 st) ∧ w'.cell? ⟨W.heap.size, 1, none⟩ = some (.int .i64 bl) ∧ w'.cell? ⟨W.heap.size, 2, none⟩ = some (v)) (first | assumption | exact HSr.out _ (by go_grown) | go_keep)
            (first
              | (go_at_call 26; refine (toBarrel_any v ps st bl _ (HV_v.out.below (grown_again old (by first | (with_reducible exact Below.refl _ _) | go_grown))) hl_ps).mono ?_; rintro e w10 ⟨uw10, rfl, o_uw10, hb⟩; have b_w10 : Below w9.heap.size w9 w10 := Below.trans (by first | (with_reducible exact Below.refl _ _) | go_grown) (hb.mono (by first | (with_reducible exact Nat.le_refl _) | (with_reducible assumption) | (simp [go_sem]; done) | (simp [go_sem]; omega) | omega)); have y_w10 := b_w10.size; have S_w10 := HSr.out _ b_w10; have s_uw10 := SlP.of_own o_uw10; clear o_uw10; clear hb)
              | (go_at_call 28; refine (eqBarrel_true vx0 uw10 ps st bl _ ((SlP.of_own o_vx0).below (grown_again b_w10 (by first | (with_reducible exact Below.refl _ _) | go_grown))) (s_uw10.below (by first | (with_reducible exact Below.refl _ _) | go_grown))).mono ?_; rintro e w11 ⟨rfl, hb⟩; have b_w11 : Below w9.heap.size w9 w11 := Below.trans (grown_again b_w10 (by first | (with_reducible exact Below.refl _ _) | go_grown)) (hb.mono (by first | (with_reducible exact Nat.le_refl _) | (with_reducible assumption) | (simp [go_sem]; done) | (simp [go_sem]; omega) | omega)); have S_w11 := HSr.out _ b_w11; clear hb))
          clear HSr S_w10 S_w11 s_uw10
          replace c0_0 := (b_w11.cell (p := ⟨W.heap.size, 0, none⟩) l0).trans c0_0
          replace c0_1 := (b_w11.cell (p := ⟨W.heap.size, 1, none⟩) l0).trans c0_1
          replace c0_2 := (b_w11.cell (p := ⟨W.heap.size, 2, none⟩) l0).trans c0_2
          replace l0 := Nat.lt_of_lt_of_le l0 b_w11.size
          replace c1_0 := (b_w11.cell (p := ⟨gx0_0, 0, none⟩) l1).trans c1_0
          replace c1_1 := (b_w11.cell (p := ⟨gx0_0, 1, none⟩) l1).trans c1_1
          replace c1_2 := (b_w11.cell (p := ⟨gx0_0, 2, none⟩) l1).trans c1_2
          replace l1 := Nat.lt_of_lt_of_le l1 b_w11.size
          replace o_vw_0 := own_below o_vw_0 b_w11
          replace o_vx0 := own_below o_vx0 b_w11
          replace o_vg_0 := own_below o_vg_0 b_w11
          replace old := grown_again old b_w11
          have z_w11 := b_w11.size
          clear b_w10 b_w11
          go_wp2_with fail
          have M := markBarrel_any vx0 1 ps (st) (bl) _ w11 o_vx0 (by omega) (by omega) (by omega)
          have M := Lib.hid M
          refine M.out.mono ?_
          rintro e w12 ⟨rfl, om, hg⟩
          clear M
          replace c0_0 := hg.cell c0_0 (Rng.ne (g := W.heap.size) R_vx0.out (by have := Q0.out; omega))
          replace c0_1 := hg.cell c0_1 (Rng.ne (g := W.heap.size) R_vx0.out (by have := Q0.out; omega))
          replace c0_2 := hg.cell c0_2 (Rng.ne (g := W.heap.size) R_vx0.out (by have := Q0.out; omega))
          replace l0 := Nat.lt_of_lt_of_le l0 hg.size
          replace c1_0 := hg.cell c1_0 E1_vx0.out
          replace c1_1 := hg.cell c1_1 E1_vx0.out
          replace c1_2 := hg.cell c1_2 E1_vx0.out
          replace l1 := Nat.lt_of_lt_of_le l1 hg.size
          replace o_vw_0 := o_vw_0.kept hg (Rng.apart R_vw_0.out R_vx0.out (by omega))
          replace o_vg_0 := o_vg_0.kept hg (Rng.apart R_vg_0.out R_vx0.out (by omega))
          replace old := below_grown old hg R_vx0.out (by omega)
          have z_w12 := hg.size
          replace o_vx0 := om
          clear hg
          go_wp2_with fail
          refine (eqPinS_b vg_0 vw_0 rl _ (((SlP.of_own o_vg_0)).below (by first | (with_reducible exact Below.refl _ _) | go_grown)) (((SlP.of_own o_vw_0)).below (by first | (with_reducible exact Below.refl _ _) | go_grown))).mono ?_
          rintro e w13 ⟨rfl, hb⟩
          have b_w13 : Below w12.heap.size w12 w13 := Below.trans (by first | (with_reducible exact Below.refl _ _) | go_grown) (hb.mono (by first | (with_reducible exact Nat.le_refl _) | (with_reducible assumption) | (simp [go_sem]; done) | (simp [go_sem]; omega) | omega))
          clear hb
          replace c0_0 := (b_w13.cell (p := ⟨W.heap.size, 0, none⟩) l0).trans c0_0
          replace c0_1 := (b_w13.cell (p := ⟨W.heap.size, 1, none⟩) l0).trans c0_1
          replace c0_2 := (b_w13.cell (p := ⟨W.heap.size, 2, none⟩) l0).trans c0_2
          replace l0 := Nat.lt_of_lt_of_le l0 b_w13.size
          replace c1_0 := (b_w13.cell (p := ⟨gx0_0, 0, none⟩) l1).trans c1_0
          replace c1_1 := (b_w13.cell (p := ⟨gx0_0, 1, none⟩) l1).trans c1_1
          replace c1_2 := (b_w13.cell (p := ⟨gx0_0, 2, none⟩) l1).trans c1_2
          replace l1 := Nat.lt_of_lt_of_le l1 b_w13.size
          replace o_vw_0 := own_below o_vw_0 b_w13
          replace o_vx0 := own_below o_vx0 b_w13
          replace o_vg_0 := own_below o_vg_0 b_w13
          replace old := grown_again old b_w13
          have z_w13 := b_w13.size
          clear b_w13
          go_wp2_with fail
          have M := markPinS_any vg_0 1 rl _ w13 o_vg_0 (by omega) (by omega) (by omega)
          have M := Lib.hid M
          refine M.out.mono ?_
          rintro e w14 ⟨rfl, om, hg⟩
          clear M
          replace c0_0 := hg.cell c0_0 (Rng.ne (g := W.heap.size) R_vg_0.out (by have := Q0.out; omega))
          replace c0_1 := hg.cell c0_1 (Rng.ne (g := W.heap.size) R_vg_0.out (by have := Q0.out; omega))
          replace c0_2 := hg.cell c0_2 (Rng.ne (g := W.heap.size) R_vg_0.out (by have := Q0.out; omega))
          replace l0 := Nat.lt_of_lt_of_le l0 hg.size
          replace c1_0 := hg.cell c1_0 (Rng.ne (g := gx0_0) R_vg_0.out (by have := Q1.out; omega))
          replace c1_1 := hg.cell c1_1 (Rng.ne (g := gx0_0) R_vg_0.out (by have := Q1.out; omega))
          replace c1_2 := hg.cell c1_2 (Rng.ne (g := gx0_0) R_vg_0.out (by have := Q1.out; omega))
          replace l1 := Nat.lt_of_lt_of_le l1 hg.size
          replace o_vw_0 := o_vw_0.kept hg (Rng.apart R_vw_0.out R_vg_0.out (by omega))
          replace o_vx0 := o_vx0.kept hg (Rng.apart R_vx0.out R_vg_0.out (by omega))
          replace old := below_grown old hg R_vg_0.out (by omega)
          have z_w14 := hg.size
          replace o_vg_0 := om
          clear hg
          go_wp2_with fail
          refine (heldPinS_any vg_0 1 rl.length _ ((SlP.of_own o_vg_0).below (by first | (with_reducible exact Below.refl _ _) | go_grown)) (by omega) (by omega) (by omega)).mono ?_
          rintro e w' ⟨rfl, rfl⟩
          go_upto_region 24 with (fail)
          go_cut [16, 17] (fun a16 a17 wr => ∃ (vh_0 : Value), vh_0 = a16 ∧ a17 = .int .i64 rc ∧ wr.ownsRow w14.heap.size 67 2 vh_0 rl.length (P64 rl) ∧ Below w14.heap.size w14 wr)
          case first =>
            have b_w14 := Below.refl w14.heap.size w14
            go_wp2_with fail
            refine (toBarrel_any v ps st bl _ (HV_v.out.below (grown_again old (by first | (with_reducible exact Below.refl _ _) | go_grown))) hl_ps).mono ?_
            rintro e w16 ⟨uw16, rfl, o_uw16, hb⟩
            have b_w16 : Below w14.heap.size w14 w16 := Below.trans (grown_again b_w14 (by first | (with_reducible exact Below.refl _ _) | go_grown)) (hb.mono (by first | (with_reducible exact Nat.le_refl _) | (with_reducible assumption) | (simp [go_sem]; done) | (simp [go_sem]; omega) | omega))
            have y_w16 := b_w16.size
            (try (have a_w16_w14 : w14.heap.size < w16.heap.size := Nat.lt_of_lt_of_le (by first | assumption | (simp [go_sem]; done) | (simp only [go_sem]; omega) | (simp [go_sem]; omega)) hb.size))
            obtain ⟨hc_w16, hf_w16⟩ := bcell hb
            have s_uw16 := SlP.of_own o_uw16
            clear o_uw16
            clear hb
            go_wp2_with fail
            refine (HI.out uw16 _ (s_uw16.below (by first | (with_reducible exact Below.refl _ _) | go_grown))).mono ?_
            rintro e w17 ⟨vh_0, rfl, o_vh_0, hb⟩
            obtain ⟨A_vh_0, C_vh_0, rfl⟩ := own_form o_vh_0
            have b_w17 : Below w14.heap.size w14 w17 := Below.trans (grown_again b_w16 (by first | (with_reducible exact Below.refl _ _) | go_grown)) (hb.mono (by first | (with_reducible exact Nat.le_refl _) | (with_reducible assumption) | (simp [go_sem]; done) | (simp [go_sem]; omega) | omega))
            have y_w17 := b_w17.size
            (try (have a_w17_w16 : w16.heap.size < w17.heap.size := Nat.lt_of_lt_of_le (by first | assumption | (simp [go_sem]; done) | (simp only [go_sem]; omega) | (simp [go_sem]; omega)) hb.size))
            (try (have a_w17_w14 : w14.heap.size < w17.heap.size := Nat.lt_of_lt_of_le (by first | assumption | (simp [go_sem]; done) | (simp only [go_sem]; omega) | (simp [go_sem]; omega)) hb.size))
            obtain ⟨hc_w17, hf_w17⟩ := bcell hb
            clear hb
            all_goals (go_wp2_with fail; go_meet)
            all_goals refine ⟨.slice A_vh_0 rl.length C_vh_0, rfl, rfl, ?_, ?_⟩
            all_goals first
              | (with_reducible exact Nat.le_refl _) | (with_reducible assumption)
              | (go_grown; done)
              | (simp [go_sem, *]; done)
              | ((repeat' first | exact own_mono o_vh_0 (by first | (with_reducible exact Nat.le_refl _) | (with_reducible assumption) | (simp [go_sem]; done) | (simp [go_sem]; omega) | omega) | refine own_far ?_ ?_ _ | refine World.ownsRow.alloc ?_ _); all_goals (exact own_ne o_vh_0 (Or.inl (by first | assumption | (simp; done) | omega))); done)
              | (have := b_w16.size; have := b_w17.size; simp; omega)
          case rest =>
            obtain ⟨w18, rfl⟩ : ∃ x : World, x = wc := ⟨_, rfl⟩
            obtain ⟨vh_0, rfl, rfl, o_vh_0, hb⟩ := hcut
            have R_vh_0 := Lib.hid (rng_of o_vh_0 (Nat.le_refl w14.heap.size))
            replace c0_0 := (hb.cell (p := ⟨W.heap.size, 0, none⟩) l0).trans c0_0
            replace c0_1 := (hb.cell (p := ⟨W.heap.size, 1, none⟩) l0).trans c0_1
            replace c0_2 := (hb.cell (p := ⟨W.heap.size, 2, none⟩) l0).trans c0_2
            replace l0 := Nat.lt_of_lt_of_le l0 hb.size
            replace c1_0 := (hb.cell (p := ⟨gx0_0, 0, none⟩) l1).trans c1_0
            replace c1_1 := (hb.cell (p := ⟨gx0_0, 1, none⟩) l1).trans c1_1
            replace c1_2 := (hb.cell (p := ⟨gx0_0, 2, none⟩) l1).trans c1_2
            replace l1 := Nat.lt_of_lt_of_le l1 hb.size
            replace o_vw_0 := own_below o_vw_0 hb
            replace o_vx0 := own_below o_vx0 hb
            replace o_vg_0 := own_below o_vg_0 hb
            replace old := grown_again old hb
            have z_w18 := hb.size
            clear hb
            go_wp2_with fail
            refine (eqPinS_b vh_0 vw_0 rl _ (((SlP.of_own o_vh_0)).below (by first | (with_reducible exact Below.refl _ _) | go_grown)) (((SlP.of_own o_vw_0)).below (by first | (with_reducible exact Below.refl _ _) | go_grown))).mono ?_
            rintro e w19 ⟨rfl, hb⟩
            have b_w19 : Below w18.heap.size w18 w19 := Below.trans (by first | (with_reducible exact Below.refl _ _) | go_grown) (hb.mono (by first | (with_reducible exact Nat.le_refl _) | (with_reducible assumption) | (simp [go_sem]; done) | (simp [go_sem]; omega) | omega))
            clear hb
            replace c0_0 := (b_w19.cell (p := ⟨W.heap.size, 0, none⟩) l0).trans c0_0
            replace c0_1 := (b_w19.cell (p := ⟨W.heap.size, 1, none⟩) l0).trans c0_1
            replace c0_2 := (b_w19.cell (p := ⟨W.heap.size, 2, none⟩) l0).trans c0_2
            replace l0 := Nat.lt_of_lt_of_le l0 b_w19.size
            replace c1_0 := (b_w19.cell (p := ⟨gx0_0, 0, none⟩) l1).trans c1_0
            replace c1_1 := (b_w19.cell (p := ⟨gx0_0, 1, none⟩) l1).trans c1_1
            replace c1_2 := (b_w19.cell (p := ⟨gx0_0, 2, none⟩) l1).trans c1_2
            replace l1 := Nat.lt_of_lt_of_le l1 b_w19.size
            replace o_vw_0 := own_below o_vw_0 b_w19
            replace o_vx0 := own_below o_vx0 b_w19
            replace o_vg_0 := own_below o_vg_0 b_w19
            replace o_vh_0 := own_below o_vh_0 b_w19
            replace old := grown_again old b_w19
            have z_w19 := b_w19.size
            clear b_w19
            go_wp2_with fail
            refine (heldPinS_any vg_0 1 rl.length _ ((SlP.of_own o_vg_0).below (by first | (with_reducible exact Below.refl _ _) | go_grown)) (by omega) (by omega) (by omega)).mono ?_
            rintro e w' ⟨rfl, rfl⟩
            go_wp2
            go_ret
            exact ⟨rfl, old⟩
  · go_enter Try.func11, Try.ntmps11
    go_wp2_with fail
    refine (szBarrel_big v ps st bl _ _ (HV_v.out.below (by first | (with_reducible exact Below.refl _ _) | go_grown)) (by omega) (by omega)).mono ?_
    rintro e w1 ⟨rfl, hb⟩
    go_wp2
    go_ret
    exact ⟨rfl, Below.trans (by first | exact Below.refl _ _ | go_grown) (hb.mono (by first | (with_reducible exact Nat.le_refl _) | (with_reducible assumption) | (simp [go_sem]; done) | (simp [go_sem]; omega) | omega))⟩

set_option maxRecDepth 100000 in
theorem fnExactPlayBarrel_lifted (os : Os) (started : os.Started) (H : Type) (enc : TypeId × Value → H) :
    ReturnsInHanded {} Try.checked os 11 .any (Rows.fnExactPlayBarrelSpec.pre6 enc Try.prog Try.f11 Rows.fnExactPlayBarrelRow.domain false) (Rows.fnExactPlayBarrelSpec.post enc Try.prog Try.f11 false true false false) := by
  refine returnsInHanded_of_change (C := Try.checked) Try.own started (by kernel_rfl) Try.func11
    (ChangeSpec.witness6 (enc := enc) (C := Try.checked) false ⟨#[], #[.agg #[.int .i64 0, .int .i64 0, .slice none 0 0], .int .i64 0, .int .i64 0], []⟩ 8 (by kernel_rfl) (by kernel_rfl) (by kernel_rfl) (by kernel_rfl)) ?_
  intro W base args ds gs before hval0 hW hcnd _
  have hval : ∀ (j : Nat) t v, Try.f11.params[j]? = some t → args[j]? = some v → Value.okWide Try.prog W .any base t v := hval0
  have hW' := hW
  have hltB : ∀ x ∈ before, x.block < W.heap.size := fun x hx => hW.lt x hx
  obtain ⟨p, q, hA0, hV, rfl, hfz, hnd⟩ := hW
  have hA : DataW.TrodAll enc Try.prog W 0 (fun _ => true) true Try.f11.params.toList args.toList ds p := hA0
  rw [Try.params11] at hA hval
  obtain ⟨v0, vs0, d0, ds0, p0, q0, hargs, rfl, rfl, h0, r0⟩ := trodAll_cons hA
  obtain ⟨v1, vs1, d1, ds1, p1, q1, rfl, rfl, rfl, h1, r1⟩ := trodAll_cons r0
  obtain ⟨v2, vs2, d2, ds2, p2, q2, rfl, rfl, rfl, h2, r2⟩ := trodAll_cons r1
  obtain ⟨rfl, rfl, rfl⟩ := trodAll_nil r2
  obtain rfl : args = #[v0, v1, v2] := by cases args; simp_all
  clear hA0 hval0 hA hcnd hfz hnd
  have hlt0 : ∀ x ∈ p0, x.block < W.heap.size := fun x hx => hltB x (by simp [hx])
  have hlt1 : ∀ x ∈ p1, x.block < W.heap.size := fun x hx => hltB x (by simp [hx])
  have hlt2 : ∀ x ∈ p2, x.block < W.heap.size := fun x hx => hltB x (by simp [hx])
  obtain ⟨u0_0, u0_1, u0_2, y0_0, y0_1, y0_2, m0, rfl, rfl, rfl, g0_0, g0_1, g0_2⟩ := Joins.open_agg3 Try.underlying38 (by kernel_rfl) (by kernel_rfl) (hval 0 38 v0 rfl rfl) h0
  obtain ⟨st, rfl, bst⟩ := trod_i64 Try.underlying2 g0_0
  obtain ⟨bl, rfl, bbl⟩ := trod_i64 Try.underlying2 g0_1
  obtain ⟨ps, hps, bps⟩ := trod_pairs Try.underlying36 Try.underlying80 (by kernel_rfl) (by kernel_rfl) Try.underlying2 Try.underlying2 g0_2 (fun x hx => hlt0 x (by simp [hx]))
  obtain ⟨f, rfl, rfl, rfl, wf⟩ := open_int Try.underlying2 (hval 1 2 v1 rfl rfl) h1
  have bf := i64_of_wf wf
  obtain ⟨n, rfl, rfl, rfl, wn⟩ := open_int Try.underlying2 (hval 2 2 v2 rfl rfl) h2
  have bn := i64_of_wf wn
  refine (exactPlayBarrel_walk _ ps st bl f n W hps).mono fun e W' ⟨he, hb⟩ => ?_
  subst he
  exact ⟨_, rfl, post_law Try.laidOut hW' rfl rfl (by kernel_rfl) (by kernel_rfl) Try.underlying4 hb⟩

set_option maxHeartbeats 2000000 in
theorem fnExactPlayBarrel_facts : joinedFacts Try.prog 11 Try.f11 Rows.fnExactPlayBarrelSpec Rows.fnExactPlayBarrelRow = true := by
  unfold joinedFacts
  simp only [Bool.and_eq_true]
  repeat' apply And.intro
  all_goals first | with_reducible exact Try.laidOut | with_reducible exact Try.g2 | with_reducible exact Try.g24 | with_reducible exact Try.g25 | (rw [Try.g26]; rfl) | (rw [Try.g27]; rfl) | as_aux_lemma => kernel_rfl
/-- The statement. -/
theorem fnExactPlayBarrel_holds : Rows.FnExactPlayBarrelSaid :=
  OpenClaim.holds_of_wide 11 Try.f11 rfl rfl rfl rfl rfl rfl rfl ⟨rfl, rfl, rfl, rfl, rfl⟩ rfl rfl rfl rfl rfl (by as_aux_lemma => kernel_rfl) Try.func11 fnExactPlayBarrel_facts
    (by as_aux_lemma => exact of_decide_eq_true (by kernel_rfl)) (by as_aux_lemma => unfold Func.isWrapper; rw [if_neg (of_decide_eq_false (by kernel_rfl))]; exact ⟨rfl, rfl⟩)
    (fun os started H enc _ => fnExactPlayBarrel_lifted os started H enc)
#print axioms fnExactPlayBarrel_holds
end Go.Proofs.Ytmjpjechmojkeaa
