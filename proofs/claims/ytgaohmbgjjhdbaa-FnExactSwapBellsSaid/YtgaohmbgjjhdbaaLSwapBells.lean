/- FnExactSwapBells is proved: for every barrel and order the program's SwapBells and the reference's return the same barrel and number, neither is changed, and what is returned shares no memory with anything else. No condition. -/
import Derived.Test.YtgaohmbgjjhdbaaChX
import Derived.Test.YtgaohmbgjjhdbaaStBarrel
import Derived.Test.YtgaohmbgjjhdbaaPxPin
import Derived.Test.YtgaohmbgjjhdbaaCpy
import Derived.Test.YtgaohmbgjjhdbaaRowF
import Derived.Test.YtgaohmbgjjhdbaaBx
import Derived.Test.YtgaohmbgjjhdbaaRow2
import Derived.Deep.RegionHeld3
import Derived.Deep.DeepCutAuto
namespace Go.Proofs.Ytgaohmbgjjhdbaa
open Go.ChangeShapes Go.WideShapes Go.ChangeAt Go.RowKit
attribute [local go_sem ↓] Go.wp_at_zero Go.wp_at_succ

set_option maxRecDepth 100000 in
set_option maxHeartbeats 16000000 in
theorem exactSwapBells_walk (v : Value) (ps : List (Int × Int)) (vo : Value) (os : List Int) (st bl : Int) (W : World) (hv_v : SlP W v ps) (hv_vo : Sl W vo os) :
    Calls Try.prog 8 #[.agg #[.int .i64 st, .int .i64 bl, v], vo] W fun e W' => e = .returned (.bool true) ∧ Below W.heap.size W W' := by
  have HV_v := Lib.hid hv_v
  clear hv_v
  have HV_vo := Lib.hid hv_vo
  obtain ⟨A_vo, C_vo, rfl, _, _, _⟩ := hv_vo.open_
  clear hv_vo
  by_cases hl_os : os.length ≤ 1048576
  · skip
    by_cases hl_ps : ps.length ≤ 1048576
    · skip
      obtain ⟨ra, rb, rl, rc, hL_rl, HFI, HFS⟩ := SwapBells_both st bl ps os (by omega)
      have HI := Lib.hid HFI
      have HS := Lib.hid HFS
      clear HFI HFS
      go_enter Try.func8, Try.ntmps8
      have kk := bx1 W 29 #[.int .i64 st, .int .i64 bl, v]
      have k0 := kk
      have KH0 := Lib.hid k0
      clear kk k0
      go_wp2_with fail
      refine (szBarrel_fits v ps st bl _ _ (HV_v.out.below (by first | (with_reducible exact Below.refl _ _) | go_grown)) (by omega) (by omega)).mono ?_
      rintro e w1 ⟨rfl, hb⟩
      have x0 := KH0.out.below hb
      have c0_0 : w1.cell? ⟨W.heap.size, 0, none⟩ = some (.int .i64 st) := x0.cell 0 rfl
      have c0_1 : w1.cell? ⟨W.heap.size, 1, none⟩ = some (.int .i64 bl) := x0.cell 1 rfl
      have c0_2 : w1.cell? ⟨W.heap.size, 2, none⟩ = some (v) := x0.cell 2 rfl
      have l0 := x0.lt
      clear x0 KH0
      have Q0 := Lib.hid l0
      have old : Below W.heap.size W w1 := Below.trans (by first | exact Below.refl _ _ | go_grown) (hb.mono (by first | (with_reducible exact Nat.le_refl _) | (with_reducible assumption) | (simp [go_sem]; done) | (simp [go_sem]; omega) | omega))
      have z_w1 := old.size
      clear hb
      go_upto_region 7 with (fail)
      go_cut [6, 7] (fun a6 a7 wr => ∃ (gw_0 : Nat) (vw_0_2 : Value), a6 = .pointer (some ⟨gw_0, 0, none⟩) ∧ a7 = .int .i64 rc ∧ (w1.heap.size ≤ gw_0 ∧ gw_0 < wr.heap.size) ∧ wr.cell? ⟨gw_0, 0, none⟩ = some (.int .i64 ra) ∧ wr.cell? ⟨gw_0, 1, none⟩ = some (.int .i64 rb) ∧ wr.cell? ⟨gw_0, 2, none⟩ = some (vw_0_2) ∧ wr.ownsRow w1.heap.size 62 2 vw_0_2 rl.length (P64 rl) ∧ some gw_0 ≠ vw_0_2.ownBlock ∧ Below w1.heap.size w1 wr)
      case first =>
        have b_w1 := Below.refl w1.heap.size w1
        go_wp2_with fail
        refine (toBarrel_any v ps st bl _ (HV_v.out.below (grown_again old (by first | (with_reducible exact Below.refl _ _) | go_grown))) hl_ps).mono ?_
        rintro e w2 ⟨uw2, rfl, o_uw2, hb⟩
        have b_w2 : Below w1.heap.size w1 w2 := Below.trans (grown_again b_w1 (by first | (with_reducible exact Below.refl _ _) | go_grown)) (hb.mono (by first | (with_reducible exact Nat.le_refl _) | (with_reducible assumption) | (simp [go_sem]; done) | (simp [go_sem]; omega) | omega))
        have y_w2 := b_w2.size
        (try (have a_w2_w1 : w1.heap.size < w2.heap.size := Nat.lt_of_lt_of_le (by first | assumption | (simp [go_sem]; done) | (simp only [go_sem]; omega) | (simp [go_sem]; omega)) hb.size))
        obtain ⟨hc_w2, hf_w2⟩ := bcell hb
        have s_uw2 := SlP.of_own o_uw2
        clear o_uw2
        clear hb
        go_wp2_with fail
        refine (toInt64S_any _ os _ (HV_vo.out.below (grown_again old (by first | (with_reducible exact Below.refl _ _) | go_grown))) hl_os).mono ?_
        rintro e w3 ⟨uw3, rfl, o_uw3, hb⟩
        have b_w3 : Below w1.heap.size w1 w3 := Below.trans (grown_again b_w2 (by first | (with_reducible exact Below.refl _ _) | go_grown)) (hb.mono (by first | (with_reducible exact Nat.le_refl _) | (with_reducible assumption) | (simp [go_sem]; done) | (simp [go_sem]; omega) | omega))
        have y_w3 := b_w3.size
        (try (have a_w3_w2 : w2.heap.size < w3.heap.size := Nat.lt_of_lt_of_le (by first | assumption | (simp [go_sem]; done) | (simp only [go_sem]; omega) | (simp [go_sem]; omega)) hb.size))
        (try (have a_w3_w1 : w1.heap.size < w3.heap.size := Nat.lt_of_lt_of_le (by first | assumption | (simp [go_sem]; done) | (simp only [go_sem]; omega) | (simp [go_sem]; omega)) hb.size))
        obtain ⟨hc_w3, hf_w3⟩ := bcell hb
        have s_uw3 := Sl.of_own o_uw3
        clear o_uw3
        replace s_uw2 := (s_uw2.below (by first | (with_reducible exact Below.refl _ _) | go_grown)).below hb
        clear hb
        go_wp2_with fail
        refine (HS.out uw2 uw3 _ (s_uw2.below (by first | (with_reducible exact Below.refl _ _) | go_grown)) (s_uw3.below (by first | (with_reducible exact Below.refl _ _) | go_grown))).mono ?_
        rintro e w4 ⟨vw_0_2, rfl, o_vw_0_2, hb⟩
        obtain ⟨A_vw_0_2, C_vw_0_2, rfl⟩ := own_form o_vw_0_2
        have b_w4 : Below w1.heap.size w1 w4 := Below.trans (grown_again b_w3 (by first | (with_reducible exact Below.refl _ _) | go_grown)) (hb.mono (by first | (with_reducible exact Nat.le_refl _) | (with_reducible assumption) | (simp [go_sem]; done) | (simp [go_sem]; omega) | omega))
        have y_w4 := b_w4.size
        (try (have a_w4_w2 : w2.heap.size < w4.heap.size := Nat.lt_of_lt_of_le (by first | assumption | (simp [go_sem]; done) | (simp only [go_sem]; omega) | (simp [go_sem]; omega)) hb.size))
        (try (have a_w4_w3 : w3.heap.size < w4.heap.size := Nat.lt_of_lt_of_le (by first | assumption | (simp [go_sem]; done) | (simp only [go_sem]; omega) | (simp [go_sem]; omega)) hb.size))
        (try (have a_w4_w1 : w1.heap.size < w4.heap.size := Nat.lt_of_lt_of_le (by first | assumption | (simp [go_sem]; done) | (simp only [go_sem]; omega) | (simp [go_sem]; omega)) hb.size))
        obtain ⟨hc_w4, hf_w4⟩ := bcell hb
        clear hb
        all_goals (go_wp2_with fail; go_meet)
        all_goals refine ⟨_, .slice A_vw_0_2 rl.length C_vw_0_2, rfl, rfl, ⟨?_, ?_⟩, ?_, ?_, ?_, ?_, ?_, ?_⟩
        all_goals first
          | (with_reducible exact Nat.le_refl _) | (with_reducible assumption)
          | (go_grown; done)
          | (simp [go_sem, *]; done)
          | ((repeat' first | exact own_mono o_vw_0_2 (by first | (with_reducible exact Nat.le_refl _) | (with_reducible assumption) | (simp [go_sem]; done) | (simp [go_sem]; omega) | omega) | refine own_far ?_ ?_ _ | refine World.ownsRow.alloc ?_ _); all_goals (exact own_ne o_vw_0_2 (Or.inl (by first | assumption | (simp; done) | omega))); done)
          | exact own_ne o_vw_0_2 (Or.inr (by first | (with_reducible exact Nat.le_refl _) | (with_reducible assumption) | (simp [go_sem]; done) | (simp [go_sem]; omega) | omega)) | exact own_ne o_vw_0_2 (Or.inl (by first | (with_reducible exact Nat.le_refl _) | (with_reducible assumption) | (simp [go_sem]; done) | (simp [go_sem]; omega) | omega))
          | (have := b_w2.size; have := b_w3.size; have := b_w4.size; simp; omega)
      case rest =>
        obtain ⟨w5, rfl⟩ : ∃ x : World, x = wc := ⟨_, rfl⟩
        obtain ⟨gw_0, vw_0_2, rfl, rfl, ⟨rgw_0, l1⟩, c1_0, c1_1, c1_2, o_vw_0_2, m_gw_0_vw_0_2, hb⟩ := hcut
        have Q1 : Hid (w1.heap.size ≤ gw_0 ∧ gw_0 < w5.heap.size) := ⟨rgw_0, l1⟩
        have R_vw_0_2 := Lib.hid (rng_of o_vw_0_2 (Nat.le_refl w1.heap.size))
        have E1_vw_0_2 := Lib.hid m_gw_0_vw_0_2
        clear m_gw_0_vw_0_2
        clear rgw_0
        replace c0_0 := (hb.cell (p := ⟨W.heap.size, 0, none⟩) l0).trans c0_0
        replace c0_1 := (hb.cell (p := ⟨W.heap.size, 1, none⟩) l0).trans c0_1
        replace c0_2 := (hb.cell (p := ⟨W.heap.size, 2, none⟩) l0).trans c0_2
        replace l0 := Nat.lt_of_lt_of_le l0 hb.size
        replace old := grown_again old hb
        have z_w5 := hb.size
        clear hb
        go_upto_region 8 with (fail)
        go_cut [8] (fun a8 wr => ∃ (gx0_0 : Nat) (vx0 : Value), a8 = .pointer (some ⟨gx0_0, 0, none⟩) ∧ (w5.heap.size ≤ gx0_0 ∧ gx0_0 < wr.heap.size) ∧ wr.cell? ⟨gx0_0, 0, none⟩ = some (.int .i64 st) ∧ wr.cell? ⟨gx0_0, 1, none⟩ = some (.int .i64 bl) ∧ wr.cell? ⟨gx0_0, 2, none⟩ = some (vx0) ∧ wr.ownsRow w5.heap.size 62 2 vx0 ps.length (P64 ps) ∧ some gx0_0 ≠ vx0.ownBlock ∧ Below w5.heap.size w5 wr)
        case first =>
          have b_w5 := Below.refl w5.heap.size w5
          go_wp2_with fail
          refine (toBarrel_any v ps st bl _ (HV_v.out.below (grown_again old (by first | (with_reducible exact Below.refl _ _) | go_grown))) hl_ps).mono ?_
          rintro e w6 ⟨vx0, rfl, o_vx0, hb⟩
          obtain ⟨A_vx0, C_vx0, rfl⟩ := own_form o_vx0
          have b_w6 : Below w5.heap.size w5 w6 := Below.trans (grown_again b_w5 (by first | (with_reducible exact Below.refl _ _) | go_grown)) (hb.mono (by first | (with_reducible exact Nat.le_refl _) | (with_reducible assumption) | (simp [go_sem]; done) | (simp [go_sem]; omega) | omega))
          have y_w6 := b_w6.size
          (try (have a_w6_w5 : w5.heap.size < w6.heap.size := Nat.lt_of_lt_of_le (by first | assumption | (simp [go_sem]; done) | (simp only [go_sem]; omega) | (simp [go_sem]; omega)) hb.size))
          obtain ⟨hc_w6, hf_w6⟩ := bcell hb
          clear hb
          all_goals (go_wp2_with fail; go_meet)
          all_goals refine ⟨_, .slice A_vx0 ps.length C_vx0, rfl, ⟨?_, ?_⟩, ?_, ?_, ?_, ?_, ?_, ?_⟩
          all_goals first
            | (with_reducible exact Nat.le_refl _) | (with_reducible assumption)
            | (go_grown; done)
            | (simp [go_sem, *]; done)
            | ((repeat' first | exact own_mono o_vx0 (by first | (with_reducible exact Nat.le_refl _) | (with_reducible assumption) | (simp [go_sem]; done) | (simp [go_sem]; omega) | omega) | refine own_far ?_ ?_ _ | refine World.ownsRow.alloc ?_ _); all_goals (exact own_ne o_vx0 (Or.inl (by first | assumption | (simp; done) | omega))); done)
            | exact own_ne o_vx0 (Or.inr (by first | (with_reducible exact Nat.le_refl _) | (with_reducible assumption) | (simp [go_sem]; done) | (simp [go_sem]; omega) | omega)) | exact own_ne o_vx0 (Or.inl (by first | (with_reducible exact Nat.le_refl _) | (with_reducible assumption) | (simp [go_sem]; done) | (simp [go_sem]; omega) | omega))
            | (have := b_w6.size; simp; omega)
        case rest =>
          obtain ⟨w7, rfl⟩ : ∃ x : World, x = wc := ⟨_, rfl⟩
          obtain ⟨gx0_0, vx0, rfl, ⟨rgx0_0, l2⟩, c2_0, c2_1, c2_2, o_vx0, m_gx0_0_vx0, hb⟩ := hcut
          have Q2 : Hid (w5.heap.size ≤ gx0_0 ∧ gx0_0 < w7.heap.size) := ⟨rgx0_0, l2⟩
          have R_vx0 := Lib.hid (rng_of o_vx0 (Nat.le_refl w5.heap.size))
          have E2_vx0 := Lib.hid m_gx0_0_vx0
          clear m_gx0_0_vx0
          clear rgx0_0
          replace c0_0 := (hb.cell (p := ⟨W.heap.size, 0, none⟩) l0).trans c0_0
          replace c0_1 := (hb.cell (p := ⟨W.heap.size, 1, none⟩) l0).trans c0_1
          replace c0_2 := (hb.cell (p := ⟨W.heap.size, 2, none⟩) l0).trans c0_2
          replace l0 := Nat.lt_of_lt_of_le l0 hb.size
          replace c1_0 := (hb.cell (p := ⟨gw_0, 0, none⟩) l1).trans c1_0
          replace c1_1 := (hb.cell (p := ⟨gw_0, 1, none⟩) l1).trans c1_1
          replace c1_2 := (hb.cell (p := ⟨gw_0, 2, none⟩) l1).trans c1_2
          replace l1 := Nat.lt_of_lt_of_le l1 hb.size
          replace o_vw_0_2 := own_below o_vw_0_2 hb
          replace old := grown_again old hb
          have z_w7 := hb.size
          clear hb
          go_upto_region 9 with (fail)
          go_cut [9] (fun a9 wr => ∃ (vx1 : Value), vx1 = a9 ∧ wr.ownsRow w7.heap.size 2 1 vx1 os.length (I64 os) ∧ Below w7.heap.size w7 wr)
          case first =>
            have b_w7 := Below.refl w7.heap.size w7
            go_wp2_with fail
            refine (toInt64S_any _ os _ (HV_vo.out.below (grown_again old (by first | (with_reducible exact Below.refl _ _) | go_grown))) hl_os).mono ?_
            rintro e w8 ⟨vx1, rfl, o_vx1, hb⟩
            obtain ⟨A_vx1, C_vx1, rfl⟩ := own_form o_vx1
            have b_w8 : Below w7.heap.size w7 w8 := Below.trans (grown_again b_w7 (by first | (with_reducible exact Below.refl _ _) | go_grown)) (hb.mono (by first | (with_reducible exact Nat.le_refl _) | (with_reducible assumption) | (simp [go_sem]; done) | (simp [go_sem]; omega) | omega))
            have y_w8 := b_w8.size
            (try (have a_w8_w7 : w7.heap.size < w8.heap.size := Nat.lt_of_lt_of_le (by first | assumption | (simp [go_sem]; done) | (simp only [go_sem]; omega) | (simp [go_sem]; omega)) hb.size))
            obtain ⟨hc_w8, hf_w8⟩ := bcell hb
            clear hb
            all_goals (go_wp2_with fail; go_meet)
            all_goals refine ⟨.slice A_vx1 os.length C_vx1, rfl, ?_, ?_⟩
            all_goals first
              | (with_reducible exact Nat.le_refl _) | (with_reducible assumption)
              | (go_grown; done)
              | (simp [go_sem, *]; done)
              | ((repeat' first | exact own_mono o_vx1 (by first | (with_reducible exact Nat.le_refl _) | (with_reducible assumption) | (simp [go_sem]; done) | (simp [go_sem]; omega) | omega) | refine own_far ?_ ?_ _ | refine World.ownsRow.alloc ?_ _); all_goals (exact own_ne o_vx1 (Or.inl (by first | assumption | (simp; done) | omega))); done)
              | (have := b_w8.size; simp; omega)
          case rest =>
            obtain ⟨w9, rfl⟩ : ∃ x : World, x = wc := ⟨_, rfl⟩
            obtain ⟨vx1, rfl, o_vx1, hb⟩ := hcut
            have R_vx1 := Lib.hid (rng_of o_vx1 (Nat.le_refl w7.heap.size))
            replace c0_0 := (hb.cell (p := ⟨W.heap.size, 0, none⟩) l0).trans c0_0
            replace c0_1 := (hb.cell (p := ⟨W.heap.size, 1, none⟩) l0).trans c0_1
            replace c0_2 := (hb.cell (p := ⟨W.heap.size, 2, none⟩) l0).trans c0_2
            replace l0 := Nat.lt_of_lt_of_le l0 hb.size
            replace c1_0 := (hb.cell (p := ⟨gw_0, 0, none⟩) l1).trans c1_0
            replace c1_1 := (hb.cell (p := ⟨gw_0, 1, none⟩) l1).trans c1_1
            replace c1_2 := (hb.cell (p := ⟨gw_0, 2, none⟩) l1).trans c1_2
            replace l1 := Nat.lt_of_lt_of_le l1 hb.size
            replace c2_0 := (hb.cell (p := ⟨gx0_0, 0, none⟩) l2).trans c2_0
            replace c2_1 := (hb.cell (p := ⟨gx0_0, 1, none⟩) l2).trans c2_1
            replace c2_2 := (hb.cell (p := ⟨gx0_0, 2, none⟩) l2).trans c2_2
            replace l2 := Nat.lt_of_lt_of_le l2 hb.size
            replace o_vw_0_2 := own_below o_vw_0_2 hb
            replace o_vx0 := own_below o_vx0 hb
            replace old := grown_again old hb
            have z_w9 := hb.size
            clear hb
            go_upto_region 10 with (fail)
            go_cut [10, 11] (fun a10 a11 wr => ∃ (gg_0 : Nat) (vg_0_2 : Value), a10 = .pointer (some ⟨gg_0, 0, none⟩) ∧ a11 = .int .i64 rc ∧ (w9.heap.size ≤ gg_0 ∧ gg_0 < wr.heap.size) ∧ wr.cell? ⟨gg_0, 0, none⟩ = some (.int .i64 ra) ∧ wr.cell? ⟨gg_0, 1, none⟩ = some (.int .i64 rb) ∧ wr.cell? ⟨gg_0, 2, none⟩ = some (vg_0_2) ∧ wr.ownsRow w9.heap.size 62 2 vg_0_2 rl.length (P64 rl) ∧ some gg_0 ≠ vg_0_2.ownBlock ∧ Below w9.heap.size w9 wr)
            case first =>
              have b_w9 := Below.refl w9.heap.size w9
              go_wp2_with fail
              refine (HI.out vx0 vx1 _ ((SlP.of_own o_vx0).below (grown_again b_w9 (by first | (with_reducible exact Below.refl _ _) | go_grown))) ((Sl.of_own o_vx1).below (grown_again b_w9 (by first | (with_reducible exact Below.refl _ _) | go_grown)))).mono ?_
              rintro e w10 ⟨vg_0_2, rfl, o_vg_0_2, hb⟩
              obtain ⟨A_vg_0_2, C_vg_0_2, rfl⟩ := own_form o_vg_0_2
              have b_w10 : Below w9.heap.size w9 w10 := Below.trans (grown_again b_w9 (by first | (with_reducible exact Below.refl _ _) | go_grown)) (hb.mono (by first | (with_reducible exact Nat.le_refl _) | (with_reducible assumption) | (simp [go_sem]; done) | (simp [go_sem]; omega) | omega))
              have y_w10 := b_w10.size
              (try (have a_w10_w9 : w9.heap.size < w10.heap.size := Nat.lt_of_lt_of_le (by first | assumption | (simp [go_sem]; done) | (simp only [go_sem]; omega) | (simp [go_sem]; omega)) hb.size))
              obtain ⟨hc_w10, hf_w10⟩ := bcell hb
              clear hb
              all_goals (go_wp2_with fail; go_meet)
              all_goals refine ⟨_, .slice A_vg_0_2 rl.length C_vg_0_2, rfl, rfl, ⟨?_, ?_⟩, ?_, ?_, ?_, ?_, ?_, ?_⟩
              all_goals first
                | (with_reducible exact Nat.le_refl _) | (with_reducible assumption)
                | (go_grown; done)
                | (simp [go_sem, *]; done)
                | ((repeat' first | exact own_mono o_vg_0_2 (by first | (with_reducible exact Nat.le_refl _) | (with_reducible assumption) | (simp [go_sem]; done) | (simp [go_sem]; omega) | omega) | refine own_far ?_ ?_ _ | refine World.ownsRow.alloc ?_ _); all_goals (exact own_ne o_vg_0_2 (Or.inl (by first | assumption | (simp; done) | omega))); done)
                | exact own_ne o_vg_0_2 (Or.inr (by first | (with_reducible exact Nat.le_refl _) | (with_reducible assumption) | (simp [go_sem]; done) | (simp [go_sem]; omega) | omega)) | exact own_ne o_vg_0_2 (Or.inl (by first | (with_reducible exact Nat.le_refl _) | (with_reducible assumption) | (simp [go_sem]; done) | (simp [go_sem]; omega) | omega))
                | (have := b_w10.size; simp; omega)
            case rest =>
              obtain ⟨w11, rfl⟩ : ∃ x : World, x = wc := ⟨_, rfl⟩
              obtain ⟨gg_0, vg_0_2, rfl, rfl, ⟨rgg_0, l3⟩, c3_0, c3_1, c3_2, o_vg_0_2, m_gg_0_vg_0_2, hb⟩ := hcut
              have Q3 : Hid (w9.heap.size ≤ gg_0 ∧ gg_0 < w11.heap.size) := ⟨rgg_0, l3⟩
              have R_vg_0_2 := Lib.hid (rng_of o_vg_0_2 (Nat.le_refl w9.heap.size))
              have E3_vg_0_2 := Lib.hid m_gg_0_vg_0_2
              clear m_gg_0_vg_0_2
              clear rgg_0
              replace c0_0 := (hb.cell (p := ⟨W.heap.size, 0, none⟩) l0).trans c0_0
              replace c0_1 := (hb.cell (p := ⟨W.heap.size, 1, none⟩) l0).trans c0_1
              replace c0_2 := (hb.cell (p := ⟨W.heap.size, 2, none⟩) l0).trans c0_2
              replace l0 := Nat.lt_of_lt_of_le l0 hb.size
              replace c1_0 := (hb.cell (p := ⟨gw_0, 0, none⟩) l1).trans c1_0
              replace c1_1 := (hb.cell (p := ⟨gw_0, 1, none⟩) l1).trans c1_1
              replace c1_2 := (hb.cell (p := ⟨gw_0, 2, none⟩) l1).trans c1_2
              replace l1 := Nat.lt_of_lt_of_le l1 hb.size
              replace c2_0 := (hb.cell (p := ⟨gx0_0, 0, none⟩) l2).trans c2_0
              replace c2_1 := (hb.cell (p := ⟨gx0_0, 1, none⟩) l2).trans c2_1
              replace c2_2 := (hb.cell (p := ⟨gx0_0, 2, none⟩) l2).trans c2_2
              replace l2 := Nat.lt_of_lt_of_le l2 hb.size
              replace o_vw_0_2 := own_below o_vw_0_2 hb
              replace o_vx0 := own_below o_vx0 hb
              replace o_vx1 := own_below o_vx1 hb
              replace old := grown_again old hb
              have z_w11 := hb.size
              clear hb
              go_wp2_with fail
              refine (eqBarrel_true vg_0_2 vw_0_2 rl (ra) (rb) _ (((SlP.of_own o_vg_0_2)).below (by first | (with_reducible exact Below.refl _ _) | go_grown)) (((SlP.of_own o_vw_0_2)).below (by first | (with_reducible exact Below.refl _ _) | go_grown))).mono ?_
              rintro e w12 ⟨rfl, hb⟩
              have b_w12 : Below w11.heap.size w11 w12 := Below.trans (by first | (with_reducible exact Below.refl _ _) | go_grown) (hb.mono (by first | (with_reducible exact Nat.le_refl _) | (with_reducible assumption) | (simp [go_sem]; done) | (simp [go_sem]; omega) | omega))
              clear hb
              replace c0_0 := (b_w12.cell (p := ⟨W.heap.size, 0, none⟩) l0).trans c0_0
              replace c0_1 := (b_w12.cell (p := ⟨W.heap.size, 1, none⟩) l0).trans c0_1
              replace c0_2 := (b_w12.cell (p := ⟨W.heap.size, 2, none⟩) l0).trans c0_2
              replace l0 := Nat.lt_of_lt_of_le l0 b_w12.size
              replace c1_0 := (b_w12.cell (p := ⟨gw_0, 0, none⟩) l1).trans c1_0
              replace c1_1 := (b_w12.cell (p := ⟨gw_0, 1, none⟩) l1).trans c1_1
              replace c1_2 := (b_w12.cell (p := ⟨gw_0, 2, none⟩) l1).trans c1_2
              replace l1 := Nat.lt_of_lt_of_le l1 b_w12.size
              replace c2_0 := (b_w12.cell (p := ⟨gx0_0, 0, none⟩) l2).trans c2_0
              replace c2_1 := (b_w12.cell (p := ⟨gx0_0, 1, none⟩) l2).trans c2_1
              replace c2_2 := (b_w12.cell (p := ⟨gx0_0, 2, none⟩) l2).trans c2_2
              replace l2 := Nat.lt_of_lt_of_le l2 b_w12.size
              replace c3_0 := (b_w12.cell (p := ⟨gg_0, 0, none⟩) l3).trans c3_0
              replace c3_1 := (b_w12.cell (p := ⟨gg_0, 1, none⟩) l3).trans c3_1
              replace c3_2 := (b_w12.cell (p := ⟨gg_0, 2, none⟩) l3).trans c3_2
              replace l3 := Nat.lt_of_lt_of_le l3 b_w12.size
              replace o_vw_0_2 := own_below o_vw_0_2 b_w12
              replace o_vx0 := own_below o_vx0 b_w12
              replace o_vx1 := own_below o_vx1 b_w12
              replace o_vg_0_2 := own_below o_vg_0_2 b_w12
              replace old := grown_again old b_w12
              have z_w12 := b_w12.size
              clear b_w12
              go_upto_region 13 with (fail)
              have HSr := Lib.hid (fun (w' : World) (hb : Below w12.heap.size w12 w') => (⟨(hb.cell (p := ⟨gx0_0, 0, none⟩) l2).trans c2_0, (hb.cell (p := ⟨gx0_0, 1, none⟩) l2).trans c2_1, (hb.cell (p := ⟨gx0_0, 2, none⟩) l2).trans c2_2, (hb.cell (p := ⟨W.heap.size, 0, none⟩) l0).trans c0_0, (hb.cell (p := ⟨W.heap.size, 1, none⟩) l0).trans c0_1, (hb.cell (p := ⟨W.heap.size, 2, none⟩) l0).trans c0_2⟩ : w'.cell? ⟨gx0_0, 0, none⟩ = some (.int .i64 st) ∧ w'.cell? ⟨gx0_0, 1, none⟩ = some (.int .i64 bl) ∧ w'.cell? ⟨gx0_0, 2, none⟩ = some (vx0) ∧ w'.cell? ⟨W.heap.size, 0, none⟩ = some (.int .i64 st) ∧ w'.cell? ⟨W.heap.size, 1, none⟩ = some (.int .i64 bl) ∧ w'.cell? ⟨W.heap.size, 2, none⟩ = some (v)))
              go_region_held3 (fun w' => w'.cell? ⟨gx0_0, 0, none⟩ = some (.int .i64 st) ∧ w'.cell? ⟨gx0_0, 1, none⟩ = some (.int .i64 bl) ∧ w'.cell? ⟨gx0_0, 2, none⟩ = some (vx0) ∧ w'.cell? ⟨W.heap.size, 0, none⟩ = some (.int .i64 st) ∧ w'.cell? ⟨W.heap.size, 1, none⟩ = some (.int .i64 bl) ∧ w'.cell? ⟨W.heap.size, 2, none⟩ = some (v)) (first | assumption | exact HSr.out _ (by go_grown) | go_keep)
                (first
                  | (go_at_call 16; refine (toBarrel_any v ps st bl _ (HV_v.out.below (grown_again old (by first | (with_reducible exact Below.refl _ _) | go_grown))) hl_ps).mono ?_; rintro e w13 ⟨uw13, rfl, o_uw13, hb⟩; have b_w13 : Below w12.heap.size w12 w13 := Below.trans (by first | (with_reducible exact Below.refl _ _) | go_grown) (hb.mono (by first | (with_reducible exact Nat.le_refl _) | (with_reducible assumption) | (simp [go_sem]; done) | (simp [go_sem]; omega) | omega)); have y_w13 := b_w13.size; have S_w13 := HSr.out _ b_w13; have s_uw13 := SlP.of_own o_uw13; clear o_uw13; clear hb)
                  | (go_at_call 18; refine (eqBarrel_true vx0 uw13 ps st bl _ ((SlP.of_own o_vx0).below (grown_again b_w13 (by first | (with_reducible exact Below.refl _ _) | go_grown))) (s_uw13.below (by first | (with_reducible exact Below.refl _ _) | go_grown))).mono ?_; rintro e w14 ⟨rfl, hb⟩; have b_w14 : Below w12.heap.size w12 w14 := Below.trans (grown_again b_w13 (by first | (with_reducible exact Below.refl _ _) | go_grown)) (hb.mono (by first | (with_reducible exact Nat.le_refl _) | (with_reducible assumption) | (simp [go_sem]; done) | (simp [go_sem]; omega) | omega)); have S_w14 := HSr.out _ b_w14; clear hb))
              clear HSr S_w13 S_w14 s_uw13
              replace c0_0 := (b_w14.cell (p := ⟨W.heap.size, 0, none⟩) l0).trans c0_0
              replace c0_1 := (b_w14.cell (p := ⟨W.heap.size, 1, none⟩) l0).trans c0_1
              replace c0_2 := (b_w14.cell (p := ⟨W.heap.size, 2, none⟩) l0).trans c0_2
              replace l0 := Nat.lt_of_lt_of_le l0 b_w14.size
              replace c1_0 := (b_w14.cell (p := ⟨gw_0, 0, none⟩) l1).trans c1_0
              replace c1_1 := (b_w14.cell (p := ⟨gw_0, 1, none⟩) l1).trans c1_1
              replace c1_2 := (b_w14.cell (p := ⟨gw_0, 2, none⟩) l1).trans c1_2
              replace l1 := Nat.lt_of_lt_of_le l1 b_w14.size
              replace c2_0 := (b_w14.cell (p := ⟨gx0_0, 0, none⟩) l2).trans c2_0
              replace c2_1 := (b_w14.cell (p := ⟨gx0_0, 1, none⟩) l2).trans c2_1
              replace c2_2 := (b_w14.cell (p := ⟨gx0_0, 2, none⟩) l2).trans c2_2
              replace l2 := Nat.lt_of_lt_of_le l2 b_w14.size
              replace c3_0 := (b_w14.cell (p := ⟨gg_0, 0, none⟩) l3).trans c3_0
              replace c3_1 := (b_w14.cell (p := ⟨gg_0, 1, none⟩) l3).trans c3_1
              replace c3_2 := (b_w14.cell (p := ⟨gg_0, 2, none⟩) l3).trans c3_2
              replace l3 := Nat.lt_of_lt_of_le l3 b_w14.size
              replace o_vw_0_2 := own_below o_vw_0_2 b_w14
              replace o_vx0 := own_below o_vx0 b_w14
              replace o_vx1 := own_below o_vx1 b_w14
              replace o_vg_0_2 := own_below o_vg_0_2 b_w14
              replace old := grown_again old b_w14
              have z_w14 := b_w14.size
              clear b_w13 b_w14
              go_wp2_with fail
              refine (toInt64S_any _ os _ (HV_vo.out.below (grown_again old (by first | (with_reducible exact Below.refl _ _) | go_grown))) hl_os).mono ?_
              rintro e w15 ⟨uw15, rfl, o_uw15, hb⟩
              have b_w15 : Below w14.heap.size w14 w15 := Below.trans (by first | (with_reducible exact Below.refl _ _) | go_grown) (hb.mono (by first | (with_reducible exact Nat.le_refl _) | (with_reducible assumption) | (simp [go_sem]; done) | (simp [go_sem]; omega) | omega))
              clear hb
              replace c0_0 := (b_w15.cell (p := ⟨W.heap.size, 0, none⟩) l0).trans c0_0
              replace c0_1 := (b_w15.cell (p := ⟨W.heap.size, 1, none⟩) l0).trans c0_1
              replace c0_2 := (b_w15.cell (p := ⟨W.heap.size, 2, none⟩) l0).trans c0_2
              replace l0 := Nat.lt_of_lt_of_le l0 b_w15.size
              replace c1_0 := (b_w15.cell (p := ⟨gw_0, 0, none⟩) l1).trans c1_0
              replace c1_1 := (b_w15.cell (p := ⟨gw_0, 1, none⟩) l1).trans c1_1
              replace c1_2 := (b_w15.cell (p := ⟨gw_0, 2, none⟩) l1).trans c1_2
              replace l1 := Nat.lt_of_lt_of_le l1 b_w15.size
              replace c2_0 := (b_w15.cell (p := ⟨gx0_0, 0, none⟩) l2).trans c2_0
              replace c2_1 := (b_w15.cell (p := ⟨gx0_0, 1, none⟩) l2).trans c2_1
              replace c2_2 := (b_w15.cell (p := ⟨gx0_0, 2, none⟩) l2).trans c2_2
              replace l2 := Nat.lt_of_lt_of_le l2 b_w15.size
              replace c3_0 := (b_w15.cell (p := ⟨gg_0, 0, none⟩) l3).trans c3_0
              replace c3_1 := (b_w15.cell (p := ⟨gg_0, 1, none⟩) l3).trans c3_1
              replace c3_2 := (b_w15.cell (p := ⟨gg_0, 2, none⟩) l3).trans c3_2
              replace l3 := Nat.lt_of_lt_of_le l3 b_w15.size
              replace o_vw_0_2 := own_below o_vw_0_2 b_w15
              replace o_vx0 := own_below o_vx0 b_w15
              replace o_vx1 := own_below o_vx1 b_w15
              replace o_vg_0_2 := own_below o_vg_0_2 b_w15
              replace old := grown_again old b_w15
              have z_w15 := b_w15.size
              clear b_w15
              have R_uw15 := Lib.hid (rng_of o_uw15 (Nat.le_refl _))
              go_wp2_with fail
              refine (eqInt64S_b vx1 uw15 os _ (((Sl.of_own o_vx1)).below (by first | (with_reducible exact Below.refl _ _) | go_grown)) (((Sl.of_own o_uw15)).below (by first | (with_reducible exact Below.refl _ _) | go_grown))).mono ?_
              rintro e w16 ⟨rfl, hb⟩
              have b_w16 : Below w15.heap.size w15 w16 := Below.trans (by first | (with_reducible exact Below.refl _ _) | go_grown) (hb.mono (by first | (with_reducible exact Nat.le_refl _) | (with_reducible assumption) | (simp [go_sem]; done) | (simp [go_sem]; omega) | omega))
              clear hb
              replace c0_0 := (b_w16.cell (p := ⟨W.heap.size, 0, none⟩) l0).trans c0_0
              replace c0_1 := (b_w16.cell (p := ⟨W.heap.size, 1, none⟩) l0).trans c0_1
              replace c0_2 := (b_w16.cell (p := ⟨W.heap.size, 2, none⟩) l0).trans c0_2
              replace l0 := Nat.lt_of_lt_of_le l0 b_w16.size
              replace c1_0 := (b_w16.cell (p := ⟨gw_0, 0, none⟩) l1).trans c1_0
              replace c1_1 := (b_w16.cell (p := ⟨gw_0, 1, none⟩) l1).trans c1_1
              replace c1_2 := (b_w16.cell (p := ⟨gw_0, 2, none⟩) l1).trans c1_2
              replace l1 := Nat.lt_of_lt_of_le l1 b_w16.size
              replace c2_0 := (b_w16.cell (p := ⟨gx0_0, 0, none⟩) l2).trans c2_0
              replace c2_1 := (b_w16.cell (p := ⟨gx0_0, 1, none⟩) l2).trans c2_1
              replace c2_2 := (b_w16.cell (p := ⟨gx0_0, 2, none⟩) l2).trans c2_2
              replace l2 := Nat.lt_of_lt_of_le l2 b_w16.size
              replace c3_0 := (b_w16.cell (p := ⟨gg_0, 0, none⟩) l3).trans c3_0
              replace c3_1 := (b_w16.cell (p := ⟨gg_0, 1, none⟩) l3).trans c3_1
              replace c3_2 := (b_w16.cell (p := ⟨gg_0, 2, none⟩) l3).trans c3_2
              replace l3 := Nat.lt_of_lt_of_le l3 b_w16.size
              replace o_vw_0_2 := own_below o_vw_0_2 b_w16
              replace o_vx0 := own_below o_vx0 b_w16
              replace o_vx1 := own_below o_vx1 b_w16
              replace o_vg_0_2 := own_below o_vg_0_2 b_w16
              replace o_uw15 := own_below o_uw15 b_w16
              replace old := grown_again old b_w16
              have z_w16 := b_w16.size
              clear b_w16
              go_wp2_with fail
              have M := markBarrel_any vx0 1 ps (st) (bl) _ w16 o_vx0 (by omega) (by omega) (by omega)
              have M := Lib.hid M
              refine M.out.mono ?_
              rintro e w17 ⟨rfl, om, hg⟩
              clear M
              replace c0_0 := hg.cell c0_0 (Rng.ne (g := W.heap.size) R_vx0.out (by have := Q0.out; omega))
              replace c0_1 := hg.cell c0_1 (Rng.ne (g := W.heap.size) R_vx0.out (by have := Q0.out; omega))
              replace c0_2 := hg.cell c0_2 (Rng.ne (g := W.heap.size) R_vx0.out (by have := Q0.out; omega))
              replace l0 := Nat.lt_of_lt_of_le l0 hg.size
              replace c1_0 := hg.cell c1_0 (Rng.ne (g := gw_0) R_vx0.out (by have := Q1.out; omega))
              replace c1_1 := hg.cell c1_1 (Rng.ne (g := gw_0) R_vx0.out (by have := Q1.out; omega))
              replace c1_2 := hg.cell c1_2 (Rng.ne (g := gw_0) R_vx0.out (by have := Q1.out; omega))
              replace l1 := Nat.lt_of_lt_of_le l1 hg.size
              replace c2_0 := hg.cell c2_0 E2_vx0.out
              replace c2_1 := hg.cell c2_1 E2_vx0.out
              replace c2_2 := hg.cell c2_2 E2_vx0.out
              replace l2 := Nat.lt_of_lt_of_le l2 hg.size
              replace c3_0 := hg.cell c3_0 (Rng.ne (g := gg_0) R_vx0.out (by have := Q3.out; omega))
              replace c3_1 := hg.cell c3_1 (Rng.ne (g := gg_0) R_vx0.out (by have := Q3.out; omega))
              replace c3_2 := hg.cell c3_2 (Rng.ne (g := gg_0) R_vx0.out (by have := Q3.out; omega))
              replace l3 := Nat.lt_of_lt_of_le l3 hg.size
              replace o_vw_0_2 := o_vw_0_2.kept hg (Rng.apart R_vw_0_2.out R_vx0.out (by omega))
              replace o_vx1 := o_vx1.kept hg (Rng.apart R_vx1.out R_vx0.out (by omega))
              replace o_vg_0_2 := o_vg_0_2.kept hg (Rng.apart R_vg_0_2.out R_vx0.out (by omega))
              replace o_uw15 := o_uw15.kept hg (Rng.apart R_uw15.out R_vx0.out (by omega))
              replace old := below_grown old hg R_vx0.out (by omega)
              have z_w17 := hg.size
              replace o_vx0 := om
              clear hg
              go_wp2_with fail
              have M := markInt64S_any vx1 (1 + 2 * (ps.length : Int)) os _ w17 o_vx1 (by omega) (by omega) (by omega)
              have M := Lib.hid M
              refine M.out.mono ?_
              rintro e w18 ⟨rfl, om, hg⟩
              clear M
              replace c0_0 := hg.cell c0_0 (Rng.ne (g := W.heap.size) R_vx1.out (by have := Q0.out; omega))
              replace c0_1 := hg.cell c0_1 (Rng.ne (g := W.heap.size) R_vx1.out (by have := Q0.out; omega))
              replace c0_2 := hg.cell c0_2 (Rng.ne (g := W.heap.size) R_vx1.out (by have := Q0.out; omega))
              replace l0 := Nat.lt_of_lt_of_le l0 hg.size
              replace c1_0 := hg.cell c1_0 (Rng.ne (g := gw_0) R_vx1.out (by have := Q1.out; omega))
              replace c1_1 := hg.cell c1_1 (Rng.ne (g := gw_0) R_vx1.out (by have := Q1.out; omega))
              replace c1_2 := hg.cell c1_2 (Rng.ne (g := gw_0) R_vx1.out (by have := Q1.out; omega))
              replace l1 := Nat.lt_of_lt_of_le l1 hg.size
              replace c2_0 := hg.cell c2_0 (Rng.ne (g := gx0_0) R_vx1.out (by have := Q2.out; omega))
              replace c2_1 := hg.cell c2_1 (Rng.ne (g := gx0_0) R_vx1.out (by have := Q2.out; omega))
              replace c2_2 := hg.cell c2_2 (Rng.ne (g := gx0_0) R_vx1.out (by have := Q2.out; omega))
              replace l2 := Nat.lt_of_lt_of_le l2 hg.size
              replace c3_0 := hg.cell c3_0 (Rng.ne (g := gg_0) R_vx1.out (by have := Q3.out; omega))
              replace c3_1 := hg.cell c3_1 (Rng.ne (g := gg_0) R_vx1.out (by have := Q3.out; omega))
              replace c3_2 := hg.cell c3_2 (Rng.ne (g := gg_0) R_vx1.out (by have := Q3.out; omega))
              replace l3 := Nat.lt_of_lt_of_le l3 hg.size
              replace o_vw_0_2 := o_vw_0_2.kept hg (Rng.apart R_vw_0_2.out R_vx1.out (by omega))
              replace o_vx0 := o_vx0.kept hg (Rng.apart R_vx0.out R_vx1.out (by omega))
              replace o_vg_0_2 := o_vg_0_2.kept hg (Rng.apart R_vg_0_2.out R_vx1.out (by omega))
              replace o_uw15 := o_uw15.kept hg (Rng.apart R_uw15.out R_vx1.out (by omega))
              replace old := below_grown old hg R_vx1.out (by omega)
              have z_w18 := hg.size
              replace o_vx1 := om
              clear hg
              go_wp2_with fail
              refine (eqBarrel_true vg_0_2 vw_0_2 rl (ra) (rb) _ (((SlP.of_own o_vg_0_2)).below (by first | (with_reducible exact Below.refl _ _) | go_grown)) (((SlP.of_own o_vw_0_2)).below (by first | (with_reducible exact Below.refl _ _) | go_grown))).mono ?_
              rintro e w19 ⟨rfl, hb⟩
              have b_w19 : Below w18.heap.size w18 w19 := Below.trans (by first | (with_reducible exact Below.refl _ _) | go_grown) (hb.mono (by first | (with_reducible exact Nat.le_refl _) | (with_reducible assumption) | (simp [go_sem]; done) | (simp [go_sem]; omega) | omega))
              clear hb
              replace c0_0 := (b_w19.cell (p := ⟨W.heap.size, 0, none⟩) l0).trans c0_0
              replace c0_1 := (b_w19.cell (p := ⟨W.heap.size, 1, none⟩) l0).trans c0_1
              replace c0_2 := (b_w19.cell (p := ⟨W.heap.size, 2, none⟩) l0).trans c0_2
              replace l0 := Nat.lt_of_lt_of_le l0 b_w19.size
              replace c1_0 := (b_w19.cell (p := ⟨gw_0, 0, none⟩) l1).trans c1_0
              replace c1_1 := (b_w19.cell (p := ⟨gw_0, 1, none⟩) l1).trans c1_1
              replace c1_2 := (b_w19.cell (p := ⟨gw_0, 2, none⟩) l1).trans c1_2
              replace l1 := Nat.lt_of_lt_of_le l1 b_w19.size
              replace c2_0 := (b_w19.cell (p := ⟨gx0_0, 0, none⟩) l2).trans c2_0
              replace c2_1 := (b_w19.cell (p := ⟨gx0_0, 1, none⟩) l2).trans c2_1
              replace c2_2 := (b_w19.cell (p := ⟨gx0_0, 2, none⟩) l2).trans c2_2
              replace l2 := Nat.lt_of_lt_of_le l2 b_w19.size
              replace c3_0 := (b_w19.cell (p := ⟨gg_0, 0, none⟩) l3).trans c3_0
              replace c3_1 := (b_w19.cell (p := ⟨gg_0, 1, none⟩) l3).trans c3_1
              replace c3_2 := (b_w19.cell (p := ⟨gg_0, 2, none⟩) l3).trans c3_2
              replace l3 := Nat.lt_of_lt_of_le l3 b_w19.size
              replace o_vw_0_2 := own_below o_vw_0_2 b_w19
              replace o_vx0 := own_below o_vx0 b_w19
              replace o_vx1 := own_below o_vx1 b_w19
              replace o_vg_0_2 := own_below o_vg_0_2 b_w19
              replace o_uw15 := own_below o_uw15 b_w19
              replace old := grown_again old b_w19
              have z_w19 := b_w19.size
              clear b_w19
              go_wp2_with fail
              have M := markBarrel_any vg_0_2 1 rl (ra) (rb) _ w19 o_vg_0_2 (by omega) (by omega) (by omega)
              have M := Lib.hid M
              refine M.out.mono ?_
              rintro e w20 ⟨rfl, om, hg⟩
              clear M
              replace c0_0 := hg.cell c0_0 (Rng.ne (g := W.heap.size) R_vg_0_2.out (by have := Q0.out; omega))
              replace c0_1 := hg.cell c0_1 (Rng.ne (g := W.heap.size) R_vg_0_2.out (by have := Q0.out; omega))
              replace c0_2 := hg.cell c0_2 (Rng.ne (g := W.heap.size) R_vg_0_2.out (by have := Q0.out; omega))
              replace l0 := Nat.lt_of_lt_of_le l0 hg.size
              replace c1_0 := hg.cell c1_0 (Rng.ne (g := gw_0) R_vg_0_2.out (by have := Q1.out; omega))
              replace c1_1 := hg.cell c1_1 (Rng.ne (g := gw_0) R_vg_0_2.out (by have := Q1.out; omega))
              replace c1_2 := hg.cell c1_2 (Rng.ne (g := gw_0) R_vg_0_2.out (by have := Q1.out; omega))
              replace l1 := Nat.lt_of_lt_of_le l1 hg.size
              replace c2_0 := hg.cell c2_0 (Rng.ne (g := gx0_0) R_vg_0_2.out (by have := Q2.out; omega))
              replace c2_1 := hg.cell c2_1 (Rng.ne (g := gx0_0) R_vg_0_2.out (by have := Q2.out; omega))
              replace c2_2 := hg.cell c2_2 (Rng.ne (g := gx0_0) R_vg_0_2.out (by have := Q2.out; omega))
              replace l2 := Nat.lt_of_lt_of_le l2 hg.size
              replace c3_0 := hg.cell c3_0 E3_vg_0_2.out
              replace c3_1 := hg.cell c3_1 E3_vg_0_2.out
              replace c3_2 := hg.cell c3_2 E3_vg_0_2.out
              replace l3 := Nat.lt_of_lt_of_le l3 hg.size
              replace o_vw_0_2 := o_vw_0_2.kept hg (Rng.apart R_vw_0_2.out R_vg_0_2.out (by omega))
              replace o_vx0 := o_vx0.kept hg (Rng.apart R_vx0.out R_vg_0_2.out (by omega))
              replace o_vx1 := o_vx1.kept hg (Rng.apart R_vx1.out R_vg_0_2.out (by omega))
              replace o_uw15 := o_uw15.kept hg (Rng.apart R_uw15.out R_vg_0_2.out (by omega))
              replace old := below_grown old hg R_vg_0_2.out (by omega)
              have z_w20 := hg.size
              replace o_vg_0_2 := om
              clear hg
              go_wp2_with fail
              refine (heldBarrel_any vg_0_2 1 rl.length (ra) (rb) _ ((SlP.of_own o_vg_0_2).below (by first | (with_reducible exact Below.refl _ _) | go_grown)) (by omega) (by omega) (by omega)).mono ?_
              rintro e w21 ⟨rfl, hb⟩
              have b_w21 : Below w20.heap.size w20 w21 := Below.trans (by first | (with_reducible exact Below.refl _ _) | go_grown) (hb.mono (by first | (with_reducible exact Nat.le_refl _) | (with_reducible assumption) | (simp [go_sem]; done) | (simp [go_sem]; omega) | omega))
              clear hb
              replace c0_0 := (b_w21.cell (p := ⟨W.heap.size, 0, none⟩) l0).trans c0_0
              replace c0_1 := (b_w21.cell (p := ⟨W.heap.size, 1, none⟩) l0).trans c0_1
              replace c0_2 := (b_w21.cell (p := ⟨W.heap.size, 2, none⟩) l0).trans c0_2
              replace l0 := Nat.lt_of_lt_of_le l0 b_w21.size
              replace c1_0 := (b_w21.cell (p := ⟨gw_0, 0, none⟩) l1).trans c1_0
              replace c1_1 := (b_w21.cell (p := ⟨gw_0, 1, none⟩) l1).trans c1_1
              replace c1_2 := (b_w21.cell (p := ⟨gw_0, 2, none⟩) l1).trans c1_2
              replace l1 := Nat.lt_of_lt_of_le l1 b_w21.size
              replace c2_0 := (b_w21.cell (p := ⟨gx0_0, 0, none⟩) l2).trans c2_0
              replace c2_1 := (b_w21.cell (p := ⟨gx0_0, 1, none⟩) l2).trans c2_1
              replace c2_2 := (b_w21.cell (p := ⟨gx0_0, 2, none⟩) l2).trans c2_2
              replace l2 := Nat.lt_of_lt_of_le l2 b_w21.size
              replace c3_0 := (b_w21.cell (p := ⟨gg_0, 0, none⟩) l3).trans c3_0
              replace c3_1 := (b_w21.cell (p := ⟨gg_0, 1, none⟩) l3).trans c3_1
              replace c3_2 := (b_w21.cell (p := ⟨gg_0, 2, none⟩) l3).trans c3_2
              replace l3 := Nat.lt_of_lt_of_le l3 b_w21.size
              replace o_vw_0_2 := own_below o_vw_0_2 b_w21
              replace o_vx0 := own_below o_vx0 b_w21
              replace o_vx1 := own_below o_vx1 b_w21
              replace o_vg_0_2 := own_below o_vg_0_2 b_w21
              replace o_uw15 := own_below o_uw15 b_w21
              replace old := grown_again old b_w21
              have z_w21 := b_w21.size
              clear b_w21
              go_upto_region 30 with (fail)
              go_cut [15, 16] (fun a15 a16 wr => ∃ (gh_0 : Nat) (vh_0_2 : Value), a15 = .pointer (some ⟨gh_0, 0, none⟩) ∧ a16 = .int .i64 rc ∧ (w21.heap.size ≤ gh_0 ∧ gh_0 < wr.heap.size) ∧ wr.cell? ⟨gh_0, 0, none⟩ = some (.int .i64 ra) ∧ wr.cell? ⟨gh_0, 1, none⟩ = some (.int .i64 rb) ∧ wr.cell? ⟨gh_0, 2, none⟩ = some (vh_0_2) ∧ wr.ownsRow w21.heap.size 62 2 vh_0_2 rl.length (P64 rl) ∧ some gh_0 ≠ vh_0_2.ownBlock ∧ Below w21.heap.size w21 wr)
              case first =>
                have b_w21 := Below.refl w21.heap.size w21
                go_wp2_with fail
                refine (toBarrel_any v ps st bl _ (HV_v.out.below (grown_again old (by first | (with_reducible exact Below.refl _ _) | go_grown))) hl_ps).mono ?_
                rintro e w22 ⟨uw22, rfl, o_uw22, hb⟩
                have b_w22 : Below w21.heap.size w21 w22 := Below.trans (grown_again b_w21 (by first | (with_reducible exact Below.refl _ _) | go_grown)) (hb.mono (by first | (with_reducible exact Nat.le_refl _) | (with_reducible assumption) | (simp [go_sem]; done) | (simp [go_sem]; omega) | omega))
                have y_w22 := b_w22.size
                (try (have a_w22_w21 : w21.heap.size < w22.heap.size := Nat.lt_of_lt_of_le (by first | assumption | (simp [go_sem]; done) | (simp only [go_sem]; omega) | (simp [go_sem]; omega)) hb.size))
                obtain ⟨hc_w22, hf_w22⟩ := bcell hb
                have s_uw22 := SlP.of_own o_uw22
                clear o_uw22
                clear hb
                go_wp2_with fail
                refine (toInt64S_any _ os _ (HV_vo.out.below (grown_again old (by first | (with_reducible exact Below.refl _ _) | go_grown))) hl_os).mono ?_
                rintro e w23 ⟨uw23, rfl, o_uw23, hb⟩
                have b_w23 : Below w21.heap.size w21 w23 := Below.trans (grown_again b_w22 (by first | (with_reducible exact Below.refl _ _) | go_grown)) (hb.mono (by first | (with_reducible exact Nat.le_refl _) | (with_reducible assumption) | (simp [go_sem]; done) | (simp [go_sem]; omega) | omega))
                have y_w23 := b_w23.size
                (try (have a_w23_w22 : w22.heap.size < w23.heap.size := Nat.lt_of_lt_of_le (by first | assumption | (simp [go_sem]; done) | (simp only [go_sem]; omega) | (simp [go_sem]; omega)) hb.size))
                (try (have a_w23_w21 : w21.heap.size < w23.heap.size := Nat.lt_of_lt_of_le (by first | assumption | (simp [go_sem]; done) | (simp only [go_sem]; omega) | (simp [go_sem]; omega)) hb.size))
                obtain ⟨hc_w23, hf_w23⟩ := bcell hb
                have s_uw23 := Sl.of_own o_uw23
                clear o_uw23
                replace s_uw22 := (s_uw22.below (by first | (with_reducible exact Below.refl _ _) | go_grown)).below hb
                clear hb
                go_wp2_with fail
                refine (HI.out uw22 uw23 _ (s_uw22.below (by first | (with_reducible exact Below.refl _ _) | go_grown)) (s_uw23.below (by first | (with_reducible exact Below.refl _ _) | go_grown))).mono ?_
                rintro e w24 ⟨vh_0_2, rfl, o_vh_0_2, hb⟩
                obtain ⟨A_vh_0_2, C_vh_0_2, rfl⟩ := own_form o_vh_0_2
                have b_w24 : Below w21.heap.size w21 w24 := Below.trans (grown_again b_w23 (by first | (with_reducible exact Below.refl _ _) | go_grown)) (hb.mono (by first | (with_reducible exact Nat.le_refl _) | (with_reducible assumption) | (simp [go_sem]; done) | (simp [go_sem]; omega) | omega))
                have y_w24 := b_w24.size
                (try (have a_w24_w22 : w22.heap.size < w24.heap.size := Nat.lt_of_lt_of_le (by first | assumption | (simp [go_sem]; done) | (simp only [go_sem]; omega) | (simp [go_sem]; omega)) hb.size))
                (try (have a_w24_w23 : w23.heap.size < w24.heap.size := Nat.lt_of_lt_of_le (by first | assumption | (simp [go_sem]; done) | (simp only [go_sem]; omega) | (simp [go_sem]; omega)) hb.size))
                (try (have a_w24_w21 : w21.heap.size < w24.heap.size := Nat.lt_of_lt_of_le (by first | assumption | (simp [go_sem]; done) | (simp only [go_sem]; omega) | (simp [go_sem]; omega)) hb.size))
                obtain ⟨hc_w24, hf_w24⟩ := bcell hb
                clear hb
                all_goals (go_wp2_with fail; go_meet)
                all_goals refine ⟨_, .slice A_vh_0_2 rl.length C_vh_0_2, rfl, rfl, ⟨?_, ?_⟩, ?_, ?_, ?_, ?_, ?_, ?_⟩
                all_goals first
                  | (with_reducible exact Nat.le_refl _) | (with_reducible assumption)
                  | (go_grown; done)
                  | (simp [go_sem, *]; done)
                  | ((repeat' first | exact own_mono o_vh_0_2 (by first | (with_reducible exact Nat.le_refl _) | (with_reducible assumption) | (simp [go_sem]; done) | (simp [go_sem]; omega) | omega) | refine own_far ?_ ?_ _ | refine World.ownsRow.alloc ?_ _); all_goals (exact own_ne o_vh_0_2 (Or.inl (by first | assumption | (simp; done) | omega))); done)
                  | exact own_ne o_vh_0_2 (Or.inr (by first | (with_reducible exact Nat.le_refl _) | (with_reducible assumption) | (simp [go_sem]; done) | (simp [go_sem]; omega) | omega)) | exact own_ne o_vh_0_2 (Or.inl (by first | (with_reducible exact Nat.le_refl _) | (with_reducible assumption) | (simp [go_sem]; done) | (simp [go_sem]; omega) | omega))
                  | (have := b_w22.size; have := b_w23.size; have := b_w24.size; simp; omega)
              case rest =>
                obtain ⟨w25, rfl⟩ : ∃ x : World, x = wc := ⟨_, rfl⟩
                obtain ⟨gh_0, vh_0_2, rfl, rfl, ⟨rgh_0, l4⟩, c4_0, c4_1, c4_2, o_vh_0_2, m_gh_0_vh_0_2, hb⟩ := hcut
                have Q4 : Hid (w21.heap.size ≤ gh_0 ∧ gh_0 < w25.heap.size) := ⟨rgh_0, l4⟩
                have R_vh_0_2 := Lib.hid (rng_of o_vh_0_2 (Nat.le_refl w21.heap.size))
                have E4_vh_0_2 := Lib.hid m_gh_0_vh_0_2
                clear m_gh_0_vh_0_2
                clear rgh_0
                replace c0_0 := (hb.cell (p := ⟨W.heap.size, 0, none⟩) l0).trans c0_0
                replace c0_1 := (hb.cell (p := ⟨W.heap.size, 1, none⟩) l0).trans c0_1
                replace c0_2 := (hb.cell (p := ⟨W.heap.size, 2, none⟩) l0).trans c0_2
                replace l0 := Nat.lt_of_lt_of_le l0 hb.size
                replace c1_0 := (hb.cell (p := ⟨gw_0, 0, none⟩) l1).trans c1_0
                replace c1_1 := (hb.cell (p := ⟨gw_0, 1, none⟩) l1).trans c1_1
                replace c1_2 := (hb.cell (p := ⟨gw_0, 2, none⟩) l1).trans c1_2
                replace l1 := Nat.lt_of_lt_of_le l1 hb.size
                replace c2_0 := (hb.cell (p := ⟨gx0_0, 0, none⟩) l2).trans c2_0
                replace c2_1 := (hb.cell (p := ⟨gx0_0, 1, none⟩) l2).trans c2_1
                replace c2_2 := (hb.cell (p := ⟨gx0_0, 2, none⟩) l2).trans c2_2
                replace l2 := Nat.lt_of_lt_of_le l2 hb.size
                replace c3_0 := (hb.cell (p := ⟨gg_0, 0, none⟩) l3).trans c3_0
                replace c3_1 := (hb.cell (p := ⟨gg_0, 1, none⟩) l3).trans c3_1
                replace c3_2 := (hb.cell (p := ⟨gg_0, 2, none⟩) l3).trans c3_2
                replace l3 := Nat.lt_of_lt_of_le l3 hb.size
                replace o_vw_0_2 := own_below o_vw_0_2 hb
                replace o_vx0 := own_below o_vx0 hb
                replace o_vx1 := own_below o_vx1 hb
                replace o_vg_0_2 := own_below o_vg_0_2 hb
                replace o_uw15 := own_below o_uw15 hb
                replace old := grown_again old hb
                have z_w25 := hb.size
                clear hb
                go_wp2_with fail
                refine (eqBarrel_true vh_0_2 vw_0_2 rl (ra) (rb) _ (((SlP.of_own o_vh_0_2)).below (by first | (with_reducible exact Below.refl _ _) | go_grown)) (((SlP.of_own o_vw_0_2)).below (by first | (with_reducible exact Below.refl _ _) | go_grown))).mono ?_
                rintro e w26 ⟨rfl, hb⟩
                have b_w26 : Below w25.heap.size w25 w26 := Below.trans (by first | (with_reducible exact Below.refl _ _) | go_grown) (hb.mono (by first | (with_reducible exact Nat.le_refl _) | (with_reducible assumption) | (simp [go_sem]; done) | (simp [go_sem]; omega) | omega))
                clear hb
                replace c0_0 := (b_w26.cell (p := ⟨W.heap.size, 0, none⟩) l0).trans c0_0
                replace c0_1 := (b_w26.cell (p := ⟨W.heap.size, 1, none⟩) l0).trans c0_1
                replace c0_2 := (b_w26.cell (p := ⟨W.heap.size, 2, none⟩) l0).trans c0_2
                replace l0 := Nat.lt_of_lt_of_le l0 b_w26.size
                replace c1_0 := (b_w26.cell (p := ⟨gw_0, 0, none⟩) l1).trans c1_0
                replace c1_1 := (b_w26.cell (p := ⟨gw_0, 1, none⟩) l1).trans c1_1
                replace c1_2 := (b_w26.cell (p := ⟨gw_0, 2, none⟩) l1).trans c1_2
                replace l1 := Nat.lt_of_lt_of_le l1 b_w26.size
                replace c2_0 := (b_w26.cell (p := ⟨gx0_0, 0, none⟩) l2).trans c2_0
                replace c2_1 := (b_w26.cell (p := ⟨gx0_0, 1, none⟩) l2).trans c2_1
                replace c2_2 := (b_w26.cell (p := ⟨gx0_0, 2, none⟩) l2).trans c2_2
                replace l2 := Nat.lt_of_lt_of_le l2 b_w26.size
                replace c3_0 := (b_w26.cell (p := ⟨gg_0, 0, none⟩) l3).trans c3_0
                replace c3_1 := (b_w26.cell (p := ⟨gg_0, 1, none⟩) l3).trans c3_1
                replace c3_2 := (b_w26.cell (p := ⟨gg_0, 2, none⟩) l3).trans c3_2
                replace l3 := Nat.lt_of_lt_of_le l3 b_w26.size
                replace c4_0 := (b_w26.cell (p := ⟨gh_0, 0, none⟩) l4).trans c4_0
                replace c4_1 := (b_w26.cell (p := ⟨gh_0, 1, none⟩) l4).trans c4_1
                replace c4_2 := (b_w26.cell (p := ⟨gh_0, 2, none⟩) l4).trans c4_2
                replace l4 := Nat.lt_of_lt_of_le l4 b_w26.size
                replace o_vw_0_2 := own_below o_vw_0_2 b_w26
                replace o_vx0 := own_below o_vx0 b_w26
                replace o_vx1 := own_below o_vx1 b_w26
                replace o_vg_0_2 := own_below o_vg_0_2 b_w26
                replace o_uw15 := own_below o_uw15 b_w26
                replace o_vh_0_2 := own_below o_vh_0_2 b_w26
                replace old := grown_again old b_w26
                have z_w26 := b_w26.size
                clear b_w26
                go_wp2_with fail
                refine (heldBarrel_any vg_0_2 1 rl.length (ra) (rb) _ ((SlP.of_own o_vg_0_2).below (by first | (with_reducible exact Below.refl _ _) | go_grown)) (by omega) (by omega) (by omega)).mono ?_
                rintro e w27 ⟨rfl, hb⟩
                have b_w27 : Below w26.heap.size w26 w27 := Below.trans (by first | (with_reducible exact Below.refl _ _) | go_grown) (hb.mono (by first | (with_reducible exact Nat.le_refl _) | (with_reducible assumption) | (simp [go_sem]; done) | (simp [go_sem]; omega) | omega))
                clear hb
                replace c0_0 := (b_w27.cell (p := ⟨W.heap.size, 0, none⟩) l0).trans c0_0
                replace c0_1 := (b_w27.cell (p := ⟨W.heap.size, 1, none⟩) l0).trans c0_1
                replace c0_2 := (b_w27.cell (p := ⟨W.heap.size, 2, none⟩) l0).trans c0_2
                replace l0 := Nat.lt_of_lt_of_le l0 b_w27.size
                replace c1_0 := (b_w27.cell (p := ⟨gw_0, 0, none⟩) l1).trans c1_0
                replace c1_1 := (b_w27.cell (p := ⟨gw_0, 1, none⟩) l1).trans c1_1
                replace c1_2 := (b_w27.cell (p := ⟨gw_0, 2, none⟩) l1).trans c1_2
                replace l1 := Nat.lt_of_lt_of_le l1 b_w27.size
                replace c2_0 := (b_w27.cell (p := ⟨gx0_0, 0, none⟩) l2).trans c2_0
                replace c2_1 := (b_w27.cell (p := ⟨gx0_0, 1, none⟩) l2).trans c2_1
                replace c2_2 := (b_w27.cell (p := ⟨gx0_0, 2, none⟩) l2).trans c2_2
                replace l2 := Nat.lt_of_lt_of_le l2 b_w27.size
                replace c3_0 := (b_w27.cell (p := ⟨gg_0, 0, none⟩) l3).trans c3_0
                replace c3_1 := (b_w27.cell (p := ⟨gg_0, 1, none⟩) l3).trans c3_1
                replace c3_2 := (b_w27.cell (p := ⟨gg_0, 2, none⟩) l3).trans c3_2
                replace l3 := Nat.lt_of_lt_of_le l3 b_w27.size
                replace c4_0 := (b_w27.cell (p := ⟨gh_0, 0, none⟩) l4).trans c4_0
                replace c4_1 := (b_w27.cell (p := ⟨gh_0, 1, none⟩) l4).trans c4_1
                replace c4_2 := (b_w27.cell (p := ⟨gh_0, 2, none⟩) l4).trans c4_2
                replace l4 := Nat.lt_of_lt_of_le l4 b_w27.size
                replace o_vw_0_2 := own_below o_vw_0_2 b_w27
                replace o_vx0 := own_below o_vx0 b_w27
                replace o_vx1 := own_below o_vx1 b_w27
                replace o_vg_0_2 := own_below o_vg_0_2 b_w27
                replace o_uw15 := own_below o_uw15 b_w27
                replace o_vh_0_2 := own_below o_vh_0_2 b_w27
                replace old := grown_again old b_w27
                have z_w27 := b_w27.size
                clear b_w27
                go_wp2
                go_ret
                exact ⟨rfl, old⟩
    · go_enter Try.func8, Try.ntmps8
      go_wp2_with fail
      refine (szBarrel_big v ps st bl _ _ (HV_v.out.below (by first | (with_reducible exact Below.refl _ _) | go_grown)) (by omega) (by omega)).mono ?_
      rintro e w1 ⟨rfl, hb⟩
      go_wp2
      go_ret
      exact ⟨rfl, Below.trans (by first | exact Below.refl _ _ | go_grown) (hb.mono (by first | (with_reducible exact Nat.le_refl _) | (with_reducible assumption) | (simp [go_sem]; done) | (simp [go_sem]; omega) | omega))⟩
  · go_enter Try.func8, Try.ntmps8
    go_wp2
    go_ret
    exact ⟨rfl, by first | exact Below.refl _ _ | go_grown⟩

set_option maxRecDepth 100000 in
theorem fnExactSwapBells_lifted (os : Os) (started : os.Started) (H : Type) (enc : TypeId × Value → H) :
    ReturnsInHanded {} Try.checked os 8 .any (Rows.fnExactSwapBellsSpec.pre6 enc Try.prog Try.f8 Rows.fnExactSwapBellsRow.domain false) (Rows.fnExactSwapBellsSpec.post enc Try.prog Try.f8 false true false false) := by
  refine returnsInHanded_of_change (C := Try.checked) Try.own started (by kernel_rfl) Try.func8
    (ChangeSpec.witness6 (enc := enc) (C := Try.checked) false ⟨#[], #[.agg #[.int .i64 0, .int .i64 0, .slice none 0 0], .slice none 0 0], []⟩ 8 (by kernel_rfl) (by kernel_rfl) (by kernel_rfl) (by kernel_rfl)) ?_
  intro W base args ds gs before hval0 hW hcnd _
  have hval : ∀ (j : Nat) t v, Try.f8.params[j]? = some t → args[j]? = some v → Value.okWide Try.prog W .any base t v := hval0
  have hW' := hW
  have hltB : ∀ x ∈ before, x.block < W.heap.size := fun x hx => hW.lt x hx
  obtain ⟨p, q, hA0, hV, rfl, hfz, hnd⟩ := hW
  have hA : DataW.TrodAll enc Try.prog W 0 (fun _ => true) true Try.f8.params.toList args.toList ds p := hA0
  rw [Try.params8] at hA hval
  obtain ⟨v0, vs0, d0, ds0, p0, q0, hargs, rfl, rfl, h0, r0⟩ := trodAll_cons hA
  obtain ⟨v1, vs1, d1, ds1, p1, q1, rfl, rfl, rfl, h1, r1⟩ := trodAll_cons r0
  obtain ⟨rfl, rfl, rfl⟩ := trodAll_nil r1
  obtain rfl : args = #[v0, v1] := by cases args; simp_all
  clear hA0 hval0 hA hcnd hfz hnd
  have hlt0 : ∀ x ∈ p0, x.block < W.heap.size := fun x hx => hltB x (by simp [hx])
  have hlt1 : ∀ x ∈ p1, x.block < W.heap.size := fun x hx => hltB x (by simp [hx])
  obtain ⟨u0_0, u0_1, u0_2, y0_0, y0_1, y0_2, m0, rfl, rfl, rfl, g0_0, g0_1, g0_2⟩ := Joins.open_agg3 Try.underlying29 (by kernel_rfl) (by kernel_rfl) (hval 0 29 v0 rfl rfl) h0
  obtain ⟨st, rfl, bst⟩ := trod_i64 Try.underlying2 g0_0
  obtain ⟨bl, rfl, bbl⟩ := trod_i64 Try.underlying2 g0_1
  obtain ⟨ps, hps, bps⟩ := trod_pairs Try.underlying27 Try.underlying94 (by kernel_rfl) (by kernel_rfl) Try.underlying2 Try.underlying2 g0_2 (fun x hx => hlt0 x (by simp [hx]))
  obtain ⟨a1, n1, c1, rfl⟩ := okWide_slice Try.underlying60 (hval 1 60 v1 rfl rfl)
  obtain ⟨fu1, hf1⟩ := h1
  obtain ⟨os, hos, bos⟩ := trod_sl Try.underlying60 Try.underlying2 (by kernel_rfl) hf1 hlt1
  refine (exactSwapBells_walk _ ps _ os st bl W hps hos).mono fun e W' ⟨he, hb⟩ => ?_
  subst he
  exact ⟨_, rfl, post_law Try.laidOut hW' rfl rfl (by kernel_rfl) (by kernel_rfl) Try.underlying4 hb⟩

set_option maxHeartbeats 2000000 in
theorem fnExactSwapBells_facts : joinedFacts Try.prog 8 Try.f8 Rows.fnExactSwapBellsSpec Rows.fnExactSwapBellsRow = true := by
  unfold joinedFacts
  simp only [Bool.and_eq_true]
  repeat' apply And.intro
  all_goals first | with_reducible exact Try.laidOut | with_reducible exact Try.g2 | with_reducible exact Try.g24 | with_reducible exact Try.g25 | (rw [Try.g26]; rfl) | (rw [Try.g27]; rfl) | as_aux_lemma => kernel_rfl
/-- The statement. -/
theorem fnExactSwapBells_holds : Rows.FnExactSwapBellsSaid :=
  OpenClaim.holds_of_wide 8 Try.f8 rfl rfl rfl rfl rfl rfl rfl ⟨rfl, rfl, rfl, rfl, rfl⟩ rfl rfl rfl rfl rfl (by as_aux_lemma => kernel_rfl) Try.func8 fnExactSwapBells_facts
    (by as_aux_lemma => exact of_decide_eq_true (by kernel_rfl)) (by as_aux_lemma => unfold Func.isWrapper; rw [if_neg (of_decide_eq_false (by kernel_rfl))]; exact ⟨rfl, rfl⟩)
    (fun os started H enc _ => fnExactSwapBells_lifted os started H enc)
#print axioms fnExactSwapBells_holds
end Go.Proofs.Ytgaohmbgjjhdbaa
