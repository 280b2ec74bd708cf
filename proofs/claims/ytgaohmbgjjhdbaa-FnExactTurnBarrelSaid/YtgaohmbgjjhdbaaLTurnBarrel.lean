/- FnExactTurnBarrel is proved: for every barrel and number the program's TurnBarrel and the reference's return the same barrel and number, the barrel is not changed, and what is returned shares no memory with anything else. No condition. -/
import Derived.Test.YtgaohmbgjjhdbaaChU
import Derived.Test.YtgaohmbgjjhdbaaStBarrel
import Derived.Test.YtgaohmbgjjhdbaaPxPin
import Derived.Test.YtgaohmbgjjhdbaaRowF
import Derived.Test.YtgaohmbgjjhdbaaBx
import Derived.Test.YtgaohmbgjjhdbaaRow2
import Derived.Deep.RegionHeld3
import Derived.Deep.DeepCutAuto
namespace Go.Proofs.Ytgaohmbgjjhdbaa
open Go.ChangeShapes Go.WideShapes Go.ChangeAt Go.RowKit
attribute [local go_sem ↓] Go.wp_at_zero Go.wp_at_succ

set_option maxRecDepth 100000 in
set_option maxHeartbeats 16000000 in
theorem exactTurnBarrel_walk (v : Value) (ps : List (Int × Int)) (st bl b : Int) (W : World) (hv_v : SlP W v ps) :
    Calls Try.prog 4 #[.agg #[.int .i64 st, .int .i64 bl, v], .int .i64 b] W fun e W' => e = .returned (.bool true) ∧ Below W.heap.size W W' := by
  have HV_v := Lib.hid hv_v
  clear hv_v
  by_cases hl_ps : ps.length ≤ 1048576
  · skip
    obtain ⟨ra, rb, rl, rc, hL_rl, HFI, HFS⟩ := TurnBarrel_both st bl ps b
    have HI := Lib.hid HFI
    have HS := Lib.hid HFS
    clear HFI HFS
    go_enter Try.func4, Try.ntmps4
    have kk := bx1 W 29 #[.int .i64 st, .int .i64 bl, v]
    have k0 := kk
    have KH0 := Lib.hid k0
    clear kk k0
    go_wp2_with fail
    refine (szBarrel_fits v ps st bl _ _ (HV_v.out.below (by first | (with_reducible exact Below.refl _ _) | go_grown)) (by omega) (by omega)).mono ?_
    rintro e w1 ⟨rfl, hb⟩
    have x0 := KH0.out.below hb
    have c0_0 : w1.cell? ⟨W.heap.size, 0, none⟩ = some (.int .i64 st) := x0.cell 0 rfl
    have c0_1 : w1.cell? ⟨W.heap.size, 1, none⟩ = some (.int .i64 bl) := x0.cell 1 rfl
    have c0_2 : w1.cell? ⟨W.heap.size, 2, none⟩ = some (v) := x0.cell 2 rfl
    have l0 := x0.lt
    clear x0 KH0
    have Q0 := Lib.hid l0
    have old : Below W.heap.size W w1 := Below.trans (by first | exact Below.refl _ _ | go_grown) (hb.mono (by first | (with_reducible exact Nat.le_refl _) | (with_reducible assumption) | (simp [go_sem]; done) | (simp [go_sem]; omega) | omega))
    have z_w1 := old.size
    clear hb
    go_upto_region 5 with (fail)
    go_cut [6, 7] (fun a6 a7 wr => ∃ (gw_0 : Nat) (vw_0_2 : Value), a6 = .pointer (some ⟨gw_0, 0, none⟩) ∧ a7 = .int .i64 rc ∧ (w1.heap.size ≤ gw_0 ∧ gw_0 < wr.heap.size) ∧ wr.cell? ⟨gw_0, 0, none⟩ = some (.int .i64 ra) ∧ wr.cell? ⟨gw_0, 1, none⟩ = some (.int .i64 rb) ∧ wr.cell? ⟨gw_0, 2, none⟩ = some (vw_0_2) ∧ wr.ownsRow w1.heap.size 62 2 vw_0_2 rl.length (P64 rl) ∧ some gw_0 ≠ vw_0_2.ownBlock ∧ Below w1.heap.size w1 wr)
    case first =>
      have b_w1 := Below.refl w1.heap.size w1
      go_wp2_with fail
      refine (toBarrel_any v ps st bl _ (HV_v.out.below (grown_again old (by first | (with_reducible exact Below.refl _ _) | go_grown))) hl_ps).mono ?_
      rintro e w2 ⟨uw2, rfl, o_uw2, hb⟩
      have b_w2 : Below w1.heap.size w1 w2 := Below.trans (grown_again b_w1 (by first | (with_reducible exact Below.refl _ _) | go_grown)) (hb.mono (by first | (with_reducible exact Nat.le_refl _) | (with_reducible assumption) | (simp [go_sem]; done) | (simp [go_sem]; omega) | omega))
      have y_w2 := b_w2.size
      (try (have a_w2_w1 : w1.heap.size < w2.heap.size := Nat.lt_of_lt_of_le (by first | assumption | (simp [go_sem]; done) | (simp only [go_sem]; omega) | (simp [go_sem]; omega)) hb.size))
      obtain ⟨hc_w2, hf_w2⟩ := bcell hb
      have s_uw2 := SlP.of_own o_uw2
      clear o_uw2
      clear hb
      go_wp2_with fail
      refine (HS.out uw2 _ (s_uw2.below (by first | (with_reducible exact Below.refl _ _) | go_grown))).mono ?_
      rintro e w3 ⟨vw_0_2, rfl, o_vw_0_2, hb⟩
      obtain ⟨A_vw_0_2, C_vw_0_2, rfl⟩ := own_form o_vw_0_2
      have b_w3 : Below w1.heap.size w1 w3 := Below.trans (grown_again b_w2 (by first | (with_reducible exact Below.refl _ _) | go_grown)) (hb.mono (by first | (with_reducible exact Nat.le_refl _) | (with_reducible assumption) | (simp [go_sem]; done) | (simp [go_sem]; omega) | omega))
      have y_w3 := b_w3.size
      (try (have a_w3_w2 : w2.heap.size < w3.heap.size := Nat.lt_of_lt_of_le (by first | assumption | (simp [go_sem]; done) | (simp only [go_sem]; omega) | (simp [go_sem]; omega)) hb.size))
      (try (have a_w3_w1 : w1.heap.size < w3.heap.size := Nat.lt_of_lt_of_le (by first | assumption | (simp [go_sem]; done) | (simp only [go_sem]; omega) | (simp [go_sem]; omega)) hb.size))
      obtain ⟨hc_w3, hf_w3⟩ := bcell hb
      clear hb
      all_goals (go_wp2_with fail; go_meet)
      all_goals refine ⟨_, .slice A_vw_0_2 rl.length C_vw_0_2, rfl, rfl, ⟨?_, ?_⟩, ?_, ?_, ?_, ?_, ?_, ?_⟩
      all_goals first
        | (with_reducible exact Nat.le_refl _) | (with_reducible assumption)
        | (go_grown; done)
        | (simp [go_sem, *]; done)
        | ((repeat' first | exact own_mono o_vw_0_2 (by first | (with_reducible exact Nat.le_refl _) | (with_reducible assumption) | (simp [go_sem]; done) | (simp [go_sem]; omega) | omega) | refine own_far ?_ ?_ _ | refine World.ownsRow.alloc ?_ _); all_goals (exact own_ne o_vw_0_2 (Or.inl (by first | assumption | (simp; done) | omega))); done)
        | exact own_ne o_vw_0_2 (Or.inr (by first | (with_reducible exact Nat.le_refl _) | (with_reducible assumption) | (simp [go_sem]; done) | (simp [go_sem]; omega) | omega)) | exact own_ne o_vw_0_2 (Or.inl (by first | (with_reducible exact Nat.le_refl _) | (with_reducible assumption) | (simp [go_sem]; done) | (simp [go_sem]; omega) | omega))
        | (have := b_w2.size; have := b_w3.size; simp; omega)
    case rest =>
      obtain ⟨w4, rfl⟩ : ∃ x : World, x = wc := ⟨_, rfl⟩
      obtain ⟨gw_0, vw_0_2, rfl, rfl, ⟨rgw_0, l1⟩, c1_0, c1_1, c1_2, o_vw_0_2, m_gw_0_vw_0_2, hb⟩ := hcut
      have Q1 : Hid (w1.heap.size ≤ gw_0 ∧ gw_0 < w4.heap.size) := ⟨rgw_0, l1⟩
      have R_vw_0_2 := Lib.hid (rng_of o_vw_0_2 (Nat.le_refl w1.heap.size))
      have E1_vw_0_2 := Lib.hid m_gw_0_vw_0_2
      clear m_gw_0_vw_0_2
      clear rgw_0
      replace c0_0 := (hb.cell (p := ⟨W.heap.size, 0, none⟩) l0).trans c0_0
      replace c0_1 := (hb.cell (p := ⟨W.heap.size, 1, none⟩) l0).trans c0_1
      replace c0_2 := (hb.cell (p := ⟨W.heap.size, 2, none⟩) l0).trans c0_2
      replace l0 := Nat.lt_of_lt_of_le l0 hb.size
      replace old := grown_again old hb
      have z_w4 := hb.size
      clear hb
      go_upto_region 6 with (fail)
      go_cut [8] (fun a8 wr => ∃ (gx0_0 : Nat) (vx0 : Value), a8 = .pointer (some ⟨gx0_0, 0, none⟩) ∧ (w4.heap.size ≤ gx0_0 ∧ gx0_0 < wr.heap.size) ∧ wr.cell? ⟨gx0_0, 0, none⟩ = some (.int .i64 st) ∧ wr.cell? ⟨gx0_0, 1, none⟩ = some (.int .i64 bl) ∧ wr.cell? ⟨gx0_0, 2, none⟩ = some (vx0) ∧ wr.ownsRow w4.heap.size 62 2 vx0 ps.length (P64 ps) ∧ some gx0_0 ≠ vx0.ownBlock ∧ Below w4.heap.size w4 wr)
      case first =>
        have b_w4 := Below.refl w4.heap.size w4
        go_wp2_with fail
        refine (toBarrel_any v ps st bl _ (HV_v.out.below (grown_again old (by first | (with_reducible exact Below.refl _ _) | go_grown))) hl_ps).mono ?_
        rintro e w5 ⟨vx0, rfl, o_vx0, hb⟩
        obtain ⟨A_vx0, C_vx0, rfl⟩ := own_form o_vx0
        have b_w5 : Below w4.heap.size w4 w5 := Below.trans (grown_again b_w4 (by first | (with_reducible exact Below.refl _ _) | go_grown)) (hb.mono (by first | (with_reducible exact Nat.le_refl _) | (with_reducible assumption) | (simp [go_sem]; done) | (simp [go_sem]; omega) | omega))
        have y_w5 := b_w5.size
        (try (have a_w5_w4 : w4.heap.size < w5.heap.size := Nat.lt_of_lt_of_le (by first | assumption | (simp [go_sem]; done) | (simp only [go_sem]; omega) | (simp [go_sem]; omega)) hb.size))
        obtain ⟨hc_w5, hf_w5⟩ := bcell hb
        clear hb
        all_goals (go_wp2_with fail; go_meet)
        all_goals refine ⟨_, .slice A_vx0 ps.length C_vx0, rfl, ⟨?_, ?_⟩, ?_, ?_, ?_, ?_, ?_, ?_⟩
        all_goals first
          | (with_reducible exact Nat.le_refl _) | (with_reducible assumption)
          | (go_grown; done)
          | (simp [go_sem, *]; done)
          | ((repeat' first | exact own_mono o_vx0 (by first | (with_reducible exact Nat.le_refl _) | (with_reducible assumption) | (simp [go_sem]; done) | (simp [go_sem]; omega) | omega) | refine own_far ?_ ?_ _ | refine World.ownsRow.alloc ?_ _); all_goals (exact own_ne o_vx0 (Or.inl (by first | assumption | (simp; done) | omega))); done)
          | exact own_ne o_vx0 (Or.inr (by first | (with_reducible exact Nat.le_refl _) | (with_reducible assumption) | (simp [go_sem]; done) | (simp [go_sem]; omega) | omega)) | exact own_ne o_vx0 (Or.inl (by first | (with_reducible exact Nat.le_refl _) | (with_reducible assumption) | (simp [go_sem]; done) | (simp [go_sem]; omega) | omega))
          | (have := b_w5.size; simp; omega)
      case rest =>
        obtain ⟨w6, rfl⟩ : ∃ x : World, x = wc := ⟨_, rfl⟩
        obtain ⟨gx0_0, vx0, rfl, ⟨rgx0_0, l2⟩, c2_0, c2_1, c2_2, o_vx0, m_gx0_0_vx0, hb⟩ := hcut
        have Q2 : Hid (w4.heap.size ≤ gx0_0 ∧ gx0_0 < w6.heap.size) := ⟨rgx0_0, l2⟩
        have R_vx0 := Lib.hid (rng_of o_vx0 (Nat.le_refl w4.heap.size))
        have E2_vx0 := Lib.hid m_gx0_0_vx0
        clear m_gx0_0_vx0
        clear rgx0_0
        replace c0_0 := (hb.cell (p := ⟨W.heap.size, 0, none⟩) l0).trans c0_0
        replace c0_1 := (hb.cell (p := ⟨W.heap.size, 1, none⟩) l0).trans c0_1
        replace c0_2 := (hb.cell (p := ⟨W.heap.size, 2, none⟩) l0).trans c0_2
        replace l0 := Nat.lt_of_lt_of_le l0 hb.size
        replace c1_0 := (hb.cell (p := ⟨gw_0, 0, none⟩) l1).trans c1_0
        replace c1_1 := (hb.cell (p := ⟨gw_0, 1, none⟩) l1).trans c1_1
        replace c1_2 := (hb.cell (p := ⟨gw_0, 2, none⟩) l1).trans c1_2
        replace l1 := Nat.lt_of_lt_of_le l1 hb.size
        replace o_vw_0_2 := own_below o_vw_0_2 hb
        replace old := grown_again old hb
        have z_w6 := hb.size
        clear hb
        go_upto_region 7 with (fail)
        go_cut [9, 10] (fun a9 a10 wr => ∃ (gg_0 : Nat) (vg_0_2 : Value), a9 = .pointer (some ⟨gg_0, 0, none⟩) ∧ a10 = .int .i64 rc ∧ (w6.heap.size ≤ gg_0 ∧ gg_0 < wr.heap.size) ∧ wr.cell? ⟨gg_0, 0, none⟩ = some (.int .i64 ra) ∧ wr.cell? ⟨gg_0, 1, none⟩ = some (.int .i64 rb) ∧ wr.cell? ⟨gg_0, 2, none⟩ = some (vg_0_2) ∧ wr.ownsRow w6.heap.size 62 2 vg_0_2 rl.length (P64 rl) ∧ some gg_0 ≠ vg_0_2.ownBlock ∧ Below w6.heap.size w6 wr)
        case first =>
          have b_w6 := Below.refl w6.heap.size w6
          go_wp2_with fail
          refine (HI.out vx0 _ ((SlP.of_own o_vx0).below (grown_again b_w6 (by first | (with_reducible exact Below.refl _ _) | go_grown)))).mono ?_
          rintro e w7 ⟨vg_0_2, rfl, o_vg_0_2, hb⟩
          obtain ⟨A_vg_0_2, C_vg_0_2, rfl⟩ := own_form o_vg_0_2
          have b_w7 : Below w6.heap.size w6 w7 := Below.trans (grown_again b_w6 (by first | (with_reducible exact Below.refl _ _) | go_grown)) (hb.mono (by first | (with_reducible exact Nat.le_refl _) | (with_reducible assumption) | (simp [go_sem]; done) | (simp [go_sem]; omega) | omega))
          have y_w7 := b_w7.size
          (try (have a_w7_w6 : w6.heap.size < w7.heap.size := Nat.lt_of_lt_of_le (by first | assumption | (simp [go_sem]; done) | (simp only [go_sem]; omega) | (simp [go_sem]; omega)) hb.size))
          obtain ⟨hc_w7, hf_w7⟩ := bcell hb
          clear hb
          all_goals (go_wp2_with fail; go_meet)
          all_goals refine ⟨_, .slice A_vg_0_2 rl.length C_vg_0_2, rfl, rfl, ⟨?_, ?_⟩, ?_, ?_, ?_, ?_, ?_, ?_⟩
          all_goals first
            | (with_reducible exact Nat.le_refl _) | (with_reducible assumption)
            | (go_grown; done)
            | (simp [go_sem, *]; done)
            | ((repeat' first | exact own_mono o_vg_0_2 (by first | (with_reducible exact Nat.le_refl _) | (with_reducible assumption) | (simp [go_sem]; done) | (simp [go_sem]; omega) | omega) | refine own_far ?_ ?_ _ | refine World.ownsRow.alloc ?_ _); all_goals (exact own_ne o_vg_0_2 (Or.inl (by first | assumption | (simp; done) | omega))); done)
            | exact own_ne o_vg_0_2 (Or.inr (by first | (with_reducible exact Nat.le_refl _) | (with_reducible assumption) | (simp [go_sem]; done) | (simp [go_sem]; omega) | omega)) | exact own_ne o_vg_0_2 (Or.inl (by first | (with_reducible exact Nat.le_refl _) | (with_reducible assumption) | (simp [go_sem]; done) | (simp [go_sem]; omega) | omega))
            | (have := b_w7.size; simp; omega)
        case rest =>
          obtain ⟨w8, rfl⟩ : ∃ x : World, x = wc := ⟨_, rfl⟩
          obtain ⟨gg_0, vg_0_2, rfl, rfl, ⟨rgg_0, l3⟩, c3_0, c3_1, c3_2, o_vg_0_2, m_gg_0_vg_0_2, hb⟩ := hcut
          have Q3 : Hid (w6.heap.size ≤ gg_0 ∧ gg_0 < w8.heap.size) := ⟨rgg_0, l3⟩
          have R_vg_0_2 := Lib.hid (rng_of o_vg_0_2 (Nat.le_refl w6.heap.size))
          have E3_vg_0_2 := Lib.hid m_gg_0_vg_0_2
          clear m_gg_0_vg_0_2
          clear rgg_0
          replace c0_0 := (hb.cell (p := ⟨W.heap.size, 0, none⟩) l0).trans c0_0
          replace c0_1 := (hb.cell (p := ⟨W.heap.size, 1, none⟩) l0).trans c0_1
          replace c0_2 := (hb.cell (p := ⟨W.heap.size, 2, none⟩) l0).trans c0_2
          replace l0 := Nat.lt_of_lt_of_le l0 hb.size
          replace c1_0 := (hb.cell (p := ⟨gw_0, 0, none⟩) l1).trans c1_0
          replace c1_1 := (hb.cell (p := ⟨gw_0, 1, none⟩) l1).trans c1_1
          replace c1_2 := (hb.cell (p := ⟨gw_0, 2, none⟩) l1).trans c1_2
          replace l1 := Nat.lt_of_lt_of_le l1 hb.size
          replace c2_0 := (hb.cell (p := ⟨gx0_0, 0, none⟩) l2).trans c2_0
          replace c2_1 := (hb.cell (p := ⟨gx0_0, 1, none⟩) l2).trans c2_1
          replace c2_2 := (hb.cell (p := ⟨gx0_0, 2, none⟩) l2).trans c2_2
          replace l2 := Nat.lt_of_lt_of_le l2 hb.size
          replace o_vw_0_2 := own_below o_vw_0_2 hb
          replace o_vx0 := own_below o_vx0 hb
          replace old := grown_again old hb
          have z_w8 := hb.size
          clear hb
          go_wp2_with fail
          refine (eqBarrel_true vg_0_2 vw_0_2 rl (ra) (rb) _ (((SlP.of_own o_vg_0_2)).below (by first | (with_reducible exact Below.refl _ _) | go_grown)) (((SlP.of_own o_vw_0_2)).below (by first | (with_reducible exact Below.refl _ _) | go_grown))).mono ?_
          rintro e w9 ⟨rfl, hb⟩
          have b_w9 : Below w8.heap.size w8 w9 := Below.trans (by first | (with_reducible exact Below.refl _ _) | go_grown) (hb.mono (by first | (with_reducible exact Nat.le_refl _) | (with_reducible assumption) | (simp [go_sem]; done) | (simp [go_sem]; omega) | omega))
          clear hb
          replace c0_0 := (b_w9.cell (p := ⟨W.heap.size, 0, none⟩) l0).trans c0_0
          replace c0_1 := (b_w9.cell (p := ⟨W.heap.size, 1, none⟩) l0).trans c0_1
          replace c0_2 := (b_w9.cell (p := ⟨W.heap.size, 2, none⟩) l0).trans c0_2
          replace l0 := Nat.lt_of_lt_of_le l0 b_w9.size
          replace c1_0 := (b_w9.cell (p := ⟨gw_0, 0, none⟩) l1).trans c1_0
          replace c1_1 := (b_w9.cell (p := ⟨gw_0, 1, none⟩) l1).trans c1_1
          replace c1_2 := (b_w9.cell (p := ⟨gw_0, 2, none⟩) l1).trans c1_2
          replace l1 := Nat.lt_of_lt_of_le l1 b_w9.size
          replace c2_0 := (b_w9.cell (p := ⟨gx0_0, 0, none⟩) l2).trans c2_0
          replace c2_1 := (b_w9.cell (p := ⟨gx0_0, 1, none⟩) l2).trans c2_1
          replace c2_2 := (b_w9.cell (p := ⟨gx0_0, 2, none⟩) l2).trans c2_2
          replace l2 := Nat.lt_of_lt_of_le l2 b_w9.size
          replace c3_0 := (b_w9.cell (p := ⟨gg_0, 0, none⟩) l3).trans c3_0
          replace c3_1 := (b_w9.cell (p := ⟨gg_0, 1, none⟩) l3).trans c3_1
          replace c3_2 := (b_w9.cell (p := ⟨gg_0, 2, none⟩) l3).trans c3_2
          replace l3 := Nat.lt_of_lt_of_le l3 b_w9.size
          replace o_vw_0_2 := own_below o_vw_0_2 b_w9
          replace o_vx0 := own_below o_vx0 b_w9
          replace o_vg_0_2 := own_below o_vg_0_2 b_w9
          replace old := grown_again old b_w9
          have z_w9 := b_w9.size
          clear b_w9
          go_upto_region 10 with (fail)
          have HSr := Lib.hid (fun (w' : World) (hb : Below w9.heap.size w9 w') => (⟨(hb.cell (p := ⟨gx0_0, 0, none⟩) l2).trans c2_0, (hb.cell (p := ⟨gx0_0, 1, none⟩) l2).trans c2_1, (hb.cell (p := ⟨gx0_0, 2, none⟩) l2).trans c2_2, (hb.cell (p := ⟨W.heap.size, 0, none⟩) l0).trans c0_0, (hb.cell (p := ⟨W.heap.size, 1, none⟩) l0).trans c0_1, (hb.cell (p := ⟨W.heap.size, 2, none⟩) l0).trans c0_2⟩ : w'.cell? ⟨gx0_0, 0, none⟩ = some (.int .i64 st) ∧ w'.cell? ⟨gx0_0, 1, none⟩ = some (.int .i64 bl) ∧ w'.cell? ⟨gx0_0, 2, none⟩ = some (vx0) ∧ w'.cell? ⟨W.heap.size, 0, none⟩ = some (.int .i64 st) ∧ w'.cell? ⟨W.heap.size, 1, none⟩ = some (.int .i64 bl) ∧ w'.cell? ⟨W.heap.size, 2, none⟩ = some (v)))
          go_region_held3 (fun w' => w'.cell? ⟨gx0_0, 0, none⟩ = some (.int .i64 st) ∧ w'.cell? ⟨gx0_0, 1, none⟩ = some (.int .i64 bl) ∧ w'.cell? ⟨gx0_0, 2, none⟩ = some (vx0) ∧ w'.cell? ⟨W.heap.size, 0, none⟩ = some (.int .i64 st) ∧ w'.cell? ⟨W.heap.size, 1, none⟩ = some (.int .i64 bl) ∧ w'.cell? ⟨W.heap.size, 2, none⟩ = some (v)) (first | assumption | exact HSr.out _ (by go_grown) | go_keep)
            (first
              | (go_at_call 16; refine (toBarrel_any v ps st bl _ (HV_v.out.below (grown_again old (by first | (with_reducible exact Below.refl _ _) | go_grown))) hl_ps).mono ?_; rintro e w10 ⟨uw10, rfl, o_uw10, hb⟩; have b_w10 : Below w9.heap.size w9 w10 := Below.trans (by first | (with_reducible exact Below.refl _ _) | go_grown) (hb.mono (by first | (with_reducible exact Nat.le_refl _) | (with_reducible assumption) | (simp [go_sem]; done) | (simp [go_sem]; omega) | omega)); have y_w10 := b_w10.size; have S_w10 := HSr.out _ b_w10; have s_uw10 := SlP.of_own o_uw10; clear o_uw10; clear hb)
              | (go_at_call 18; refine (eqBarrel_true vx0 uw10 ps st bl _ ((SlP.of_own o_vx0).below (grown_again b_w10 (by first | (with_reducible exact Below.refl _ _) | go_grown))) (s_uw10.below (by first | (with_reducible exact Below.refl _ _) | go_grown))).mono ?_; rintro e w11 ⟨rfl, hb⟩; have b_w11 : Below w9.heap.size w9 w11 := Below.trans (grown_again b_w10 (by first | (with_reducible exact Below.refl _ _) | go_grown)) (hb.mono (by first | (with_reducible exact Nat.le_refl _) | (with_reducible assumption) | (simp [go_sem]; done) | (simp [go_sem]; omega) | omega)); have S_w11 := HSr.out _ b_w11; clear hb))
          clear HSr S_w10 S_w11 s_uw10
          replace c0_0 := (b_w11.cell (p := ⟨W.heap.size, 0, none⟩) l0).trans c0_0
          replace c0_1 := (b_w11.cell (p := ⟨W.heap.size, 1, none⟩) l0).trans c0_1
          replace c0_2 := (b_w11.cell (p := ⟨W.heap.size, 2, none⟩) l0).trans c0_2
          replace l0 := Nat.lt_of_lt_of_le l0 b_w11.size
          replace c1_0 := (b_w11.cell (p := ⟨gw_0, 0, none⟩) l1).trans c1_0
          replace c1_1 := (b_w11.cell (p := ⟨gw_0, 1, none⟩) l1).trans c1_1
          replace c1_2 := (b_w11.cell (p := ⟨gw_0, 2, none⟩) l1).trans c1_2
          replace l1 := Nat.lt_of_lt_of_le l1 b_w11.size
          replace c2_0 := (b_w11.cell (p := ⟨gx0_0, 0, none⟩) l2).trans c2_0
          replace c2_1 := (b_w11.cell (p := ⟨gx0_0, 1, none⟩) l2).trans c2_1
          replace c2_2 := (b_w11.cell (p := ⟨gx0_0, 2, none⟩) l2).trans c2_2
          replace l2 := Nat.lt_of_lt_of_le l2 b_w11.size
          replace c3_0 := (b_w11.cell (p := ⟨gg_0, 0, none⟩) l3).trans c3_0
          replace c3_1 := (b_w11.cell (p := ⟨gg_0, 1, none⟩) l3).trans c3_1
          replace c3_2 := (b_w11.cell (p := ⟨gg_0, 2, none⟩) l3).trans c3_2
          replace l3 := Nat.lt_of_lt_of_le l3 b_w11.size
          replace o_vw_0_2 := own_below o_vw_0_2 b_w11
          replace o_vx0 := own_below o_vx0 b_w11
          replace o_vg_0_2 := own_below o_vg_0_2 b_w11
          replace old := grown_again old b_w11
          have z_w11 := b_w11.size
          clear b_w10 b_w11
          go_wp2_with fail
          have M := markBarrel_any vx0 1 ps (st) (bl) _ w11 o_vx0 (by omega) (by omega) (by omega)
          have M := Lib.hid M
          refine M.out.mono ?_
          rintro e w12 ⟨rfl, om, hg⟩
          clear M
          replace c0_0 := hg.cell c0_0 (Rng.ne (g := W.heap.size) R_vx0.out (by have := Q0.out; omega))
          replace c0_1 := hg.cell c0_1 (Rng.ne (g := W.heap.size) R_vx0.out (by have := Q0.out; omega))
          replace c0_2 := hg.cell c0_2 (Rng.ne (g := W.heap.size) R_vx0.out (by have := Q0.out; omega))
          replace l0 := Nat.lt_of_lt_of_le l0 hg.size
          replace c1_0 := hg.cell c1_0 (Rng.ne (g := gw_0) R_vx0.out (by have := Q1.out; omega))
          replace c1_1 := hg.cell c1_1 (Rng.ne (g := gw_0) R_vx0.out (by have := Q1.out; omega))
          replace c1_2 := hg.cell c1_2 (Rng.ne (g := gw_0) R_vx0.out (by have := Q1.out; omega))
          replace l1 := Nat.lt_of_lt_of_le l1 hg.size
          replace c2_0 := hg.cell c2_0 E2_vx0.out
          replace c2_1 := hg.cell c2_1 E2_vx0.out
          replace c2_2 := hg.cell c2_2 E2_vx0.out
          replace l2 := Nat.lt_of_lt_of_le l2 hg.size
          replace c3_0 := hg.cell c3_0 (Rng.ne (g := gg_0) R_vx0.out (by have := Q3.out; omega))
          replace c3_1 := hg.cell c3_1 (Rng.ne (g := gg_0) R_vx0.out (by have := Q3.out; omega))
          replace c3_2 := hg.cell c3_2 (Rng.ne (g := gg_0) R_vx0.out (by have := Q3.out; omega))
          replace l3 := Nat.lt_of_lt_of_le l3 hg.size
          replace o_vw_0_2 := o_vw_0_2.kept hg (Rng.apart R_vw_0_2.out R_vx0.out (by omega))
          replace o_vg_0_2 := o_vg_0_2.kept hg (Rng.apart R_vg_0_2.out R_vx0.out (by omega))
          replace old := below_grown old hg R_vx0.out (by omega)
          have z_w12 := hg.size
          replace o_vx0 := om
          clear hg
          go_wp2_with fail
          refine (eqBarrel_true vg_0_2 vw_0_2 rl (ra) (rb) _ (((SlP.of_own o_vg_0_2)).below (by first | (with_reducible exact Below.refl _ _) | go_grown)) (((SlP.of_own o_vw_0_2)).below (by first | (with_reducible exact Below.refl _ _) | go_grown))).mono ?_
          rintro e w13 ⟨rfl, hb⟩
          have b_w13 : Below w12.heap.size w12 w13 := Below.trans (by first | (with_reducible exact Below.refl _ _) | go_grown) (hb.mono (by first | (with_reducible exact Nat.le_refl _) | (with_reducible assumption) | (simp [go_sem]; done) | (simp [go_sem]; omega) | omega))
          clear hb
          replace c0_0 := (b_w13.cell (p := ⟨W.heap.size, 0, none⟩) l0).trans c0_0
          replace c0_1 := (b_w13.cell (p := ⟨W.heap.size, 1, none⟩) l0).trans c0_1
          replace c0_2 := (b_w13.cell (p := ⟨W.heap.size, 2, none⟩) l0).trans c0_2
          replace l0 := Nat.lt_of_lt_of_le l0 b_w13.size
          replace c1_0 := (b_w13.cell (p := ⟨gw_0, 0, none⟩) l1).trans c1_0
          replace c1_1 := (b_w13.cell (p := ⟨gw_0, 1, none⟩) l1).trans c1_1
          replace c1_2 := (b_w13.cell (p := ⟨gw_0, 2, none⟩) l1).trans c1_2
          replace l1 := Nat.lt_of_lt_of_le l1 b_w13.size
          replace c2_0 := (b_w13.cell (p := ⟨gx0_0, 0, none⟩) l2).trans c2_0
          replace c2_1 := (b_w13.cell (p := ⟨gx0_0, 1, none⟩) l2).trans c2_1
          replace c2_2 := (b_w13.cell (p := ⟨gx0_0, 2, none⟩) l2).trans c2_2
          replace l2 := Nat.lt_of_lt_of_le l2 b_w13.size
          replace c3_0 := (b_w13.cell (p := ⟨gg_0, 0, none⟩) l3).trans c3_0
          replace c3_1 := (b_w13.cell (p := ⟨gg_0, 1, none⟩) l3).trans c3_1
          replace c3_2 := (b_w13.cell (p := ⟨gg_0, 2, none⟩) l3).trans c3_2
          replace l3 := Nat.lt_of_lt_of_le l3 b_w13.size
          replace o_vw_0_2 := own_below o_vw_0_2 b_w13
          replace o_vx0 := own_below o_vx0 b_w13
          replace o_vg_0_2 := own_below o_vg_0_2 b_w13
          replace old := grown_again old b_w13
          have z_w13 := b_w13.size
          clear b_w13
          go_wp2_with fail
          have M := markBarrel_any vg_0_2 1 rl (ra) (rb) _ w13 o_vg_0_2 (by omega) (by omega) (by omega)
          have M := Lib.hid M
          refine M.out.mono ?_
          rintro e w14 ⟨rfl, om, hg⟩
          clear M
          replace c0_0 := hg.cell c0_0 (Rng.ne (g := W.heap.size) R_vg_0_2.out (by have := Q0.out; omega))
          replace c0_1 := hg.cell c0_1 (Rng.ne (g := W.heap.size) R_vg_0_2.out (by have := Q0.out; omega))
          replace c0_2 := hg.cell c0_2 (Rng.ne (g := W.heap.size) R_vg_0_2.out (by have := Q0.out; omega))
          replace l0 := Nat.lt_of_lt_of_le l0 hg.size
          replace c1_0 := hg.cell c1_0 (Rng.ne (g := gw_0) R_vg_0_2.out (by have := Q1.out; omega))
          replace c1_1 := hg.cell c1_1 (Rng.ne (g := gw_0) R_vg_0_2.out (by have := Q1.out; omega))
          replace c1_2 := hg.cell c1_2 (Rng.ne (g := gw_0) R_vg_0_2.out (by have := Q1.out; omega))
          replace l1 := Nat.lt_of_lt_of_le l1 hg.size
          replace c2_0 := hg.cell c2_0 (Rng.ne (g := gx0_0) R_vg_0_2.out (by have := Q2.out; omega))
          replace c2_1 := hg.cell c2_1 (Rng.ne (g := gx0_0) R_vg_0_2.out (by have := Q2.out; omega))
          replace c2_2 := hg.cell c2_2 (Rng.ne (g := gx0_0) R_vg_0_2.out (by have := Q2.out; omega))
          replace l2 := Nat.lt_of_lt_of_le l2 hg.size
          replace c3_0 := hg.cell c3_0 E3_vg_0_2.out
          replace c3_1 := hg.cell c3_1 E3_vg_0_2.out
          replace c3_2 := hg.cell c3_2 E3_vg_0_2.out
          replace l3 := Nat.lt_of_lt_of_le l3 hg.size
          replace o_vw_0_2 := o_vw_0_2.kept hg (Rng.apart R_vw_0_2.out R_vg_0_2.out (by omega))
          replace o_vx0 := o_vx0.kept hg (Rng.apart R_vx0.out R_vg_0_2.out (by omega))
          replace old := below_grown old hg R_vg_0_2.out (by omega)
          have z_w14 := hg.size
          replace o_vg_0_2 := om
          clear hg
          go_wp2_with fail
          refine (heldBarrel_any vg_0_2 1 rl.length (ra) (rb) _ ((SlP.of_own o_vg_0_2).below (by first | (with_reducible exact Below.refl _ _) | go_grown)) (by omega) (by omega) (by omega)).mono ?_
          rintro e w15 ⟨rfl, hb⟩
          have b_w15 : Below w14.heap.size w14 w15 := Below.trans (by first | (with_reducible exact Below.refl _ _) | go_grown) (hb.mono (by first | (with_reducible exact Nat.le_refl _) | (with_reducible assumption) | (simp [go_sem]; done) | (simp [go_sem]; omega) | omega))
          clear hb
          replace c0_0 := (b_w15.cell (p := ⟨W.heap.size, 0, none⟩) l0).trans c0_0
          replace c0_1 := (b_w15.cell (p := ⟨W.heap.size, 1, none⟩) l0).trans c0_1
          replace c0_2 := (b_w15.cell (p := ⟨W.heap.size, 2, none⟩) l0).trans c0_2
          replace l0 := Nat.lt_of_lt_of_le l0 b_w15.size
          replace c1_0 := (b_w15.cell (p := ⟨gw_0, 0, none⟩) l1).trans c1_0
          replace c1_1 := (b_w15.cell (p := ⟨gw_0, 1, none⟩) l1).trans c1_1
          replace c1_2 := (b_w15.cell (p := ⟨gw_0, 2, none⟩) l1).trans c1_2
          replace l1 := Nat.lt_of_lt_of_le l1 b_w15.size
          replace c2_0 := (b_w15.cell (p := ⟨gx0_0, 0, none⟩) l2).trans c2_0
          replace c2_1 := (b_w15.cell (p := ⟨gx0_0, 1, none⟩) l2).trans c2_1
          replace c2_2 := (b_w15.cell (p := ⟨gx0_0, 2, none⟩) l2).trans c2_2
          replace l2 := Nat.lt_of_lt_of_le l2 b_w15.size
          replace c3_0 := (b_w15.cell (p := ⟨gg_0, 0, none⟩) l3).trans c3_0
          replace c3_1 := (b_w15.cell (p := ⟨gg_0, 1, none⟩) l3).trans c3_1
          replace c3_2 := (b_w15.cell (p := ⟨gg_0, 2, none⟩) l3).trans c3_2
          replace l3 := Nat.lt_of_lt_of_le l3 b_w15.size
          replace o_vw_0_2 := own_below o_vw_0_2 b_w15
          replace o_vx0 := own_below o_vx0 b_w15
          replace o_vg_0_2 := own_below o_vg_0_2 b_w15
          replace old := grown_again old b_w15
          have z_w15 := b_w15.size
          clear b_w15
          go_upto_region 24 with (fail)
          go_cut [14, 15] (fun a14 a15 wr => ∃ (gh_0 : Nat) (vh_0_2 : Value), a14 = .pointer (some ⟨gh_0, 0, none⟩) ∧ a15 = .int .i64 rc ∧ (w15.heap.size ≤ gh_0 ∧ gh_0 < wr.heap.size) ∧ wr.cell? ⟨gh_0, 0, none⟩ = some (.int .i64 ra) ∧ wr.cell? ⟨gh_0, 1, none⟩ = some (.int .i64 rb) ∧ wr.cell? ⟨gh_0, 2, none⟩ = some (vh_0_2) ∧ wr.ownsRow w15.heap.size 62 2 vh_0_2 rl.length (P64 rl) ∧ some gh_0 ≠ vh_0_2.ownBlock ∧ Below w15.heap.size w15 wr)
          case first =>
            have b_w15 := Below.refl w15.heap.size w15
            go_wp2_with fail
            refine (toBarrel_any v ps st bl _ (HV_v.out.below (grown_again old (by first | (with_reducible exact Below.refl _ _) | go_grown))) hl_ps).mono ?_
            rintro e w16 ⟨uw16, rfl, o_uw16, hb⟩
            have b_w16 : Below w15.heap.size w15 w16 := Below.trans (grown_again b_w15 (by first | (with_reducible exact Below.refl _ _) | go_grown)) (hb.mono (by first | (with_reducible exact Nat.le_refl _) | (with_reducible assumption) | (simp [go_sem]; done) | (simp [go_sem]; omega) | omega))
            have y_w16 := b_w16.size
            (try (have a_w16_w15 : w15.heap.size < w16.heap.size := Nat.lt_of_lt_of_le (by first | assumption | (simp [go_sem]; done) | (simp only [go_sem]; omega) | (simp [go_sem]; omega)) hb.size))
            obtain ⟨hc_w16, hf_w16⟩ := bcell hb
            have s_uw16 := SlP.of_own o_uw16
            clear o_uw16
            clear hb
            go_wp2_with fail
            refine (HI.out uw16 _ (s_uw16.below (by first | (with_reducible exact Below.refl _ _) | go_grown))).mono ?_
            rintro e w17 ⟨vh_0_2, rfl, o_vh_0_2, hb⟩
            obtain ⟨A_vh_0_2, C_vh_0_2, rfl⟩ := own_form o_vh_0_2
            have b_w17 : Below w15.heap.size w15 w17 := Below.trans (grown_again b_w16 (by first | (with_reducible exact Below.refl _ _) | go_grown)) (hb.mono (by first | (with_reducible exact Nat.le_refl _) | (with_reducible assumption) | (simp [go_sem]; done) | (simp [go_sem]; omega) | omega))
            have y_w17 := b_w17.size
            (try (have a_w17_w16 : w16.heap.size < w17.heap.size := Nat.lt_of_lt_of_le (by first | assumption | (simp [go_sem]; done) | (simp only [go_sem]; omega) | (simp [go_sem]; omega)) hb.size))
            (try (have a_w17_w15 : w15.heap.size < w17.heap.size := Nat.lt_of_lt_of_le (by first | assumption | (simp [go_sem]; done) | (simp only [go_sem]; omega) | (simp [go_sem]; omega)) hb.size))
            obtain ⟨hc_w17, hf_w17⟩ := bcell hb
            clear hb
            all_goals (go_wp2_with fail; go_meet)
            all_goals refine ⟨_, .slice A_vh_0_2 rl.length C_vh_0_2, rfl, rfl, ⟨?_, ?_⟩, ?_, ?_, ?_, ?_, ?_, ?_⟩
            all_goals first
              | (with_reducible exact Nat.le_refl _) | (with_reducible assumption)
              | (go_grown; done)
              | (simp [go_sem, *]; done)
              | ((repeat' first | exact own_mono o_vh_0_2 (by first | (with_reducible exact Nat.le_refl _) | (with_reducible assumption) | (simp [go_sem]; done) | (simp [go_sem]; omega) | omega) | refine own_far ?_ ?_ _ | refine World.ownsRow.alloc ?_ _); all_goals (exact own_ne o_vh_0_2 (Or.inl (by first | assumption | (simp; done) | omega))); done)
              | exact own_ne o_vh_0_2 (Or.inr (by first | (with_reducible exact Nat.le_refl _) | (with_reducible assumption) | (simp [go_sem]; done) | (simp [go_sem]; omega) | omega)) | exact own_ne o_vh_0_2 (Or.inl (by first | (with_reducible exact Nat.le_refl _) | (with_reducible assumption) | (simp [go_sem]; done) | (simp [go_sem]; omega) | omega))
              | (have := b_w16.size; have := b_w17.size; simp; omega)
          case rest =>
            obtain ⟨w18, rfl⟩ : ∃ x : World, x = wc := ⟨_, rfl⟩
            obtain ⟨gh_0, vh_0_2, rfl, rfl, ⟨rgh_0, l4⟩, c4_0, c4_1, c4_2, o_vh_0_2, m_gh_0_vh_0_2, hb⟩ := hcut
            have Q4 : Hid (w15.heap.size ≤ gh_0 ∧ gh_0 < w18.heap.size) := ⟨rgh_0, l4⟩
            have R_vh_0_2 := Lib.hid (rng_of o_vh_0_2 (Nat.le_refl w15.heap.size))
            have E4_vh_0_2 := Lib.hid m_gh_0_vh_0_2
            clear m_gh_0_vh_0_2
            clear rgh_0
            replace c0_0 := (hb.cell (p := ⟨W.heap.size, 0, none⟩) l0).trans c0_0
            replace c0_1 := (hb.cell (p := ⟨W.heap.size, 1, none⟩) l0).trans c0_1
            replace c0_2 := (hb.cell (p := ⟨W.heap.size, 2, none⟩) l0).trans c0_2
            replace l0 := Nat.lt_of_lt_of_le l0 hb.size
            replace c1_0 := (hb.cell (p := ⟨gw_0, 0, none⟩) l1).trans c1_0
            replace c1_1 := (hb.cell (p := ⟨gw_0, 1, none⟩) l1).trans c1_1
            replace c1_2 := (hb.cell (p := ⟨gw_0, 2, none⟩) l1).trans c1_2
            replace l1 := Nat.lt_of_lt_of_le l1 hb.size
            replace c2_0 := (hb.cell (p := ⟨gx0_0, 0, none⟩) l2).trans c2_0
            replace c2_1 := (hb.cell (p := ⟨gx0_0, 1, none⟩) l2).trans c2_1
            replace c2_2 := (hb.cell (p := ⟨gx0_0, 2, none⟩) l2).trans c2_2
            replace l2 := Nat.lt_of_lt_of_le l2 hb.size
            replace c3_0 := (hb.cell (p := ⟨gg_0, 0, none⟩) l3).trans c3_0
            replace c3_1 := (hb.cell (p := ⟨gg_0, 1, none⟩) l3).trans c3_1
            replace c3_2 := (hb.cell (p := ⟨gg_0, 2, none⟩) l3).trans c3_2
            replace l3 := Nat.lt_of_lt_of_le l3 hb.size
            replace o_vw_0_2 := own_below o_vw_0_2 hb
            replace o_vx0 := own_below o_vx0 hb
            replace o_vg_0_2 := own_below o_vg_0_2 hb
            replace old := grown_again old hb
            have z_w18 := hb.size
            clear hb
            go_wp2_with fail
            refine (eqBarrel_true vh_0_2 vw_0_2 rl (ra) (rb) _ (((SlP.of_own o_vh_0_2)).below (by first | (with_reducible exact Below.refl _ _) | go_grown)) (((SlP.of_own o_vw_0_2)).below (by first | (with_reducible exact Below.refl _ _) | go_grown))).mono ?_
            rintro e w19 ⟨rfl, hb⟩
            have b_w19 : Below w18.heap.size w18 w19 := Below.trans (by first | (with_reducible exact Below.refl _ _) | go_grown) (hb.mono (by first | (with_reducible exact Nat.le_refl _) | (with_reducible assumption) | (simp [go_sem]; done) | (simp [go_sem]; omega) | omega))
            clear hb
            replace c0_0 := (b_w19.cell (p := ⟨W.heap.size, 0, none⟩) l0).trans c0_0
            replace c0_1 := (b_w19.cell (p := ⟨W.heap.size, 1, none⟩) l0).trans c0_1
            replace c0_2 := (b_w19.cell (p := ⟨W.heap.size, 2, none⟩) l0).trans c0_2
            replace l0 := Nat.lt_of_lt_of_le l0 b_w19.size
            replace c1_0 := (b_w19.cell (p := ⟨gw_0, 0, none⟩) l1).trans c1_0
            replace c1_1 := (b_w19.cell (p := ⟨gw_0, 1, none⟩) l1).trans c1_1
            replace c1_2 := (b_w19.cell (p := ⟨gw_0, 2, none⟩) l1).trans c1_2
            replace l1 := Nat.lt_of_lt_of_le l1 b_w19.size
            replace c2_0 := (b_w19.cell (p := ⟨gx0_0, 0, none⟩) l2).trans c2_0
            replace c2_1 := (b_w19.cell (p := ⟨gx0_0, 1, none⟩) l2).trans c2_1
            replace c2_2 := (b_w19.cell (p := ⟨gx0_0, 2, none⟩) l2).trans c2_2
            replace l2 := Nat.lt_of_lt_of_le l2 b_w19.size
            replace c3_0 := (b_w19.cell (p := ⟨gg_0, 0, none⟩) l3).trans c3_0
            replace c3_1 := (b_w19.cell (p := ⟨gg_0, 1, none⟩) l3).trans c3_1
            replace c3_2 := (b_w19.cell (p := ⟨gg_0, 2, none⟩) l3).trans c3_2
            replace l3 := Nat.lt_of_lt_of_le l3 b_w19.size
            replace c4_0 := (b_w19.cell (p := ⟨gh_0, 0, none⟩) l4).trans c4_0
            replace c4_1 := (b_w19.cell (p := ⟨gh_0, 1, none⟩) l4).trans c4_1
            replace c4_2 := (b_w19.cell (p := ⟨gh_0, 2, none⟩) l4).trans c4_2
            replace l4 := Nat.lt_of_lt_of_le l4 b_w19.size
            replace o_vw_0_2 := own_below o_vw_0_2 b_w19
            replace o_vx0 := own_below o_vx0 b_w19
            replace o_vg_0_2 := own_below o_vg_0_2 b_w19
            replace o_vh_0_2 := own_below o_vh_0_2 b_w19
            replace old := grown_again old b_w19
            have z_w19 := b_w19.size
            clear b_w19
            go_wp2_with fail
            refine (heldBarrel_any vg_0_2 1 rl.length (ra) (rb) _ ((SlP.of_own o_vg_0_2).below (by first | (with_reducible exact Below.refl _ _) | go_grown)) (by omega) (by omega) (by omega)).mono ?_
            rintro e w20 ⟨rfl, hb⟩
            have b_w20 : Below w19.heap.size w19 w20 := Below.trans (by first | (with_reducible exact Below.refl _ _) | go_grown) (hb.mono (by first | (with_reducible exact Nat.le_refl _) | (with_reducible assumption) | (simp [go_sem]; done) | (simp [go_sem]; omega) | omega))
            clear hb
            replace c0_0 := (b_w20.cell (p := ⟨W.heap.size, 0, none⟩) l0).trans c0_0
            replace c0_1 := (b_w20.cell (p := ⟨W.heap.size, 1, none⟩) l0).trans c0_1
            replace c0_2 := (b_w20.cell (p := ⟨W.heap.size, 2, none⟩) l0).trans c0_2
            replace l0 := Nat.lt_of_lt_of_le l0 b_w20.size
            replace c1_0 := (b_w20.cell (p := ⟨gw_0, 0, none⟩) l1).trans c1_0
            replace c1_1 := (b_w20.cell (p := ⟨gw_0, 1, none⟩) l1).trans c1_1
            replace c1_2 := (b_w20.cell (p := ⟨gw_0, 2, none⟩) l1).trans c1_2
            replace l1 := Nat.lt_of_lt_of_le l1 b_w20.size
            replace c2_0 := (b_w20.cell (p := ⟨gx0_0, 0, none⟩) l2).trans c2_0
            replace c2_1 := (b_w20.cell (p := ⟨gx0_0, 1, none⟩) l2).trans c2_1
            replace c2_2 := (b_w20.cell (p := ⟨gx0_0, 2, none⟩) l2).trans c2_2
            replace l2 := Nat.lt_of_lt_of_le l2 b_w20.size
            replace c3_0 := (b_w20.cell (p := ⟨gg_0, 0, none⟩) l3).trans c3_0
            replace c3_1 := (b_w20.cell (p := ⟨gg_0, 1, none⟩) l3).trans c3_1
            replace c3_2 := (b_w20.cell (p := ⟨gg_0, 2, none⟩) l3).trans c3_2
            replace l3 := Nat.lt_of_lt_of_le l3 b_w20.size
            replace c4_0 := (b_w20.cell (p := ⟨gh_0, 0, none⟩) l4).trans c4_0
            replace c4_1 := (b_w20.cell (p := ⟨gh_0, 1, none⟩) l4).trans c4_1
            replace c4_2 := (b_w20.cell (p := ⟨gh_0, 2, none⟩) l4).trans c4_2
            replace l4 := Nat.lt_of_lt_of_le l4 b_w20.size
            replace o_vw_0_2 := own_below o_vw_0_2 b_w20
            replace o_vx0 := own_below o_vx0 b_w20
            replace o_vg_0_2 := own_below o_vg_0_2 b_w20
            replace o_vh_0_2 := own_below o_vh_0_2 b_w20
            replace old := grown_again old b_w20
            have z_w20 := b_w20.size
            clear b_w20
            go_wp2
            go_ret
            exact ⟨rfl, old⟩
  · go_enter Try.func4, Try.ntmps4
    go_wp2_with fail
    refine (szBarrel_big v ps st bl _ _ (HV_v.out.below (by first | (with_reducible exact Below.refl _ _) | go_grown)) (by omega) (by omega)).mono ?_
    rintro e w1 ⟨rfl, hb⟩
    go_wp2
    go_ret
    exact ⟨rfl, Below.trans (by first | exact Below.refl _ _ | go_grown) (hb.mono (by first | (with_reducible exact Nat.le_refl _) | (with_reducible assumption) | (simp [go_sem]; done) | (simp [go_sem]; omega) | omega))⟩

set_option maxRecDepth 100000 in
theorem fnExactTurnBarrel_lifted (os : Os) (started : os.Started) (H : Type) (enc : TypeId × Value → H) :
    ReturnsInHanded {} Try.checked os 4 .any (Rows.fnExactTurnBarrelSpec.pre6 enc Try.prog Try.f4 Rows.fnExactTurnBarrelRow.domain false) (Rows.fnExactTurnBarrelSpec.post enc Try.prog Try.f4 false true false false) := by
  refine returnsInHanded_of_change (C := Try.checked) Try.own started (by kernel_rfl) Try.func4
    (ChangeSpec.witness6 (enc := enc) (C := Try.checked) false ⟨#[], #[.agg #[.int .i64 0, .int .i64 0, .slice none 0 0], .int .i64 0], []⟩ 8 (by kernel_rfl) (by kernel_rfl) (by kernel_rfl) (by kernel_rfl)) ?_
  intro W base args ds gs before hval0 hW hcnd _
  have hval : ∀ (j : Nat) t v, Try.f4.params[j]? = some t → args[j]? = some v → Value.okWide Try.prog W .any base t v := hval0
  have hW' := hW
  have hltB : ∀ x ∈ before, x.block < W.heap.size := fun x hx => hW.lt x hx
  obtain ⟨p, q, hA0, hV, rfl, hfz, hnd⟩ := hW
  have hA : DataW.TrodAll enc Try.prog W 0 (fun _ => true) true Try.f4.params.toList args.toList ds p := hA0
  rw [Try.params4] at hA hval
  obtain ⟨v0, vs0, d0, ds0, p0, q0, hargs, rfl, rfl, h0, r0⟩ := trodAll_cons hA
  obtain ⟨v1, vs1, d1, ds1, p1, q1, rfl, rfl, rfl, h1, r1⟩ := trodAll_cons r0
  obtain ⟨rfl, rfl, rfl⟩ := trodAll_nil r1
  obtain rfl : args = #[v0, v1] := by cases args; simp_all
  clear hA0 hval0 hA hcnd hfz hnd
  have hlt0 : ∀ x ∈ p0, x.block < W.heap.size := fun x hx => hltB x (by simp [hx])
  have hlt1 : ∀ x ∈ p1, x.block < W.heap.size := fun x hx => hltB x (by simp [hx])
  obtain ⟨u0_0, u0_1, u0_2, y0_0, y0_1, y0_2, m0, rfl, rfl, rfl, g0_0, g0_1, g0_2⟩ := Joins.open_agg3 Try.underlying29 (by kernel_rfl) (by kernel_rfl) (hval 0 29 v0 rfl rfl) h0
  obtain ⟨st, rfl, bst⟩ := trod_i64 Try.underlying2 g0_0
  obtain ⟨bl, rfl, bbl⟩ := trod_i64 Try.underlying2 g0_1
  obtain ⟨ps, hps, bps⟩ := trod_pairs Try.underlying27 Try.underlying94 (by kernel_rfl) (by kernel_rfl) Try.underlying2 Try.underlying2 g0_2 (fun x hx => hlt0 x (by simp [hx]))
  obtain ⟨b, rfl, rfl, rfl, wb⟩ := open_int Try.underlying2 (hval 1 2 v1 rfl rfl) h1
  have bb := i64_of_wf wb
  refine (exactTurnBarrel_walk _ ps st bl b W hps).mono fun e W' ⟨he, hb⟩ => ?_
  subst he
  exact ⟨_, rfl, post_law Try.laidOut hW' rfl rfl (by kernel_rfl) (by kernel_rfl) Try.underlying4 hb⟩

set_option maxHeartbeats 2000000 in
theorem fnExactTurnBarrel_facts : joinedFacts Try.prog 4 Try.f4 Rows.fnExactTurnBarrelSpec Rows.fnExactTurnBarrelRow = true := by
  unfold joinedFacts
  simp only [Bool.and_eq_true]
  repeat' apply And.intro
  all_goals first | with_reducible exact Try.laidOut | with_reducible exact Try.g2 | with_reducible exact Try.g24 | with_reducible exact Try.g25 | (rw [Try.g26]; rfl) | (rw [Try.g27]; rfl) | as_aux_lemma => kernel_rfl
/-- The statement. -/
theorem fnExactTurnBarrel_holds : Rows.FnExactTurnBarrelSaid :=
  OpenClaim.holds_of_wide 4 Try.f4 rfl rfl rfl rfl rfl rfl rfl ⟨rfl, rfl, rfl, rfl, rfl⟩ rfl rfl rfl rfl rfl (by as_aux_lemma => kernel_rfl) Try.func4 fnExactTurnBarrel_facts
    (by as_aux_lemma => exact of_decide_eq_true (by kernel_rfl)) (by as_aux_lemma => unfold Func.isWrapper; rw [if_neg (of_decide_eq_false (by kernel_rfl))]; exact ⟨rfl, rfl⟩)
    (fun os started H enc _ => fnExactTurnBarrel_lifted os started H enc)
#print axioms fnExactTurnBarrel_holds
end Go.Proofs.Ytgaohmbgjjhdbaa
