/- FnExactReadBarrel is proved: for every text the program's ReadBarrel and the reference's return the same barrel and answer, and what is returned shares no memory with anything else. No condition. -/
import Derived.Test.YtgaohmbgjjhdbaaDoorRdB
import Derived.Test.YtgaohmbgjjhdbaaDoorStBarrel
import Derived.Test.YtgaohmbgjjhdbaaDoorPxPin
import Derived.Test.YtgaohmbgjjhdbaaDoorRowF
import Derived.Test.YtgaohmbgjjhdbaaDoorBx
import Derived.Test.YtgaohmbgjjhdbaaDoorGxC
import Derived.Test.YtgaohmbgjjhdbaaDoorCards
import Derived.Test.YtgaohmbgjjhdbaaDoorTie
import Derived.OpenShut
import Derived.LaidMore
import Derived.Lay
import Derived.SevenTiedAt
import Derived.Stop.Joined
import Derived.ChangeMaps5
import Derived.Deep.RegionHeld3
import Derived.Deep.DeepCutAuto
namespace Go.Proofs.YtgaohmbgjjhdbaaDoor
open Go.ChangeShapes Go.WideShapes Go.ChangeAt Go.RowKit
attribute [local go_sem ↓] Go.wp_at_zero Go.wp_at_succ

set_option maxRecDepth 100000 in
set_option maxHeartbeats 16000000 in
theorem exactReadBarrel_walk (s : ByteArray) (W : World) (hgx : GX W) :
    Calls Tryd.prog 4 #[.string s] W fun e W' => e = .returned (.bool true) ∧ Below W.heap.size W W' := by
  have HGX := Lib.hid hgx
  clear hgx
  by_cases hl_s : s.size ≤ 1048576
  · skip
    obtain ⟨ra, rb, rl, rd, hL_rl, HFI, HFS⟩ := ReadBarrel_both s (by omega)
    have HI := Lib.hid HFI
    have HS := Lib.hid HFS
    clear HFI HFS
    go_enter Tryd.func4, Tryd.ntmps4
    have old : Below W.heap.size W W := Below.refl _ _
    go_upto_region 3 with (fail)
    go_cut [3, 4] (fun a3 a4 wr => ∃ (gw_0 : Nat) (vw_0_2 : Value), a3 = .pointer (some ⟨gw_0, 0, none⟩) ∧ a4 = .bool rd ∧ (W.heap.size ≤ gw_0 ∧ gw_0 < wr.heap.size) ∧ wr.cell? ⟨gw_0, 0, none⟩ = some (.int .i64 ra) ∧ wr.cell? ⟨gw_0, 1, none⟩ = some (.int .i64 rb) ∧ wr.cell? ⟨gw_0, 2, none⟩ = some (vw_0_2) ∧ wr.ownsRow W.heap.size 51 2 vw_0_2 rl.length (P64 rl) ∧ some gw_0 ≠ vw_0_2.ownBlock ∧ Below W.heap.size W wr)
    case first =>
      have b_W := Below.refl W.heap.size W
      go_wp2_with fail
      refine (HS.out _ (HGX.out.below (grown_again old (by first | (with_reducible exact Below.refl _ _) | go_grown)))).mono ?_
      rintro e w1 ⟨vw_0_2, rfl, o_vw_0_2, hb⟩
      obtain ⟨A_vw_0_2, C_vw_0_2, rfl⟩ := own_form o_vw_0_2
      have b_w1 : Below W.heap.size W w1 := Below.trans (grown_again b_W (by first | (with_reducible exact Below.refl _ _) | go_grown)) (hb.mono (by first | (with_reducible exact Nat.le_refl _) | (with_reducible assumption) | (simp [go_sem]; done) | (simp [go_sem]; omega) | omega))
      have y_w1 := b_w1.size
      (try (have a_w1_W : W.heap.size < w1.heap.size := Nat.lt_of_lt_of_le (by first | assumption | (simp [go_sem]; done) | (simp only [go_sem]; omega) | (simp [go_sem]; omega)) hb.size))
      obtain ⟨hc_w1, hf_w1⟩ := bcell hb
      clear hb
      all_goals (go_wp2_with fail; go_meet)
      all_goals refine ⟨_, .slice A_vw_0_2 rl.length C_vw_0_2, rfl, rfl, ⟨?_, ?_⟩, ?_, ?_, ?_, ?_, ?_, ?_⟩
      all_goals first
        | (with_reducible exact Nat.le_refl _) | (with_reducible assumption)
        | (go_grown; done)
        | (simp [go_sem, *]; done)
        | ((repeat' first | exact own_mono o_vw_0_2 (by first | (with_reducible exact Nat.le_refl _) | (with_reducible assumption) | (simp [go_sem]; done) | (simp [go_sem]; omega) | omega) | refine own_far ?_ ?_ _ | refine World.ownsRow.alloc ?_ _); all_goals (exact own_ne o_vw_0_2 (Or.inl (by first | assumption | (simp; done) | omega))); done)
        | exact own_ne o_vw_0_2 (Or.inr (by first | (with_reducible exact Nat.le_refl _) | (with_reducible assumption) | (simp [go_sem]; done) | (simp [go_sem]; omega) | omega)) | exact own_ne o_vw_0_2 (Or.inl (by first | (with_reducible exact Nat.le_refl _) | (with_reducible assumption) | (simp [go_sem]; done) | (simp [go_sem]; omega) | omega))
        | (have := b_w1.size; simp; omega)
    case rest =>
      obtain ⟨w2, rfl⟩ : ∃ x : World, x = wc := ⟨_, rfl⟩
      obtain ⟨gw_0, vw_0_2, rfl, rfl, ⟨rgw_0, l0⟩, c0_0, c0_1, c0_2, o_vw_0_2, m_gw_0_vw_0_2, hb⟩ := hcut
      have Q0 : Hid (W.heap.size ≤ gw_0 ∧ gw_0 < w2.heap.size) := ⟨rgw_0, l0⟩
      have R_vw_0_2 := Lib.hid (rng_of o_vw_0_2 (Nat.le_refl W.heap.size))
      have E0_vw_0_2 := Lib.hid m_gw_0_vw_0_2
      clear m_gw_0_vw_0_2
      clear rgw_0
      replace old := grown_again old hb
      have z_w2 := hb.size
      clear hb
      go_upto_region 4 with (fail)
      go_cut [5, 6] (fun a5 a6 wr => ∃ (gg_0 : Nat) (vg_0_2 : Value), a5 = .pointer (some ⟨gg_0, 0, none⟩) ∧ a6 = .bool rd ∧ (w2.heap.size ≤ gg_0 ∧ gg_0 < wr.heap.size) ∧ wr.cell? ⟨gg_0, 0, none⟩ = some (.int .i64 ra) ∧ wr.cell? ⟨gg_0, 1, none⟩ = some (.int .i64 rb) ∧ wr.cell? ⟨gg_0, 2, none⟩ = some (vg_0_2) ∧ wr.ownsRow w2.heap.size 51 2 vg_0_2 rl.length (P64 rl) ∧ some gg_0 ≠ vg_0_2.ownBlock ∧ Below w2.heap.size w2 wr)
      case first =>
        have b_w2 := Below.refl w2.heap.size w2
        go_wp2_with fail
        refine (HI.out _ (HGX.out.below (grown_again old (by first | (with_reducible exact Below.refl _ _) | go_grown)))).mono ?_
        rintro e w3 ⟨vg_0_2, rfl, o_vg_0_2, hb⟩
        obtain ⟨A_vg_0_2, C_vg_0_2, rfl⟩ := own_form o_vg_0_2
        have b_w3 : Below w2.heap.size w2 w3 := Below.trans (grown_again b_w2 (by first | (with_reducible exact Below.refl _ _) | go_grown)) (hb.mono (by first | (with_reducible exact Nat.le_refl _) | (with_reducible assumption) | (simp [go_sem]; done) | (simp [go_sem]; omega) | omega))
        have y_w3 := b_w3.size
        (try (have a_w3_w2 : w2.heap.size < w3.heap.size := Nat.lt_of_lt_of_le (by first | assumption | (simp [go_sem]; done) | (simp only [go_sem]; omega) | (simp [go_sem]; omega)) hb.size))
        obtain ⟨hc_w3, hf_w3⟩ := bcell hb
        clear hb
        all_goals (go_wp2_with fail; go_meet)
        all_goals refine ⟨_, .slice A_vg_0_2 rl.length C_vg_0_2, rfl, rfl, ⟨?_, ?_⟩, ?_, ?_, ?_, ?_, ?_, ?_⟩
        all_goals first
          | (with_reducible exact Nat.le_refl _) | (with_reducible assumption)
          | (go_grown; done)
          | (simp [go_sem, *]; done)
          | ((repeat' first | exact own_mono o_vg_0_2 (by first | (with_reducible exact Nat.le_refl _) | (with_reducible assumption) | (simp [go_sem]; done) | (simp [go_sem]; omega) | omega) | refine own_far ?_ ?_ _ | refine World.ownsRow.alloc ?_ _); all_goals (exact own_ne o_vg_0_2 (Or.inl (by first | assumption | (simp; done) | omega))); done)
          | exact own_ne o_vg_0_2 (Or.inr (by first | (with_reducible exact Nat.le_refl _) | (with_reducible assumption) | (simp [go_sem]; done) | (simp [go_sem]; omega) | omega)) | exact own_ne o_vg_0_2 (Or.inl (by first | (with_reducible exact Nat.le_refl _) | (with_reducible assumption) | (simp [go_sem]; done) | (simp [go_sem]; omega) | omega))
          | (have := b_w3.size; simp; omega)
      case rest =>
        obtain ⟨w4, rfl⟩ : ∃ x : World, x = wc := ⟨_, rfl⟩
        obtain ⟨gg_0, vg_0_2, rfl, rfl, ⟨rgg_0, l1⟩, c1_0, c1_1, c1_2, o_vg_0_2, m_gg_0_vg_0_2, hb⟩ := hcut
        have Q1 : Hid (w2.heap.size ≤ gg_0 ∧ gg_0 < w4.heap.size) := ⟨rgg_0, l1⟩
        have R_vg_0_2 := Lib.hid (rng_of o_vg_0_2 (Nat.le_refl w2.heap.size))
        have E1_vg_0_2 := Lib.hid m_gg_0_vg_0_2
        clear m_gg_0_vg_0_2
        clear rgg_0
        replace c0_0 := (hb.cell (p := ⟨gw_0, 0, none⟩) l0).trans c0_0
        replace c0_1 := (hb.cell (p := ⟨gw_0, 1, none⟩) l0).trans c0_1
        replace c0_2 := (hb.cell (p := ⟨gw_0, 2, none⟩) l0).trans c0_2
        replace l0 := Nat.lt_of_lt_of_le l0 hb.size
        replace o_vw_0_2 := own_below o_vw_0_2 hb
        replace old := grown_again old hb
        have z_w4 := hb.size
        clear hb
        go_wp2_with fail
        refine (eqBarrel_true vg_0_2 vw_0_2 rl (ra) (rb) _ (((SlP.of_own o_vg_0_2)).below (by first | (with_reducible exact Below.refl _ _) | go_grown)) (((SlP.of_own o_vw_0_2)).below (by first | (with_reducible exact Below.refl _ _) | go_grown))).mono ?_
        rintro e w5 ⟨rfl, hb⟩
        have b_w5 : Below w4.heap.size w4 w5 := Below.trans (by first | (with_reducible exact Below.refl _ _) | go_grown) (hb.mono (by first | (with_reducible exact Nat.le_refl _) | (with_reducible assumption) | (simp [go_sem]; done) | (simp [go_sem]; omega) | omega))
        clear hb
        replace c0_0 := (b_w5.cell (p := ⟨gw_0, 0, none⟩) l0).trans c0_0
        replace c0_1 := (b_w5.cell (p := ⟨gw_0, 1, none⟩) l0).trans c0_1
        replace c0_2 := (b_w5.cell (p := ⟨gw_0, 2, none⟩) l0).trans c0_2
        replace l0 := Nat.lt_of_lt_of_le l0 b_w5.size
        replace c1_0 := (b_w5.cell (p := ⟨gg_0, 0, none⟩) l1).trans c1_0
        replace c1_1 := (b_w5.cell (p := ⟨gg_0, 1, none⟩) l1).trans c1_1
        replace c1_2 := (b_w5.cell (p := ⟨gg_0, 2, none⟩) l1).trans c1_2
        replace l1 := Nat.lt_of_lt_of_le l1 b_w5.size
        replace o_vw_0_2 := own_below o_vw_0_2 b_w5
        replace o_vg_0_2 := own_below o_vg_0_2 b_w5
        replace old := grown_again old b_w5
        have z_w5 := b_w5.size
        clear b_w5
        go_wp2_with fail
        have M := markBarrel_any vg_0_2 1 rl (ra) (rb) _ w5 o_vg_0_2 (by omega) (by omega) (by omega)
        have M := Lib.hid M
        refine M.out.mono ?_
        rintro e w6 ⟨rfl, om, hg⟩
        clear M
        replace c0_0 := hg.cell c0_0 (Rng.ne (g := gw_0) R_vg_0_2.out (by have := Q0.out; omega))
        replace c0_1 := hg.cell c0_1 (Rng.ne (g := gw_0) R_vg_0_2.out (by have := Q0.out; omega))
        replace c0_2 := hg.cell c0_2 (Rng.ne (g := gw_0) R_vg_0_2.out (by have := Q0.out; omega))
        replace l0 := Nat.lt_of_lt_of_le l0 hg.size
        replace c1_0 := hg.cell c1_0 E1_vg_0_2.out
        replace c1_1 := hg.cell c1_1 E1_vg_0_2.out
        replace c1_2 := hg.cell c1_2 E1_vg_0_2.out
        replace l1 := Nat.lt_of_lt_of_le l1 hg.size
        replace o_vw_0_2 := o_vw_0_2.kept hg (Rng.apart R_vw_0_2.out R_vg_0_2.out (by omega))
        replace old := below_grown old hg R_vg_0_2.out (by omega)
        have z_w6 := hg.size
        replace o_vg_0_2 := om
        clear hg
        go_wp2_with fail
        refine (heldBarrel_any vg_0_2 1 rl.length (ra) (rb) _ ((SlP.of_own o_vg_0_2).below (by first | (with_reducible exact Below.refl _ _) | go_grown)) (by omega) (by omega) (by omega)).mono ?_
        rintro e w7 ⟨rfl, hb⟩
        have b_w7 : Below w6.heap.size w6 w7 := Below.trans (by first | (with_reducible exact Below.refl _ _) | go_grown) (hb.mono (by first | (with_reducible exact Nat.le_refl _) | (with_reducible assumption) | (simp [go_sem]; done) | (simp [go_sem]; omega) | omega))
        clear hb
        replace c0_0 := (b_w7.cell (p := ⟨gw_0, 0, none⟩) l0).trans c0_0
        replace c0_1 := (b_w7.cell (p := ⟨gw_0, 1, none⟩) l0).trans c0_1
        replace c0_2 := (b_w7.cell (p := ⟨gw_0, 2, none⟩) l0).trans c0_2
        replace l0 := Nat.lt_of_lt_of_le l0 b_w7.size
        replace c1_0 := (b_w7.cell (p := ⟨gg_0, 0, none⟩) l1).trans c1_0
        replace c1_1 := (b_w7.cell (p := ⟨gg_0, 1, none⟩) l1).trans c1_1
        replace c1_2 := (b_w7.cell (p := ⟨gg_0, 2, none⟩) l1).trans c1_2
        replace l1 := Nat.lt_of_lt_of_le l1 b_w7.size
        replace o_vw_0_2 := own_below o_vw_0_2 b_w7
        replace o_vg_0_2 := own_below o_vg_0_2 b_w7
        replace old := grown_again old b_w7
        have z_w7 := b_w7.size
        clear b_w7
        go_upto_region 15 with (fail)
        go_cut [9, 10] (fun a9 a10 wr => ∃ (gh_0 : Nat) (vh_0_2 : Value), a9 = .pointer (some ⟨gh_0, 0, none⟩) ∧ a10 = .bool rd ∧ (w7.heap.size ≤ gh_0 ∧ gh_0 < wr.heap.size) ∧ wr.cell? ⟨gh_0, 0, none⟩ = some (.int .i64 ra) ∧ wr.cell? ⟨gh_0, 1, none⟩ = some (.int .i64 rb) ∧ wr.cell? ⟨gh_0, 2, none⟩ = some (vh_0_2) ∧ wr.ownsRow w7.heap.size 51 2 vh_0_2 rl.length (P64 rl) ∧ some gh_0 ≠ vh_0_2.ownBlock ∧ Below w7.heap.size w7 wr)
        case first =>
          have b_w7 := Below.refl w7.heap.size w7
          go_wp2_with fail
          refine (HI.out _ (HGX.out.below (grown_again old (by first | (with_reducible exact Below.refl _ _) | go_grown)))).mono ?_
          rintro e w8 ⟨vh_0_2, rfl, o_vh_0_2, hb⟩
          obtain ⟨A_vh_0_2, C_vh_0_2, rfl⟩ := own_form o_vh_0_2
          have b_w8 : Below w7.heap.size w7 w8 := Below.trans (grown_again b_w7 (by first | (with_reducible exact Below.refl _ _) | go_grown)) (hb.mono (by first | (with_reducible exact Nat.le_refl _) | (with_reducible assumption) | (simp [go_sem]; done) | (simp [go_sem]; omega) | omega))
          have y_w8 := b_w8.size
          (try (have a_w8_w7 : w7.heap.size < w8.heap.size := Nat.lt_of_lt_of_le (by first | assumption | (simp [go_sem]; done) | (simp only [go_sem]; omega) | (simp [go_sem]; omega)) hb.size))
          obtain ⟨hc_w8, hf_w8⟩ := bcell hb
          clear hb
          all_goals (go_wp2_with fail; go_meet)
          all_goals refine ⟨_, .slice A_vh_0_2 rl.length C_vh_0_2, rfl, rfl, ⟨?_, ?_⟩, ?_, ?_, ?_, ?_, ?_, ?_⟩
          all_goals first
            | (with_reducible exact Nat.le_refl _) | (with_reducible assumption)
            | (go_grown; done)
            | (simp [go_sem, *]; done)
            | ((repeat' first | exact own_mono o_vh_0_2 (by first | (with_reducible exact Nat.le_refl _) | (with_reducible assumption) | (simp [go_sem]; done) | (simp [go_sem]; omega) | omega) | refine own_far ?_ ?_ _ | refine World.ownsRow.alloc ?_ _); all_goals (exact own_ne o_vh_0_2 (Or.inl (by first | assumption | (simp; done) | omega))); done)
            | exact own_ne o_vh_0_2 (Or.inr (by first | (with_reducible exact Nat.le_refl _) | (with_reducible assumption) | (simp [go_sem]; done) | (simp [go_sem]; omega) | omega)) | exact own_ne o_vh_0_2 (Or.inl (by first | (with_reducible exact Nat.le_refl _) | (with_reducible assumption) | (simp [go_sem]; done) | (simp [go_sem]; omega) | omega))
            | (have := b_w8.size; simp; omega)
        case rest =>
          obtain ⟨w9, rfl⟩ : ∃ x : World, x = wc := ⟨_, rfl⟩
          obtain ⟨gh_0, vh_0_2, rfl, rfl, ⟨rgh_0, l2⟩, c2_0, c2_1, c2_2, o_vh_0_2, m_gh_0_vh_0_2, hb⟩ := hcut
          have Q2 : Hid (w7.heap.size ≤ gh_0 ∧ gh_0 < w9.heap.size) := ⟨rgh_0, l2⟩
          have R_vh_0_2 := Lib.hid (rng_of o_vh_0_2 (Nat.le_refl w7.heap.size))
          have E2_vh_0_2 := Lib.hid m_gh_0_vh_0_2
          clear m_gh_0_vh_0_2
          clear rgh_0
          replace c0_0 := (hb.cell (p := ⟨gw_0, 0, none⟩) l0).trans c0_0
          replace c0_1 := (hb.cell (p := ⟨gw_0, 1, none⟩) l0).trans c0_1
          replace c0_2 := (hb.cell (p := ⟨gw_0, 2, none⟩) l0).trans c0_2
          replace l0 := Nat.lt_of_lt_of_le l0 hb.size
          replace c1_0 := (hb.cell (p := ⟨gg_0, 0, none⟩) l1).trans c1_0
          replace c1_1 := (hb.cell (p := ⟨gg_0, 1, none⟩) l1).trans c1_1
          replace c1_2 := (hb.cell (p := ⟨gg_0, 2, none⟩) l1).trans c1_2
          replace l1 := Nat.lt_of_lt_of_le l1 hb.size
          replace o_vw_0_2 := own_below o_vw_0_2 hb
          replace o_vg_0_2 := own_below o_vg_0_2 hb
          replace old := grown_again old hb
          have z_w9 := hb.size
          clear hb
          go_wp2_with fail
          refine (eqBarrel_true vh_0_2 vw_0_2 rl (ra) (rb) _ (((SlP.of_own o_vh_0_2)).below (by first | (with_reducible exact Below.refl _ _) | go_grown)) (((SlP.of_own o_vw_0_2)).below (by first | (with_reducible exact Below.refl _ _) | go_grown))).mono ?_
          rintro e w10 ⟨rfl, hb⟩
          have b_w10 : Below w9.heap.size w9 w10 := Below.trans (by first | (with_reducible exact Below.refl _ _) | go_grown) (hb.mono (by first | (with_reducible exact Nat.le_refl _) | (with_reducible assumption) | (simp [go_sem]; done) | (simp [go_sem]; omega) | omega))
          clear hb
          replace c0_0 := (b_w10.cell (p := ⟨gw_0, 0, none⟩) l0).trans c0_0
          replace c0_1 := (b_w10.cell (p := ⟨gw_0, 1, none⟩) l0).trans c0_1
          replace c0_2 := (b_w10.cell (p := ⟨gw_0, 2, none⟩) l0).trans c0_2
          replace l0 := Nat.lt_of_lt_of_le l0 b_w10.size
          replace c1_0 := (b_w10.cell (p := ⟨gg_0, 0, none⟩) l1).trans c1_0
          replace c1_1 := (b_w10.cell (p := ⟨gg_0, 1, none⟩) l1).trans c1_1
          replace c1_2 := (b_w10.cell (p := ⟨gg_0, 2, none⟩) l1).trans c1_2
          replace l1 := Nat.lt_of_lt_of_le l1 b_w10.size
          replace c2_0 := (b_w10.cell (p := ⟨gh_0, 0, none⟩) l2).trans c2_0
          replace c2_1 := (b_w10.cell (p := ⟨gh_0, 1, none⟩) l2).trans c2_1
          replace c2_2 := (b_w10.cell (p := ⟨gh_0, 2, none⟩) l2).trans c2_2
          replace l2 := Nat.lt_of_lt_of_le l2 b_w10.size
          replace o_vw_0_2 := own_below o_vw_0_2 b_w10
          replace o_vg_0_2 := own_below o_vg_0_2 b_w10
          replace o_vh_0_2 := own_below o_vh_0_2 b_w10
          replace old := grown_again old b_w10
          have z_w10 := b_w10.size
          clear b_w10
          go_wp2_with fail
          refine (heldBarrel_any vg_0_2 1 rl.length (ra) (rb) _ ((SlP.of_own o_vg_0_2).below (by first | (with_reducible exact Below.refl _ _) | go_grown)) (by omega) (by omega) (by omega)).mono ?_
          rintro e w11 ⟨rfl, hb⟩
          have b_w11 : Below w10.heap.size w10 w11 := Below.trans (by first | (with_reducible exact Below.refl _ _) | go_grown) (hb.mono (by first | (with_reducible exact Nat.le_refl _) | (with_reducible assumption) | (simp [go_sem]; done) | (simp [go_sem]; omega) | omega))
          clear hb
          replace c0_0 := (b_w11.cell (p := ⟨gw_0, 0, none⟩) l0).trans c0_0
          replace c0_1 := (b_w11.cell (p := ⟨gw_0, 1, none⟩) l0).trans c0_1
          replace c0_2 := (b_w11.cell (p := ⟨gw_0, 2, none⟩) l0).trans c0_2
          replace l0 := Nat.lt_of_lt_of_le l0 b_w11.size
          replace c1_0 := (b_w11.cell (p := ⟨gg_0, 0, none⟩) l1).trans c1_0
          replace c1_1 := (b_w11.cell (p := ⟨gg_0, 1, none⟩) l1).trans c1_1
          replace c1_2 := (b_w11.cell (p := ⟨gg_0, 2, none⟩) l1).trans c1_2
          replace l1 := Nat.lt_of_lt_of_le l1 b_w11.size
          replace c2_0 := (b_w11.cell (p := ⟨gh_0, 0, none⟩) l2).trans c2_0
          replace c2_1 := (b_w11.cell (p := ⟨gh_0, 1, none⟩) l2).trans c2_1
          replace c2_2 := (b_w11.cell (p := ⟨gh_0, 2, none⟩) l2).trans c2_2
          replace l2 := Nat.lt_of_lt_of_le l2 b_w11.size
          replace o_vw_0_2 := own_below o_vw_0_2 b_w11
          replace o_vg_0_2 := own_below o_vg_0_2 b_w11
          replace o_vh_0_2 := own_below o_vh_0_2 b_w11
          replace old := grown_again old b_w11
          have z_w11 := b_w11.size
          clear b_w11
          go_wp2
          go_ret
          exact ⟨rfl, old⟩
  · go_enter Tryd.func4, Tryd.ntmps4
    go_wp2
    go_ret
    exact ⟨rfl, by first | exact Below.refl _ _ | go_grown⟩

set_option maxRecDepth 100000 in
theorem fnExactReadBarrel_lifted (os : Os) (started : os.Started) (H : Type) (enc : TypeId × Value → H) :
    ReturnsInHanded {} Tryd.checked os 4 .any (fun w args => (Rows.fnExactReadBarrelSpec.pre enc Tryd.prog Tryd.f4 Rows.fnExactReadBarrelRow.domain false w args ∧ laidMetH Tryd.prog Rows.fnExactReadBarrelRow.laid w) ∧ sizedMet enc Tryd.prog Tryd.f4 (OpenSpec.ofChange Rows.fnExactReadBarrelSpec) false w args)
      (Rows.fnExactReadBarrelSpec.post enc Tryd.prog Tryd.f4 false true false false) := by
  refine returnsInHanded_of_calls (C := Tryd.checked) Tryd.own started (by kernel_rfl)
    (ChangeSpec.witness_shaped (enc := enc) (C := Tryd.checked) (os := os) (X := fun w _ => laidMetH Tryd.prog Rows.fnExactReadBarrelRow.laid w) false (World.laidAll Tryd.prog os Rows.fnExactReadBarrelRow.laid) #[.string ⟨#[]⟩] 8 (World.laidAll_os _ _ _)
      (World.shaped_of_ZipB (by kernel_rfl) (by kernel_rfl)) (by kernel_rfl) (by kernel_rfl) (by kernel_rfl)
      (by rw [MakeChecks.laidMetH_plain _ _ _ (by kernel_rfl)]; exact laidMet_laidAll _ (by kernel_rfl) (by kernel_rfl))) ?_
  intro w0 tape inp _ hshp _ ⟨_, _, _, fn1, hfn1, _, _, _, _, hval1⟩ ⟨⟨⟨ds, gs, before, hW1, hcnd⟩, hlaid1⟩, _⟩ _
  obtain rfl : fn1 = Tryd.f4 := Option.some.inj (hfn1.symm.trans Tryd.func4)
  obtain ⟨W, hWd⟩ : ∃ W, W = w0.forCall tape inp := ⟨_, rfl⟩
  obtain ⟨args, had⟩ : ∃ args, args = inp.args := ⟨_, rfl⟩
  obtain ⟨base, hbd⟩ : ∃ base, base = w0.heap.size := ⟨_, rfl⟩
  have hW := DataW.Whole.of_heap (w' := w0.forCall tape inp) (by rfl) hW1
  have hgx : GX (w0.forCall tape inp) := gx_of hshp (laidMetH.of_heap (w' := w0.forCall tape inp) (by rfl) hlaid1)
  have hval0 := hval1
  rw [← hWd] at hW hgx hshp
  rw [← hWd, ← hbd] at hval0
  rw [← had] at hW hval0
  suffices key : Calls Tryd.prog 4 args W (fun e W' => ∃ r, e = .returned r ∧ Rows.fnExactReadBarrelSpec.post enc Tryd.prog Tryd.f4 false true false false W args r W') by
    rw [had, hWd] at key
    exact key.mono fun e W' ⟨r, he, hp⟩ => by subst he; exact ChangeSpec.post_blind hp
  clear hval1 hW1 hlaid1 hshp hWd had hbd hcnd
  have hcnd : True := trivial
  have hval : ∀ (j : Nat) t v, Tryd.f4.params[j]? = some t → args[j]? = some v → Value.okWide Tryd.prog W .any base t v := hval0
  have hW' := hW
  have hltB : ∀ x ∈ before, x.block < W.heap.size := fun x hx => hW.lt x hx
  obtain ⟨p, q, hA0, hV, rfl, hfz, hnd⟩ := hW
  have hA : DataW.TrodAll enc Tryd.prog W 0 (fun _ => true) true Tryd.f4.params.toList args.toList ds p := hA0
  rw [Tryd.params4] at hA hval
  obtain ⟨v0, vs0, d0, ds0, p0, q0, hargs, rfl, rfl, h0, r0⟩ := trodAll_cons hA
  obtain ⟨rfl, rfl, rfl⟩ := trodAll_nil r0
  obtain rfl : args = #[v0] := by cases args; simp_all
  clear hA0 hval0 hA hcnd hfz hnd
  have hlt0 : ∀ x ∈ p0, x.block < W.heap.size := fun x hx => hltB x (by simp [hx])
  obtain ⟨s, rfl, rfl, rfl, ws⟩ := Go.ChangeMaps.open_string Tryd.underlying9 (hval 0 9 v0 rfl rfl) h0
  refine (exactReadBarrel_walk s W hgx).mono fun e W' ⟨he, hb⟩ => ?_
  subst he
  exact ⟨_, rfl, post_law Tryd.laidOut hW' rfl rfl (by kernel_rfl) (by kernel_rfl) Tryd.underlying4 hb⟩

set_option maxHeartbeats 2000000 in
theorem fnExactReadBarrel_facts : joinedFacts Tryd.prog 4 Tryd.f4 Rows.fnExactReadBarrelSpec Rows.fnExactReadBarrelRow = true := by
  unfold joinedFacts
  simp only [Bool.and_eq_true]
  repeat' apply And.intro
  all_goals first | with_reducible exact Tryd.laidOut | with_reducible exact Tryd.g2 | with_reducible exact Tryd.g24 | with_reducible exact Tryd.g25 | (rw [Tryd.g26]; rfl) | (rw [Tryd.g27]; rfl) | as_aux_lemma => kernel_rfl
/-- The statement. -/
theorem fnExactReadBarrel_holds : Rows.FnExactReadBarrelSaid :=
  OpenClaim.holds_of_wide 4 Tryd.f4 rfl rfl rfl rfl rfl rfl rfl ⟨rfl, rfl, rfl, rfl, rfl⟩ rfl rfl rfl rfl rfl (by as_aux_lemma => kernel_rfl) Tryd.func4 fnExactReadBarrel_facts
    (by as_aux_lemma => exact of_decide_eq_true (by kernel_rfl)) (by as_aux_lemma => unfold Func.isWrapper; rw [if_neg (of_decide_eq_false (by kernel_rfl))]; exact ⟨rfl, rfl⟩)
    (fun os started H enc _ => fnExactReadBarrel_lifted os started H enc)
/-- The card. -/
theorem fnExactReadBarrel_card : Rows.FnExactReadBarrelCardSaid :=
  Claim7.holds_tied_plain_at .later [] [.data, .data, .data, .data, .sentinel, .sentinel, .pinned] true (true, "f27ecd39ed133c962278263fd27f76e77daf2a5ed1baddb80973286dff2dc112") true fnExactReadBarrel_holds (fun _ h => by cases h) (by kernel_rfl) (fun _ h => by cases h) fnExactReadBarrel_row_tie rfl ⟨rfl, rfl⟩ (by kernel_rfl) rfl
    (fun f fn hf hfn => by
      obtain rfl : f = 4 := Option.some.inj ((show Tryd.prog.funcNamed "loop.example/g00921/laws.FnExactReadBarrel" = some 4 by kernel_rfl).symm.trans hf) |>.symm
      obtain rfl : fn = Tryd.f4 := (Option.some.inj (Tryd.func4.symm.trans hfn)).symm
      exact ⟨by kernel_rfl, fun j t ht => by
        rw [Tryd.params4] at ht
        have hm : t ∈ [9] := by simpa using Array.mem_of_getElem? ht
        have hall : ([9].all fun u => !Tryd.prog.wantsStandIn u) = true := by kernel_rfl
        exact (show Tryd.prog.wantsStandIn t = false by simpa using List.all_eq_true.1 hall t hm)⟩)
    (by kernel_rfl)
#print axioms fnExactReadBarrel_card
end Go.Proofs.YtgaohmbgjjhdbaaDoor
