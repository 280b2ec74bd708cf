/- FnExactSameBarrel is proved: for all barrels the program's SameBarrel and the reference's answer alike, and no barrel is changed. No condition. -/
import Derived.Test.YtmjpjechmojkeaaChS
import Derived.Test.YtmjpjechmojkeaaStBarrel
import Derived.Test.YtmjpjechmojkeaaRowF
import Derived.Test.YtmjpjechmojkeaaBx
import Derived.Test.YtmjpjechmojkeaaRow2
import Derived.Deep.RegionHeld3
import Derived.Deep.DeepCutAuto
namespace Go.Proofs.Ytmjpjechmojkeaa
open Go.ChangeShapes Go.WideShapes Go.ChangeAt Go.RowKit
attribute [local go_sem ↓] Go.wp_at_zero Go.wp_at_succ

set_option maxRecDepth 100000 in
set_option maxHeartbeats 16000000 in
theorem exactSameBarrel_walk (va : Value) (ps : List (Int × Int)) (vb : Value) (qs : List (Int × Int)) (st bl tt cl : Int) (W : World) (hv_va : SlP W va ps) (hv_vb : SlP W vb qs) :
    Calls Try.prog 7 #[.agg #[.int .i64 st, .int .i64 bl, va], .agg #[.int .i64 tt, .int .i64 cl, vb]] W fun e W' => e = .returned (.bool true) ∧ Below W.heap.size W W' := by
  have HV_va := Lib.hid hv_va
  clear hv_va
  have HV_vb := Lib.hid hv_vb
  clear hv_vb
  by_cases hl_ps : ps.length ≤ 1048576
  · skip
    by_cases hs_qs : qs.length ≤ 1048576 - ps.length
    · have hl_qs : qs.length ≤ 1048576 := by omega
      obtain ⟨rb, HFI, HFS⟩ := SameBarrel_both st bl ps tt cl qs
      have HI := Lib.hid HFI
      have HS := Lib.hid HFS
      clear HFI HFS
      go_enter Try.func7, Try.ntmps7
      have kk := bx2 W 38 38 #[.int .i64 st, .int .i64 bl, va] #[.int .i64 tt, .int .i64 cl, vb]
      obtain ⟨k0, k1⟩ := kk
      have KH0 := Lib.hid k0
      have KH1 := Lib.hid k1
      clear k0 k1
      go_wp2_with fail
      refine (szBarrel_fits va ps st bl _ _ (HV_va.out.below (by first | (with_reducible exact Below.refl _ _) | go_grown)) (by omega) (by omega)).mono ?_
      rintro e w1 ⟨rfl, hb⟩
      have x0 := KH0.out.below hb
      have c0_0 : w1.cell? ⟨W.heap.size, 0, none⟩ = some (.int .i64 st) := x0.cell 0 rfl
      have c0_1 : w1.cell? ⟨W.heap.size, 1, none⟩ = some (.int .i64 bl) := x0.cell 1 rfl
      have c0_2 : w1.cell? ⟨W.heap.size, 2, none⟩ = some (va) := x0.cell 2 rfl
      have l0 := x0.lt
      clear x0 KH0
      have Q0 := Lib.hid l0
      have x1 := KH1.out.below hb
      have c1_0 : w1.cell? ⟨W.heap.size + 1, 0, none⟩ = some (.int .i64 tt) := x1.cell 0 rfl
      have c1_1 : w1.cell? ⟨W.heap.size + 1, 1, none⟩ = some (.int .i64 cl) := x1.cell 1 rfl
      have c1_2 : w1.cell? ⟨W.heap.size + 1, 2, none⟩ = some (vb) := x1.cell 2 rfl
      have l1 := x1.lt
      clear x1 KH1
      have Q1 := Lib.hid l1
      have old : Below W.heap.size W w1 := Below.trans (by first | exact Below.refl _ _ | go_grown) (hb.mono (by first | (with_reducible exact Nat.le_refl _) | (with_reducible assumption) | (simp [go_sem]; done) | (simp [go_sem]; omega) | omega))
      have z_w1 := old.size
      clear hb
      go_wp2_with fail
      refine (szBarrel_fits vb qs tt cl _ _ (HV_vb.out.below (grown_again old (by first | (with_reducible exact Below.refl _ _) | go_grown))) (by omega) (by omega)).mono ?_
      rintro e w2 ⟨rfl, hb⟩
      have b_w2 : Below w1.heap.size w1 w2 := Below.trans (by first | (with_reducible exact Below.refl _ _) | go_grown) (hb.mono (by first | (with_reducible exact Nat.le_refl _) | (with_reducible assumption) | (simp [go_sem]; done) | (simp [go_sem]; omega) | omega))
      clear hb
      replace c0_0 := (b_w2.cell (p := ⟨W.heap.size, 0, none⟩) l0).trans c0_0
      replace c0_1 := (b_w2.cell (p := ⟨W.heap.size, 1, none⟩) l0).trans c0_1
      replace c0_2 := (b_w2.cell (p := ⟨W.heap.size, 2, none⟩) l0).trans c0_2
      replace l0 := Nat.lt_of_lt_of_le l0 b_w2.size
      replace c1_0 := (b_w2.cell (p := ⟨W.heap.size + 1, 0, none⟩) l1).trans c1_0
      replace c1_1 := (b_w2.cell (p := ⟨W.heap.size + 1, 1, none⟩) l1).trans c1_1
      replace c1_2 := (b_w2.cell (p := ⟨W.heap.size + 1, 2, none⟩) l1).trans c1_2
      replace l1 := Nat.lt_of_lt_of_le l1 b_w2.size
      replace old := grown_again old b_w2
      have z_w2 := b_w2.size
      clear b_w2
      go_upto_region 8 with (fail)
      go_cut [6] (fun a6 wr => a6 = .bool rb ∧ Below w2.heap.size w2 wr)
      case first =>
        have HSr := Lib.hid (fun (w' : World) (hb : Below w2.heap.size w2 w') => (⟨(hb.cell (p := ⟨W.heap.size, 0, none⟩) l0).trans c0_0, (hb.cell (p := ⟨W.heap.size, 1, none⟩) l0).trans c0_1, (hb.cell (p := ⟨W.heap.size, 2, none⟩) l0).trans c0_2, (hb.cell (p := ⟨W.heap.size + 1, 0, none⟩) l1).trans c1_0, (hb.cell (p := ⟨W.heap.size + 1, 1, none⟩) l1).trans c1_1, (hb.cell (p := ⟨W.heap.size + 1, 2, none⟩) l1).trans c1_2⟩ : w'.cell? ⟨W.heap.size, 0, none⟩ = some (.int .i64 st) ∧ w'.cell? ⟨W.heap.size, 1, none⟩ = some (.int .i64 bl) ∧ w'.cell? ⟨W.heap.size, 2, none⟩ = some (va) ∧ w'.cell? ⟨W.heap.size + 1, 0, none⟩ = some (.int .i64 tt) ∧ w'.cell? ⟨W.heap.size + 1, 1, none⟩ = some (.int .i64 cl) ∧ w'.cell? ⟨W.heap.size + 1, 2, none⟩ = some (vb)))
        have b_w2 := Below.refl w2.heap.size w2
        go_region_held3 (fun w' => w'.cell? ⟨W.heap.size, 0, none⟩ = some (.int .i64 st) ∧ w'.cell? ⟨W.heap.size, 1, none⟩ = some (.int .i64 bl) ∧ w'.cell? ⟨W.heap.size, 2, none⟩ = some (va) ∧ w'.cell? ⟨W.heap.size + 1, 0, none⟩ = some (.int .i64 tt) ∧ w'.cell? ⟨W.heap.size + 1, 1, none⟩ = some (.int .i64 cl) ∧ w'.cell? ⟨W.heap.size + 1, 2, none⟩ = some (vb)) (first | assumption | exact HSr.out _ (by go_grown) | go_keep)
          (first
            | (go_at_call 26; with_reducible show Calls _ _ #[.agg #[.int .i64 st, .int .i64 bl, va]] _ _; refine (toBarrel_any va ps st bl _ (HV_va.out.below (grown_again old (by first | (with_reducible exact Below.refl _ _) | go_grown))) hl_ps).mono ?_; rintro e w3 ⟨uw3, rfl, o_uw3, hb⟩; have b_w3 : Below w2.heap.size w2 w3 := Below.trans (grown_again b_w2 (by first | (with_reducible exact Below.refl _ _) | go_grown)) (hb.mono (by first | (with_reducible exact Nat.le_refl _) | (with_reducible assumption) | (simp [go_sem]; done) | (simp [go_sem]; omega) | omega)); have y_w3 := b_w3.size; (try (have a_w3_w2 : w2.heap.size < w3.heap.size := Nat.lt_of_lt_of_le (by first | assumption | (simp [go_sem]; done) | (simp only [go_sem]; omega) | (simp [go_sem]; omega)) hb.size)); obtain ⟨hc_w3, hf_w3⟩ := bcell hb; have s_uw3 := SlP.of_own o_uw3; clear o_uw3; have S_w3 := HSr.out _ b_w3; clear hb)
            | (go_at_call 26; with_reducible show Calls _ _ #[.agg #[.int .i64 tt, .int .i64 cl, vb]] _ _; refine (toBarrel_any vb qs tt cl _ (HV_vb.out.below (grown_again old (by first | (with_reducible exact Below.refl _ _) | go_grown))) hl_qs).mono ?_; rintro e w4 ⟨uw4, rfl, o_uw4, hb⟩; have b_w4 : Below w2.heap.size w2 w4 := Below.trans (grown_again b_w3 (by first | (with_reducible exact Below.refl _ _) | go_grown)) (hb.mono (by first | (with_reducible exact Nat.le_refl _) | (with_reducible assumption) | (simp [go_sem]; done) | (simp [go_sem]; omega) | omega)); have y_w4 := b_w4.size; (try (have a_w4_w3 : w3.heap.size < w4.heap.size := Nat.lt_of_lt_of_le (by first | assumption | (simp [go_sem]; done) | (simp only [go_sem]; omega) | (simp [go_sem]; omega)) hb.size)); (try (have a_w4_w2 : w2.heap.size < w4.heap.size := Nat.lt_of_lt_of_le (by first | assumption | (simp [go_sem]; done) | (simp only [go_sem]; omega) | (simp [go_sem]; omega)) hb.size)); obtain ⟨hc_w4, hf_w4⟩ := bcell hb; have s_uw4 := SlP.of_own o_uw4; clear o_uw4; replace s_uw3 := (s_uw3.below (by first | (with_reducible exact Below.refl _ _) | go_grown)).below hb; have S_w4 := HSr.out _ b_w4; clear hb)
            | (go_at_call 25; refine (HS.out uw3 uw4 _ (s_uw3.below (by first | (with_reducible exact Below.refl _ _) | go_grown)) (s_uw4.below (by first | (with_reducible exact Below.refl _ _) | go_grown))).mono ?_; rintro e w5 ⟨rfl, hb⟩; have b_w5 : Below w2.heap.size w2 w5 := Below.trans (grown_again b_w4 (by first | (with_reducible exact Below.refl _ _) | go_grown)) (hb.mono (by first | (with_reducible exact Nat.le_refl _) | (with_reducible assumption) | (simp [go_sem]; done) | (simp [go_sem]; omega) | omega)); have y_w5 := b_w5.size; (try (have a_w5_w3 : w3.heap.size < w5.heap.size := Nat.lt_of_lt_of_le (by first | assumption | (simp [go_sem]; done) | (simp only [go_sem]; omega) | (simp [go_sem]; omega)) hb.size)); (try (have a_w5_w4 : w4.heap.size < w5.heap.size := Nat.lt_of_lt_of_le (by first | assumption | (simp [go_sem]; done) | (simp only [go_sem]; omega) | (simp [go_sem]; omega)) hb.size)); (try (have a_w5_w2 : w2.heap.size < w5.heap.size := Nat.lt_of_lt_of_le (by first | assumption | (simp [go_sem]; done) | (simp only [go_sem]; omega) | (simp [go_sem]; omega)) hb.size)); obtain ⟨hc_w5, hf_w5⟩ := bcell hb; have S_w5 := HSr.out _ b_w5; clear hb))
        all_goals (go_wp2_with fail; go_meet)
        all_goals refine ⟨rfl, ?_⟩
        all_goals first
          | (with_reducible exact Nat.le_refl _) | (with_reducible assumption)
          | (go_grown; done)
          | (simp [go_sem, *]; done)
          | (have := b_w3.size; have := b_w4.size; have := b_w5.size; simp; omega)
      case rest =>
        obtain ⟨w6, rfl⟩ : ∃ x : World, x = wc := ⟨_, rfl⟩
        obtain ⟨rfl, hb⟩ := hcut
        replace c0_0 := (hb.cell (p := ⟨W.heap.size, 0, none⟩) l0).trans c0_0
        replace c0_1 := (hb.cell (p := ⟨W.heap.size, 1, none⟩) l0).trans c0_1
        replace c0_2 := (hb.cell (p := ⟨W.heap.size, 2, none⟩) l0).trans c0_2
        replace l0 := Nat.lt_of_lt_of_le l0 hb.size
        replace c1_0 := (hb.cell (p := ⟨W.heap.size + 1, 0, none⟩) l1).trans c1_0
        replace c1_1 := (hb.cell (p := ⟨W.heap.size + 1, 1, none⟩) l1).trans c1_1
        replace c1_2 := (hb.cell (p := ⟨W.heap.size + 1, 2, none⟩) l1).trans c1_2
        replace l1 := Nat.lt_of_lt_of_le l1 hb.size
        replace old := grown_again old hb
        have z_w6 := hb.size
        clear hb
        go_upto_region 9 with (fail)
        go_cut [7] (fun a7 wr => ∃ (gx0_0 : Nat) (vx0 : Value), a7 = .pointer (some ⟨gx0_0, 0, none⟩) ∧ (w6.heap.size ≤ gx0_0 ∧ gx0_0 < wr.heap.size) ∧ wr.cell? ⟨gx0_0, 0, none⟩ = some (.int .i64 st) ∧ wr.cell? ⟨gx0_0, 1, none⟩ = some (.int .i64 bl) ∧ wr.cell? ⟨gx0_0, 2, none⟩ = some (vx0) ∧ wr.ownsRow w6.heap.size 67 2 vx0 ps.length (P64 ps) ∧ some gx0_0 ≠ vx0.ownBlock ∧ Below w6.heap.size w6 wr)
        case first =>
          have b_w6 := Below.refl w6.heap.size w6
          go_wp2_with fail
          refine (toBarrel_any va ps st bl _ (HV_va.out.below (grown_again old (by first | (with_reducible exact Below.refl _ _) | go_grown))) hl_ps).mono ?_
          rintro e w7 ⟨vx0, rfl, o_vx0, hb⟩
          obtain ⟨A_vx0, C_vx0, rfl⟩ := own_form o_vx0
          have b_w7 : Below w6.heap.size w6 w7 := Below.trans (grown_again b_w6 (by first | (with_reducible exact Below.refl _ _) | go_grown)) (hb.mono (by first | (with_reducible exact Nat.le_refl _) | (with_reducible assumption) | (simp [go_sem]; done) | (simp [go_sem]; omega) | omega))
          have y_w7 := b_w7.size
          (try (have a_w7_w6 : w6.heap.size < w7.heap.size := Nat.lt_of_lt_of_le (by first | assumption | (simp [go_sem]; done) | (simp only [go_sem]; omega) | (simp [go_sem]; omega)) hb.size))
          obtain ⟨hc_w7, hf_w7⟩ := bcell hb
          clear hb
          all_goals (go_wp2_with fail; go_meet)
          all_goals refine ⟨_, .slice A_vx0 ps.length C_vx0, rfl, ⟨?_, ?_⟩, ?_, ?_, ?_, ?_, ?_, ?_⟩
          all_goals first
            | (with_reducible exact Nat.le_refl _) | (with_reducible assumption)
            | (go_grown; done)
            | (simp [go_sem, *]; done)
            | ((repeat' first | exact own_mono o_vx0 (by first | (with_reducible exact Nat.le_refl _) | (with_reducible assumption) | (simp [go_sem]; done) | (simp [go_sem]; omega) | omega) | refine own_far ?_ ?_ _ | refine World.ownsRow.alloc ?_ _); all_goals (exact own_ne o_vx0 (Or.inl (by first | assumption | (simp; done) | omega))); done)
            | exact own_ne o_vx0 (Or.inr (by first | (with_reducible exact Nat.le_refl _) | (with_reducible assumption) | (simp [go_sem]; done) | (simp [go_sem]; omega) | omega)) | exact own_ne o_vx0 (Or.inl (by first | (with_reducible exact Nat.le_refl _) | (with_reducible assumption) | (simp [go_sem]; done) | (simp [go_sem]; omega) | omega))
            | (have := b_w7.size; simp; omega)
        case rest =>
          obtain ⟨w8, rfl⟩ : ∃ x : World, x = wc := ⟨_, rfl⟩
          obtain ⟨gx0_0, vx0, rfl, ⟨rgx0_0, l2⟩, c2_0, c2_1, c2_2, o_vx0, m_gx0_0_vx0, hb⟩ := hcut
          have Q2 : Hid (w6.heap.size ≤ gx0_0 ∧ gx0_0 < w8.heap.size) := ⟨rgx0_0, l2⟩
          have R_vx0 := Lib.hid (rng_of o_vx0 (Nat.le_refl w6.heap.size))
          have E2_vx0 := Lib.hid m_gx0_0_vx0
          clear m_gx0_0_vx0
          clear rgx0_0
          replace c0_0 := (hb.cell (p := ⟨W.heap.size, 0, none⟩) l0).trans c0_0
          replace c0_1 := (hb.cell (p := ⟨W.heap.size, 1, none⟩) l0).trans c0_1
          replace c0_2 := (hb.cell (p := ⟨W.heap.size, 2, none⟩) l0).trans c0_2
          replace l0 := Nat.lt_of_lt_of_le l0 hb.size
          replace c1_0 := (hb.cell (p := ⟨W.heap.size + 1, 0, none⟩) l1).trans c1_0
          replace c1_1 := (hb.cell (p := ⟨W.heap.size + 1, 1, none⟩) l1).trans c1_1
          replace c1_2 := (hb.cell (p := ⟨W.heap.size + 1, 2, none⟩) l1).trans c1_2
          replace l1 := Nat.lt_of_lt_of_le l1 hb.size
          replace old := grown_again old hb
          have z_w8 := hb.size
          clear hb
          go_upto_region 10 with (fail)
          go_cut [8] (fun a8 wr => ∃ (gx1_0 : Nat) (vx1 : Value), a8 = .pointer (some ⟨gx1_0, 0, none⟩) ∧ (w8.heap.size ≤ gx1_0 ∧ gx1_0 < wr.heap.size) ∧ wr.cell? ⟨gx1_0, 0, none⟩ = some (.int .i64 tt) ∧ wr.cell? ⟨gx1_0, 1, none⟩ = some (.int .i64 cl) ∧ wr.cell? ⟨gx1_0, 2, none⟩ = some (vx1) ∧ wr.ownsRow w8.heap.size 67 2 vx1 qs.length (P64 qs) ∧ some gx1_0 ≠ vx1.ownBlock ∧ Below w8.heap.size w8 wr)
          case first =>
            have b_w8 := Below.refl w8.heap.size w8
            go_wp2_with fail
            refine (toBarrel_any vb qs tt cl _ (HV_vb.out.below (grown_again old (by first | (with_reducible exact Below.refl _ _) | go_grown))) hl_qs).mono ?_
            rintro e w9 ⟨vx1, rfl, o_vx1, hb⟩
            obtain ⟨A_vx1, C_vx1, rfl⟩ := own_form o_vx1
            have b_w9 : Below w8.heap.size w8 w9 := Below.trans (grown_again b_w8 (by first | (with_reducible exact Below.refl _ _) | go_grown)) (hb.mono (by first | (with_reducible exact Nat.le_refl _) | (with_reducible assumption) | (simp [go_sem]; done) | (simp [go_sem]; omega) | omega))
            have y_w9 := b_w9.size
            (try (have a_w9_w8 : w8.heap.size < w9.heap.size := Nat.lt_of_lt_of_le (by first | assumption | (simp [go_sem]; done) | (simp only [go_sem]; omega) | (simp [go_sem]; omega)) hb.size))
            obtain ⟨hc_w9, hf_w9⟩ := bcell hb
            clear hb
            all_goals (go_wp2_with fail; go_meet)
            all_goals refine ⟨_, .slice A_vx1 qs.length C_vx1, rfl, ⟨?_, ?_⟩, ?_, ?_, ?_, ?_, ?_, ?_⟩
            all_goals first
              | (with_reducible exact Nat.le_refl _) | (with_reducible assumption)
              | (go_grown; done)
              | (simp [go_sem, *]; done)
              | ((repeat' first | exact own_mono o_vx1 (by first | (with_reducible exact Nat.le_refl _) | (with_reducible assumption) | (simp [go_sem]; done) | (simp [go_sem]; omega) | omega) | refine own_far ?_ ?_ _ | refine World.ownsRow.alloc ?_ _); all_goals (exact own_ne o_vx1 (Or.inl (by first | assumption | (simp; done) | omega))); done)
              | exact own_ne o_vx1 (Or.inr (by first | (with_reducible exact Nat.le_refl _) | (with_reducible assumption) | (simp [go_sem]; done) | (simp [go_sem]; omega) | omega)) | exact own_ne o_vx1 (Or.inl (by first | (with_reducible exact Nat.le_refl _) | (with_reducible assumption) | (simp [go_sem]; done) | (simp [go_sem]; omega) | omega))
              | (have := b_w9.size; simp; omega)
          case rest =>
            obtain ⟨w10, rfl⟩ : ∃ x : World, x = wc := ⟨_, rfl⟩
            obtain ⟨gx1_0, vx1, rfl, ⟨rgx1_0, l3⟩, c3_0, c3_1, c3_2, o_vx1, m_gx1_0_vx1, hb⟩ := hcut
            have Q3 : Hid (w8.heap.size ≤ gx1_0 ∧ gx1_0 < w10.heap.size) := ⟨rgx1_0, l3⟩
            have R_vx1 := Lib.hid (rng_of o_vx1 (Nat.le_refl w8.heap.size))
            have E3_vx1 := Lib.hid m_gx1_0_vx1
            clear m_gx1_0_vx1
            clear rgx1_0
            replace c0_0 := (hb.cell (p := ⟨W.heap.size, 0, none⟩) l0).trans c0_0
            replace c0_1 := (hb.cell (p := ⟨W.heap.size, 1, none⟩) l0).trans c0_1
            replace c0_2 := (hb.cell (p := ⟨W.heap.size, 2, none⟩) l0).trans c0_2
            replace l0 := Nat.lt_of_lt_of_le l0 hb.size
            replace c1_0 := (hb.cell (p := ⟨W.heap.size + 1, 0, none⟩) l1).trans c1_0
            replace c1_1 := (hb.cell (p := ⟨W.heap.size + 1, 1, none⟩) l1).trans c1_1
            replace c1_2 := (hb.cell (p := ⟨W.heap.size + 1, 2, none⟩) l1).trans c1_2
            replace l1 := Nat.lt_of_lt_of_le l1 hb.size
            replace c2_0 := (hb.cell (p := ⟨gx0_0, 0, none⟩) l2).trans c2_0
            replace c2_1 := (hb.cell (p := ⟨gx0_0, 1, none⟩) l2).trans c2_1
            replace c2_2 := (hb.cell (p := ⟨gx0_0, 2, none⟩) l2).trans c2_2
            replace l2 := Nat.lt_of_lt_of_le l2 hb.size
            replace o_vx0 := own_below o_vx0 hb
            replace old := grown_again old hb
            have z_w10 := hb.size
            clear hb
            go_upto_region 11 with (fail)
            go_cut [9] (fun a9 wr => a9 = .bool rb ∧ Below w10.heap.size w10 wr)
            case first =>
              have b_w10 := Below.refl w10.heap.size w10
              go_wp2_with fail
              refine (HI.out vx0 vx1 _ ((SlP.of_own o_vx0).below (grown_again b_w10 (by first | (with_reducible exact Below.refl _ _) | go_grown))) ((SlP.of_own o_vx1).below (grown_again b_w10 (by first | (with_reducible exact Below.refl _ _) | go_grown)))).mono ?_
              rintro e w11 ⟨rfl, hb⟩
              have b_w11 : Below w10.heap.size w10 w11 := Below.trans (grown_again b_w10 (by first | (with_reducible exact Below.refl _ _) | go_grown)) (hb.mono (by first | (with_reducible exact Nat.le_refl _) | (with_reducible assumption) | (simp [go_sem]; done) | (simp [go_sem]; omega) | omega))
              have y_w11 := b_w11.size
              (try (have a_w11_w10 : w10.heap.size < w11.heap.size := Nat.lt_of_lt_of_le (by first | assumption | (simp [go_sem]; done) | (simp only [go_sem]; omega) | (simp [go_sem]; omega)) hb.size))
              obtain ⟨hc_w11, hf_w11⟩ := bcell hb
              clear hb
              all_goals (go_wp2_with fail; go_meet)
              all_goals refine ⟨rfl, ?_⟩
              all_goals first
                | (with_reducible exact Nat.le_refl _) | (with_reducible assumption)
                | (go_grown; done)
                | (simp [go_sem, *]; done)
                | (have := b_w11.size; simp; omega)
            case rest =>
              obtain ⟨w12, rfl⟩ : ∃ x : World, x = wc := ⟨_, rfl⟩
              obtain ⟨rfl, hb⟩ := hcut
              replace c0_0 := (hb.cell (p := ⟨W.heap.size, 0, none⟩) l0).trans c0_0
              replace c0_1 := (hb.cell (p := ⟨W.heap.size, 1, none⟩) l0).trans c0_1
              replace c0_2 := (hb.cell (p := ⟨W.heap.size, 2, none⟩) l0).trans c0_2
              replace l0 := Nat.lt_of_lt_of_le l0 hb.size
              replace c1_0 := (hb.cell (p := ⟨W.heap.size + 1, 0, none⟩) l1).trans c1_0
              replace c1_1 := (hb.cell (p := ⟨W.heap.size + 1, 1, none⟩) l1).trans c1_1
              replace c1_2 := (hb.cell (p := ⟨W.heap.size + 1, 2, none⟩) l1).trans c1_2
              replace l1 := Nat.lt_of_lt_of_le l1 hb.size
              replace c2_0 := (hb.cell (p := ⟨gx0_0, 0, none⟩) l2).trans c2_0
              replace c2_1 := (hb.cell (p := ⟨gx0_0, 1, none⟩) l2).trans c2_1
              replace c2_2 := (hb.cell (p := ⟨gx0_0, 2, none⟩) l2).trans c2_2
              replace l2 := Nat.lt_of_lt_of_le l2 hb.size
              replace c3_0 := (hb.cell (p := ⟨gx1_0, 0, none⟩) l3).trans c3_0
              replace c3_1 := (hb.cell (p := ⟨gx1_0, 1, none⟩) l3).trans c3_1
              replace c3_2 := (hb.cell (p := ⟨gx1_0, 2, none⟩) l3).trans c3_2
              replace l3 := Nat.lt_of_lt_of_le l3 hb.size
              replace o_vx0 := own_below o_vx0 hb
              replace o_vx1 := own_below o_vx1 hb
              replace old := grown_again old hb
              have z_w12 := hb.size
              clear hb
              go_upto_region 14 with (fail)
              have HSr := Lib.hid (fun (w' : World) (hb : Below w12.heap.size w12 w') => (⟨(hb.cell (p := ⟨gx0_0, 0, none⟩) l2).trans c2_0, (hb.cell (p := ⟨gx0_0, 1, none⟩) l2).trans c2_1, (hb.cell (p := ⟨gx0_0, 2, none⟩) l2).trans c2_2, (hb.cell (p := ⟨W.heap.size, 0, none⟩) l0).trans c0_0, (hb.cell (p := ⟨W.heap.size, 1, none⟩) l0).trans c0_1, (hb.cell (p := ⟨W.heap.size, 2, none⟩) l0).trans c0_2⟩ : w'.cell? ⟨gx0_0, 0, none⟩ = some (.int .i64 st) ∧ w'.cell? ⟨gx0_0, 1, none⟩ = some (.int .i64 bl) ∧ w'.cell? ⟨gx0_0, 2, none⟩ = some (vx0) ∧ w'.cell? ⟨W.heap.size, 0, none⟩ = some (.int .i64 st) ∧ w'.cell? ⟨W.heap.size, 1, none⟩ = some (.int .i64 bl) ∧ w'.cell? ⟨W.heap.size, 2, none⟩ = some (va)))
              go_region_held3 (fun w' => w'.cell? ⟨gx0_0, 0, none⟩ = some (.int .i64 st) ∧ w'.cell? ⟨gx0_0, 1, none⟩ = some (.int .i64 bl) ∧ w'.cell? ⟨gx0_0, 2, none⟩ = some (vx0) ∧ w'.cell? ⟨W.heap.size, 0, none⟩ = some (.int .i64 st) ∧ w'.cell? ⟨W.heap.size, 1, none⟩ = some (.int .i64 bl) ∧ w'.cell? ⟨W.heap.size, 2, none⟩ = some (va)) (first | assumption | exact HSr.out _ (by go_grown) | go_keep)
                (first
                  | (go_at_call 26; refine (toBarrel_any va ps st bl _ (HV_va.out.below (grown_again old (by first | (with_reducible exact Below.refl _ _) | go_grown))) hl_ps).mono ?_; rintro e w13 ⟨uw13, rfl, o_uw13, hb⟩; have b_w13 : Below w12.heap.size w12 w13 := Below.trans (by first | (with_reducible exact Below.refl _ _) | go_grown) (hb.mono (by first | (with_reducible exact Nat.le_refl _) | (with_reducible assumption) | (simp [go_sem]; done) | (simp [go_sem]; omega) | omega)); have y_w13 := b_w13.size; have S_w13 := HSr.out _ b_w13; have s_uw13 := SlP.of_own o_uw13; clear o_uw13; clear hb)
                  | (go_at_call 28; refine (eqBarrel_true vx0 uw13 ps st bl _ ((SlP.of_own o_vx0).below (grown_again b_w13 (by first | (with_reducible exact Below.refl _ _) | go_grown))) (s_uw13.below (by first | (with_reducible exact Below.refl _ _) | go_grown))).mono ?_; rintro e w14 ⟨rfl, hb⟩; have b_w14 : Below w12.heap.size w12 w14 := Below.trans (grown_again b_w13 (by first | (with_reducible exact Below.refl _ _) | go_grown)) (hb.mono (by first | (with_reducible exact Nat.le_refl _) | (with_reducible assumption) | (simp [go_sem]; done) | (simp [go_sem]; omega) | omega)); have S_w14 := HSr.out _ b_w14; clear hb))
              clear HSr S_w13 S_w14 s_uw13
              replace c0_0 := (b_w14.cell (p := ⟨W.heap.size, 0, none⟩) l0).trans c0_0
              replace c0_1 := (b_w14.cell (p := ⟨W.heap.size, 1, none⟩) l0).trans c0_1
              replace c0_2 := (b_w14.cell (p := ⟨W.heap.size, 2, none⟩) l0).trans c0_2
              replace l0 := Nat.lt_of_lt_of_le l0 b_w14.size
              replace c1_0 := (b_w14.cell (p := ⟨W.heap.size + 1, 0, none⟩) l1).trans c1_0
              replace c1_1 := (b_w14.cell (p := ⟨W.heap.size + 1, 1, none⟩) l1).trans c1_1
              replace c1_2 := (b_w14.cell (p := ⟨W.heap.size + 1, 2, none⟩) l1).trans c1_2
              replace l1 := Nat.lt_of_lt_of_le l1 b_w14.size
              replace c2_0 := (b_w14.cell (p := ⟨gx0_0, 0, none⟩) l2).trans c2_0
              replace c2_1 := (b_w14.cell (p := ⟨gx0_0, 1, none⟩) l2).trans c2_1
              replace c2_2 := (b_w14.cell (p := ⟨gx0_0, 2, none⟩) l2).trans c2_2
              replace l2 := Nat.lt_of_lt_of_le l2 b_w14.size
              replace c3_0 := (b_w14.cell (p := ⟨gx1_0, 0, none⟩) l3).trans c3_0
              replace c3_1 := (b_w14.cell (p := ⟨gx1_0, 1, none⟩) l3).trans c3_1
              replace c3_2 := (b_w14.cell (p := ⟨gx1_0, 2, none⟩) l3).trans c3_2
              replace l3 := Nat.lt_of_lt_of_le l3 b_w14.size
              replace o_vx0 := own_below o_vx0 b_w14
              replace o_vx1 := own_below o_vx1 b_w14
              replace old := grown_again old b_w14
              have z_w14 := b_w14.size
              clear b_w13 b_w14
              go_upto_region 16 with (fail)
              have HSr := Lib.hid (fun (w' : World) (hb : Below w14.heap.size w14 w') => (⟨(hb.cell (p := ⟨gx1_0, 0, none⟩) l3).trans c3_0, (hb.cell (p := ⟨gx1_0, 1, none⟩) l3).trans c3_1, (hb.cell (p := ⟨gx1_0, 2, none⟩) l3).trans c3_2, (hb.cell (p := ⟨W.heap.size + 1, 0, none⟩) l1).trans c1_0, (hb.cell (p := ⟨W.heap.size + 1, 1, none⟩) l1).trans c1_1, (hb.cell (p := ⟨W.heap.size + 1, 2, none⟩) l1).trans c1_2⟩ : w'.cell? ⟨gx1_0, 0, none⟩ = some (.int .i64 tt) ∧ w'.cell? ⟨gx1_0, 1, none⟩ = some (.int .i64 cl) ∧ w'.cell? ⟨gx1_0, 2, none⟩ = some (vx1) ∧ w'.cell? ⟨W.heap.size + 1, 0, none⟩ = some (.int .i64 tt) ∧ w'.cell? ⟨W.heap.size + 1, 1, none⟩ = some (.int .i64 cl) ∧ w'.cell? ⟨W.heap.size + 1, 2, none⟩ = some (vb)))
              go_region_held3 (fun w' => w'.cell? ⟨gx1_0, 0, none⟩ = some (.int .i64 tt) ∧ w'.cell? ⟨gx1_0, 1, none⟩ = some (.int .i64 cl) ∧ w'.cell? ⟨gx1_0, 2, none⟩ = some (vx1) ∧ w'.cell? ⟨W.heap.size + 1, 0, none⟩ = some (.int .i64 tt) ∧ w'.cell? ⟨W.heap.size + 1, 1, none⟩ = some (.int .i64 cl) ∧ w'.cell? ⟨W.heap.size + 1, 2, none⟩ = some (vb)) (first | assumption | exact HSr.out _ (by go_grown) | go_keep)
                (first
                  | (go_at_call 26; refine (toBarrel_any vb qs tt cl _ (HV_vb.out.below (grown_again old (by first | (with_reducible exact Below.refl _ _) | go_grown))) hl_qs).mono ?_; rintro e w15 ⟨uw15, rfl, o_uw15, hb⟩; have b_w15 : Below w14.heap.size w14 w15 := Below.trans (by first | (with_reducible exact Below.refl _ _) | go_grown) (hb.mono (by first | (with_reducible exact Nat.le_refl _) | (with_reducible assumption) | (simp [go_sem]; done) | (simp [go_sem]; omega) | omega)); have y_w15 := b_w15.size; have S_w15 := HSr.out _ b_w15; have s_uw15 := SlP.of_own o_uw15; clear o_uw15; clear hb)
                  | (go_at_call 28; refine (eqBarrel_true vx1 uw15 qs tt cl _ ((SlP.of_own o_vx1).below (grown_again b_w15 (by first | (with_reducible exact Below.refl _ _) | go_grown))) (s_uw15.below (by first | (with_reducible exact Below.refl _ _) | go_grown))).mono ?_; rintro e w16 ⟨rfl, hb⟩; have b_w16 : Below w14.heap.size w14 w16 := Below.trans (grown_again b_w15 (by first | (with_reducible exact Below.refl _ _) | go_grown)) (hb.mono (by first | (with_reducible exact Nat.le_refl _) | (with_reducible assumption) | (simp [go_sem]; done) | (simp [go_sem]; omega) | omega)); have S_w16 := HSr.out _ b_w16; clear hb))
              clear HSr S_w15 S_w16 s_uw15
              replace c0_0 := (b_w16.cell (p := ⟨W.heap.size, 0, none⟩) l0).trans c0_0
              replace c0_1 := (b_w16.cell (p := ⟨W.heap.size, 1, none⟩) l0).trans c0_1
              replace c0_2 := (b_w16.cell (p := ⟨W.heap.size, 2, none⟩) l0).trans c0_2
              replace l0 := Nat.lt_of_lt_of_le l0 b_w16.size
              replace c1_0 := (b_w16.cell (p := ⟨W.heap.size + 1, 0, none⟩) l1).trans c1_0
              replace c1_1 := (b_w16.cell (p := ⟨W.heap.size + 1, 1, none⟩) l1).trans c1_1
              replace c1_2 := (b_w16.cell (p := ⟨W.heap.size + 1, 2, none⟩) l1).trans c1_2
              replace l1 := Nat.lt_of_lt_of_le l1 b_w16.size
              replace c2_0 := (b_w16.cell (p := ⟨gx0_0, 0, none⟩) l2).trans c2_0
              replace c2_1 := (b_w16.cell (p := ⟨gx0_0, 1, none⟩) l2).trans c2_1
              replace c2_2 := (b_w16.cell (p := ⟨gx0_0, 2, none⟩) l2).trans c2_2
              replace l2 := Nat.lt_of_lt_of_le l2 b_w16.size
              replace c3_0 := (b_w16.cell (p := ⟨gx1_0, 0, none⟩) l3).trans c3_0
              replace c3_1 := (b_w16.cell (p := ⟨gx1_0, 1, none⟩) l3).trans c3_1
              replace c3_2 := (b_w16.cell (p := ⟨gx1_0, 2, none⟩) l3).trans c3_2
              replace l3 := Nat.lt_of_lt_of_le l3 b_w16.size
              replace o_vx0 := own_below o_vx0 b_w16
              replace o_vx1 := own_below o_vx1 b_w16
              replace old := grown_again old b_w16
              have z_w16 := b_w16.size
              clear b_w15 b_w16
              go_wp2
              go_ret
              exact ⟨rfl, old⟩
    · go_enter Try.func7, Try.ntmps7
      have kk := bx2 W 38 38 #[.int .i64 st, .int .i64 bl, va] #[.int .i64 tt, .int .i64 cl, vb]
      obtain ⟨k0, k1⟩ := kk
      have KH0 := Lib.hid k0
      have KH1 := Lib.hid k1
      clear k0 k1
      go_wp2_with fail
      refine (szBarrel_fits va ps st bl _ _ (HV_va.out.below (by first | (with_reducible exact Below.refl _ _) | go_grown)) (by omega) (by omega)).mono ?_
      rintro e w1 ⟨rfl, hb⟩
      have x0 := KH0.out.below hb
      have c0_0 := x0.cell 0 rfl
      have c0_1 := x0.cell 1 rfl
      have c0_2 := x0.cell 2 rfl
      have l0 := x0.lt
      clear x0 KH0
      have x1 := KH1.out.below hb
      have c1_0 := x1.cell 0 rfl
      have c1_1 := x1.cell 1 rfl
      have c1_2 := x1.cell 2 rfl
      have l1 := x1.lt
      clear x1 KH1
      have old : Below W.heap.size W w1 := Below.trans (by first | exact Below.refl _ _ | go_grown) (hb.mono (by first | (with_reducible exact Nat.le_refl _) | (with_reducible assumption) | (simp [go_sem]; done) | (simp [go_sem]; omega) | omega))
      have z1 := old.size
      clear hb
      go_wp2_with fail
      refine (szBarrel_big vb qs tt cl _ _ (HV_vb.out.below (grown_again old (by first | (with_reducible exact Below.refl _ _) | go_grown))) (by omega) (by omega)).mono ?_
      rintro e w2 ⟨rfl, hb⟩
      go_wp2
      go_ret
      exact ⟨rfl, Below.trans (by first | exact old | exact grown_again old (by go_grown)) (hb.mono (by first | (with_reducible exact Nat.le_refl _) | (with_reducible assumption) | (simp [go_sem]; done) | (simp [go_sem]; omega) | omega))⟩
  · go_enter Try.func7, Try.ntmps7
    go_wp2_with fail
    refine (szBarrel_big va ps st bl _ _ (HV_va.out.below (by first | (with_reducible exact Below.refl _ _) | go_grown)) (by omega) (by omega)).mono ?_
    rintro e w1 ⟨rfl, hb⟩
    go_wp2
    go_ret
    exact ⟨rfl, Below.trans (by first | exact Below.refl _ _ | go_grown) (hb.mono (by first | (with_reducible exact Nat.le_refl _) | (with_reducible assumption) | (simp [go_sem]; done) | (simp [go_sem]; omega) | omega))⟩

set_option maxRecDepth 100000 in
theorem fnExactSameBarrel_lifted (os : Os) (started : os.Started) (H : Type) (enc : TypeId × Value → H) :
    ReturnsInHanded {} Try.checked os 7 .any (Rows.fnExactSameBarrelSpec.pre6 enc Try.prog Try.f7 Rows.fnExactSameBarrelRow.domain false) (Rows.fnExactSameBarrelSpec.post enc Try.prog Try.f7 false true false false) := by
  refine returnsInHanded_of_change (C := Try.checked) Try.own started (by kernel_rfl) Try.func7
    (ChangeSpec.witness6 (enc := enc) (C := Try.checked) false ⟨#[], #[.agg #[.int .i64 0, .int .i64 0, .slice none 0 0], .agg #[.int .i64 0, .int .i64 0, .slice none 0 0]], []⟩ 8 (by kernel_rfl) (by kernel_rfl) (by kernel_rfl) (by kernel_rfl)) ?_
  intro W base args ds gs before hval0 hW hcnd _
  have hval : ∀ (j : Nat) t v, Try.f7.params[j]? = some t → args[j]? = some v → Value.okWide Try.prog W .any base t v := hval0
  have hW' := hW
  have hltB : ∀ x ∈ before, x.block < W.heap.size := fun x hx => hW.lt x hx
  obtain ⟨p, q, hA0, hV, rfl, hfz, hnd⟩ := hW
  have hA : DataW.TrodAll enc Try.prog W 0 (fun _ => true) true Try.f7.params.toList args.toList ds p := hA0
  rw [Try.params7] at hA hval
  obtain ⟨v0, vs0, d0, ds0, p0, q0, hargs, rfl, rfl, h0, r0⟩ := trodAll_cons hA
  obtain ⟨v1, vs1, d1, ds1, p1, q1, rfl, rfl, rfl, h1, r1⟩ := trodAll_cons r0
  obtain ⟨rfl, rfl, rfl⟩ := trodAll_nil r1
  obtain rfl : args = #[v0, v1] := by cases args; simp_all
  clear hA0 hval0 hA hcnd hfz hnd
  have hlt0 : ∀ x ∈ p0, x.block < W.heap.size := fun x hx => hltB x (by simp [hx])
  have hlt1 : ∀ x ∈ p1, x.block < W.heap.size := fun x hx => hltB x (by simp [hx])
  obtain ⟨u0_0, u0_1, u0_2, y0_0, y0_1, y0_2, m0, rfl, rfl, rfl, g0_0, g0_1, g0_2⟩ := Joins.open_agg3 Try.underlying38 (by kernel_rfl) (by kernel_rfl) (hval 0 38 v0 rfl rfl) h0
  obtain ⟨st, rfl, bst⟩ := trod_i64 Try.underlying2 g0_0
  obtain ⟨bl, rfl, bbl⟩ := trod_i64 Try.underlying2 g0_1
  obtain ⟨ps, hps, bps⟩ := trod_pairs Try.underlying36 Try.underlying80 (by kernel_rfl) (by kernel_rfl) Try.underlying2 Try.underlying2 g0_2 (fun x hx => hlt0 x (by simp [hx]))
  obtain ⟨u1_0, u1_1, u1_2, y1_0, y1_1, y1_2, m1, rfl, rfl, rfl, g1_0, g1_1, g1_2⟩ := Joins.open_agg3 Try.underlying38 (by kernel_rfl) (by kernel_rfl) (hval 1 38 v1 rfl rfl) h1
  obtain ⟨tt, rfl, btt⟩ := trod_i64 Try.underlying2 g1_0
  obtain ⟨cl, rfl, bcl⟩ := trod_i64 Try.underlying2 g1_1
  obtain ⟨qs, hqs, bqs⟩ := trod_pairs Try.underlying36 Try.underlying80 (by kernel_rfl) (by kernel_rfl) Try.underlying2 Try.underlying2 g1_2 (fun x hx => hlt1 x (by simp [hx]))
  refine (exactSameBarrel_walk _ ps _ qs st bl tt cl W hps hqs).mono fun e W' ⟨he, hb⟩ => ?_
  subst he
  exact ⟨_, rfl, post_law Try.laidOut hW' rfl rfl (by kernel_rfl) (by kernel_rfl) Try.underlying4 hb⟩

set_option maxHeartbeats 2000000 in
theorem fnExactSameBarrel_facts : joinedFacts Try.prog 7 Try.f7 Rows.fnExactSameBarrelSpec Rows.fnExactSameBarrelRow = true := by
  unfold joinedFacts
  simp only [Bool.and_eq_true]
  repeat' apply And.intro
  all_goals first | with_reducible exact Try.laidOut | with_reducible exact Try.g2 | with_reducible exact Try.g24 | with_reducible exact Try.g25 | (rw [Try.g26]; rfl) | (rw [Try.g27]; rfl) | as_aux_lemma => kernel_rfl
/-- The statement. -/
theorem fnExactSameBarrel_holds : Rows.FnExactSameBarrelSaid :=
  OpenClaim.holds_of_wide 7 Try.f7 rfl rfl rfl rfl rfl rfl rfl ⟨rfl, rfl, rfl, rfl, rfl⟩ rfl rfl rfl rfl rfl (by as_aux_lemma => kernel_rfl) Try.func7 fnExactSameBarrel_facts
    (by as_aux_lemma => exact of_decide_eq_true (by kernel_rfl)) (by as_aux_lemma => unfold Func.isWrapper; rw [if_neg (of_decide_eq_false (by kernel_rfl))]; exact ⟨rfl, rfl⟩)
    (fun os started H enc _ => fnExactSameBarrel_lifted os started H enc)
#print axioms fnExactSameBarrel_holds
end Go.Proofs.Ytmjpjechmojkeaa
