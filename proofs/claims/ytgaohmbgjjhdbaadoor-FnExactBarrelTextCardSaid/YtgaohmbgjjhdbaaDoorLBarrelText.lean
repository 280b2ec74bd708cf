/- FnExactBarrelText is proved: for every barrel the program's BarrelText and the reference's return the same text, and the barrel is not changed. No condition. -/
import Derived.Test.YtgaohmbgjjhdbaaDoorTtC
import Derived.Test.YtgaohmbgjjhdbaaDoorStBarrel
import Derived.Test.YtgaohmbgjjhdbaaDoorRowF
import Derived.Test.YtgaohmbgjjhdbaaDoorBx
import Derived.Test.YtgaohmbgjjhdbaaDoorRow2
import Derived.Test.YtgaohmbgjjhdbaaDoorCards
import Derived.Test.YtgaohmbgjjhdbaaDoorTie
import Derived.OpenShut
import Derived.LaidMore
import Derived.Lay
import Derived.SevenTiedAt
import Derived.Stop.Joined
import Derived.ChangeMaps5
import Derived.Deep.RegionHeld3
import Derived.Deep.DeepCutAuto
namespace Go.Proofs.YtgaohmbgjjhdbaaDoor
open Go.ChangeShapes Go.WideShapes Go.ChangeAt Go.RowKit
attribute [local go_sem ↓] Go.wp_at_zero Go.wp_at_succ

set_option maxRecDepth 100000 in
set_option maxHeartbeats 16000000 in
theorem exactBarrelText_walk (v : Value) (ps : List (Int × Int)) (st bl : Int) (W : World) (hv_v : SlP W v ps) :
    Calls Tryd.prog 3 #[.agg #[.int .i64 st, .int .i64 bl, v]] W fun e W' => e = .returned (.bool true) ∧ Below W.heap.size W W' := by
  have HV_v := Lib.hid hv_v
  clear hv_v
  by_cases hl_ps : ps.length ≤ 1048576
  · skip
    obtain ⟨ra, HFI, HFS⟩ := BarrelText_both st bl ps
    have HI := Lib.hid HFI
    have HS := Lib.hid HFS
    clear HFI HFS
    go_enter Tryd.func3, Tryd.ntmps3
    have kk := bx1 W 24 #[.int .i64 st, .int .i64 bl, v]
    have k0 := kk
    have KH0 := Lib.hid k0
    clear kk k0
    go_wp2_with fail
    refine (szBarrel_fits v ps st bl _ _ (HV_v.out.below (by first | (with_reducible exact Below.refl _ _) | go_grown)) (by omega) (by omega)).mono ?_
    rintro e w1 ⟨rfl, hb⟩
    have x0 := KH0.out.below hb
    have c0_0 : w1.cell? ⟨W.heap.size, 0, none⟩ = some (.int .i64 st) := x0.cell 0 rfl
    have c0_1 : w1.cell? ⟨W.heap.size, 1, none⟩ = some (.int .i64 bl) := x0.cell 1 rfl
    have c0_2 : w1.cell? ⟨W.heap.size, 2, none⟩ = some (v) := x0.cell 2 rfl
    have l0 := x0.lt
    clear x0 KH0
    have Q0 := Lib.hid l0
    have old : Below W.heap.size W w1 := Below.trans (by first | exact Below.refl _ _ | go_grown) (hb.mono (by first | (with_reducible exact Nat.le_refl _) | (with_reducible assumption) | (simp [go_sem]; done) | (simp [go_sem]; omega) | omega))
    have z_w1 := old.size
    clear hb
    go_upto_region 5 with (fail)
    go_cut [4] (fun a4 wr => a4 = .string ra ∧ Below w1.heap.size w1 wr)
    case first =>
      have b_w1 := Below.refl w1.heap.size w1
      go_wp2_with fail
      refine (toBarrel_any v ps st bl _ (HV_v.out.below (grown_again old (by first | (with_reducible exact Below.refl _ _) | go_grown))) hl_ps).mono ?_
      rintro e w2 ⟨uw2, rfl, o_uw2, hb⟩
      have b_w2 : Below w1.heap.size w1 w2 := Below.trans (grown_again b_w1 (by first | (with_reducible exact Below.refl _ _) | go_grown)) (hb.mono (by first | (with_reducible exact Nat.le_refl _) | (with_reducible assumption) | (simp [go_sem]; done) | (simp [go_sem]; omega) | omega))
      have y_w2 := b_w2.size
      (try (have a_w2_w1 : w1.heap.size < w2.heap.size := Nat.lt_of_lt_of_le (by first | assumption | (simp [go_sem]; done) | (simp only [go_sem]; omega) | (simp [go_sem]; omega)) hb.size))
      obtain ⟨hc_w2, hf_w2⟩ := bcell hb
      have s_uw2 := SlP.of_own o_uw2
      clear o_uw2
      clear hb
      go_wp2_with fail
      refine (HS.out uw2 _ (s_uw2.below (by first | (with_reducible exact Below.refl _ _) | go_grown))).mono ?_
      rintro e w3 ⟨rfl, hb⟩
      have b_w3 : Below w1.heap.size w1 w3 := Below.trans (grown_again b_w2 (by first | (with_reducible exact Below.refl _ _) | go_grown)) (hb.mono (by first | (with_reducible exact Nat.le_refl _) | (with_reducible assumption) | (simp [go_sem]; done) | (simp [go_sem]; omega) | omega))
      have y_w3 := b_w3.size
      (try (have a_w3_w2 : w2.heap.size < w3.heap.size := Nat.lt_of_lt_of_le (by first | assumption | (simp [go_sem]; done) | (simp only [go_sem]; omega) | (simp [go_sem]; omega)) hb.size))
      (try (have a_w3_w1 : w1.heap.size < w3.heap.size := Nat.lt_of_lt_of_le (by first | assumption | (simp [go_sem]; done) | (simp only [go_sem]; omega) | (simp [go_sem]; omega)) hb.size))
      obtain ⟨hc_w3, hf_w3⟩ := bcell hb
      clear hb
      all_goals (go_wp2_with fail; go_meet)
      all_goals refine ⟨rfl, ?_⟩
      all_goals first
        | (with_reducible exact Nat.le_refl _) | (with_reducible assumption)
        | (go_grown; done)
        | (simp [go_sem, *]; done)
        | (have := b_w2.size; have := b_w3.size; simp; omega)
    case rest =>
      obtain ⟨w4, rfl⟩ : ∃ x : World, x = wc := ⟨_, rfl⟩
      obtain ⟨rfl, hb⟩ := hcut
      replace c0_0 := (hb.cell (p := ⟨W.heap.size, 0, none⟩) l0).trans c0_0
      replace c0_1 := (hb.cell (p := ⟨W.heap.size, 1, none⟩) l0).trans c0_1
      replace c0_2 := (hb.cell (p := ⟨W.heap.size, 2, none⟩) l0).trans c0_2
      replace l0 := Nat.lt_of_lt_of_le l0 hb.size
      replace old := grown_again old hb
      have z_w4 := hb.size
      clear hb
      go_upto_region 6 with (fail)
      go_cut [5] (fun a5 wr => ∃ (gx0_0 : Nat) (vx0 : Value), a5 = .pointer (some ⟨gx0_0, 0, none⟩) ∧ (w4.heap.size ≤ gx0_0 ∧ gx0_0 < wr.heap.size) ∧ wr.cell? ⟨gx0_0, 0, none⟩ = some (.int .i64 st) ∧ wr.cell? ⟨gx0_0, 1, none⟩ = some (.int .i64 bl) ∧ wr.cell? ⟨gx0_0, 2, none⟩ = some (vx0) ∧ wr.ownsRow w4.heap.size 51 2 vx0 ps.length (P64 ps) ∧ some gx0_0 ≠ vx0.ownBlock ∧ Below w4.heap.size w4 wr)
      case first =>
        have b_w4 := Below.refl w4.heap.size w4
        go_wp2_with fail
        refine (toBarrel_any v ps st bl _ (HV_v.out.below (grown_again old (by first | (with_reducible exact Below.refl _ _) | go_grown))) hl_ps).mono ?_
        rintro e w5 ⟨vx0, rfl, o_vx0, hb⟩
        obtain ⟨A_vx0, C_vx0, rfl⟩ := own_form o_vx0
        have b_w5 : Below w4.heap.size w4 w5 := Below.trans (grown_again b_w4 (by first | (with_reducible exact Below.refl _ _) | go_grown)) (hb.mono (by first | (with_reducible exact Nat.le_refl _) | (with_reducible assumption) | (simp [go_sem]; done) | (simp [go_sem]; omega) | omega))
        have y_w5 := b_w5.size
        (try (have a_w5_w4 : w4.heap.size < w5.heap.size := Nat.lt_of_lt_of_le (by first | assumption | (simp [go_sem]; done) | (simp only [go_sem]; omega) | (simp [go_sem]; omega)) hb.size))
        obtain ⟨hc_w5, hf_w5⟩ := bcell hb
        clear hb
        all_goals (go_wp2_with fail; go_meet)
        all_goals refine ⟨_, .slice A_vx0 ps.length C_vx0, rfl, ⟨?_, ?_⟩, ?_, ?_, ?_, ?_, ?_, ?_⟩
        all_goals first
          | (with_reducible exact Nat.le_refl _) | (with_reducible assumption)
          | (go_grown; done)
          | (simp [go_sem, *]; done)
          | ((repeat' first | exact own_mono o_vx0 (by first | (with_reducible exact Nat.le_refl _) | (with_reducible assumption) | (simp [go_sem]; done) | (simp [go_sem]; omega) | omega) | refine own_far ?_ ?_ _ | refine World.ownsRow.alloc ?_ _); all_goals (exact own_ne o_vx0 (Or.inl (by first | assumption | (simp; done) | omega))); done)
          | exact own_ne o_vx0 (Or.inr (by first | (with_reducible exact Nat.le_refl _) | (with_reducible assumption) | (simp [go_sem]; done) | (simp [go_sem]; omega) | omega)) | exact own_ne o_vx0 (Or.inl (by first | (with_reducible exact Nat.le_refl _) | (with_reducible assumption) | (simp [go_sem]; done) | (simp [go_sem]; omega) | omega))
          | (have := b_w5.size; simp; omega)
      case rest =>
        obtain ⟨w6, rfl⟩ : ∃ x : World, x = wc := ⟨_, rfl⟩
        obtain ⟨gx0_0, vx0, rfl, ⟨rgx0_0, l1⟩, c1_0, c1_1, c1_2, o_vx0, m_gx0_0_vx0, hb⟩ := hcut
        have Q1 : Hid (w4.heap.size ≤ gx0_0 ∧ gx0_0 < w6.heap.size) := ⟨rgx0_0, l1⟩
        have R_vx0 := Lib.hid (rng_of o_vx0 (Nat.le_refl w4.heap.size))
        have E1_vx0 := Lib.hid m_gx0_0_vx0
        clear m_gx0_0_vx0
        clear rgx0_0
        replace c0_0 := (hb.cell (p := ⟨W.heap.size, 0, none⟩) l0).trans c0_0
        replace c0_1 := (hb.cell (p := ⟨W.heap.size, 1, none⟩) l0).trans c0_1
        replace c0_2 := (hb.cell (p := ⟨W.heap.size, 2, none⟩) l0).trans c0_2
        replace l0 := Nat.lt_of_lt_of_le l0 hb.size
        replace old := grown_again old hb
        have z_w6 := hb.size
        clear hb
        go_upto_region 7 with (fail)
        go_cut [6] (fun a6 wr => a6 = .string ra ∧ Below w6.heap.size w6 wr)
        case first =>
          have b_w6 := Below.refl w6.heap.size w6
          go_wp2_with fail
          refine (HI.out vx0 _ ((SlP.of_own o_vx0).below (grown_again b_w6 (by first | (with_reducible exact Below.refl _ _) | go_grown)))).mono ?_
          rintro e w7 ⟨rfl, hb⟩
          have b_w7 : Below w6.heap.size w6 w7 := Below.trans (grown_again b_w6 (by first | (with_reducible exact Below.refl _ _) | go_grown)) (hb.mono (by first | (with_reducible exact Nat.le_refl _) | (with_reducible assumption) | (simp [go_sem]; done) | (simp [go_sem]; omega) | omega))
          have y_w7 := b_w7.size
          (try (have a_w7_w6 : w6.heap.size < w7.heap.size := Nat.lt_of_lt_of_le (by first | assumption | (simp [go_sem]; done) | (simp only [go_sem]; omega) | (simp [go_sem]; omega)) hb.size))
          obtain ⟨hc_w7, hf_w7⟩ := bcell hb
          clear hb
          all_goals (go_wp2_with fail; go_meet)
          all_goals refine ⟨rfl, ?_⟩
          all_goals first
            | (with_reducible exact Nat.le_refl _) | (with_reducible assumption)
            | (go_grown; done)
            | (simp [go_sem, *]; done)
            | (have := b_w7.size; simp; omega)
        case rest =>
          obtain ⟨w8, rfl⟩ : ∃ x : World, x = wc := ⟨_, rfl⟩
          obtain ⟨rfl, hb⟩ := hcut
          replace c0_0 := (hb.cell (p := ⟨W.heap.size, 0, none⟩) l0).trans c0_0
          replace c0_1 := (hb.cell (p := ⟨W.heap.size, 1, none⟩) l0).trans c0_1
          replace c0_2 := (hb.cell (p := ⟨W.heap.size, 2, none⟩) l0).trans c0_2
          replace l0 := Nat.lt_of_lt_of_le l0 hb.size
          replace c1_0 := (hb.cell (p := ⟨gx0_0, 0, none⟩) l1).trans c1_0
          replace c1_1 := (hb.cell (p := ⟨gx0_0, 1, none⟩) l1).trans c1_1
          replace c1_2 := (hb.cell (p := ⟨gx0_0, 2, none⟩) l1).trans c1_2
          replace l1 := Nat.lt_of_lt_of_le l1 hb.size
          replace o_vx0 := own_below o_vx0 hb
          replace old := grown_again old hb
          have z_w8 := hb.size
          clear hb
          go_upto_region 10 with (fail)
          have HSr := Lib.hid (fun (w' : World) (hb : Below w8.heap.size w8 w') => (⟨(hb.cell (p := ⟨gx0_0, 0, none⟩) l1).trans c1_0, (hb.cell (p := ⟨gx0_0, 1, none⟩) l1).trans c1_1, (hb.cell (p := ⟨gx0_0, 2, none⟩) l1).trans c1_2, (hb.cell (p := ⟨W.heap.size, 0, none⟩) l0).trans c0_0, (hb.cell (p := ⟨W.heap.size, 1, none⟩) l0).trans c0_1, (hb.cell (p := ⟨W.heap.size, 2, none⟩) l0).trans c0_2⟩ : w'.cell? ⟨gx0_0, 0, none⟩ = some (.int .i64 st) ∧ w'.cell? ⟨gx0_0, 1, none⟩ = some (.int .i64 bl) ∧ w'.cell? ⟨gx0_0, 2, none⟩ = some (vx0) ∧ w'.cell? ⟨W.heap.size, 0, none⟩ = some (.int .i64 st) ∧ w'.cell? ⟨W.heap.size, 1, none⟩ = some (.int .i64 bl) ∧ w'.cell? ⟨W.heap.size, 2, none⟩ = some (v)))
          go_region_held3 (fun w' => w'.cell? ⟨gx0_0, 0, none⟩ = some (.int .i64 st) ∧ w'.cell? ⟨gx0_0, 1, none⟩ = some (.int .i64 bl) ∧ w'.cell? ⟨gx0_0, 2, none⟩ = some (vx0) ∧ w'.cell? ⟨W.heap.size, 0, none⟩ = some (.int .i64 st) ∧ w'.cell? ⟨W.heap.size, 1, none⟩ = some (.int .i64 bl) ∧ w'.cell? ⟨W.heap.size, 2, none⟩ = some (v)) (first | assumption | exact HSr.out _ (by go_grown) | go_keep)
            (first
              | (go_at_call 7; refine (toBarrel_any v ps st bl _ (HV_v.out.below (grown_again old (by first | (with_reducible exact Below.refl _ _) | go_grown))) hl_ps).mono ?_; rintro e w9 ⟨uw9, rfl, o_uw9, hb⟩; have b_w9 : Below w8.heap.size w8 w9 := Below.trans (by first | (with_reducible exact Below.refl _ _) | go_grown) (hb.mono (by first | (with_reducible exact Nat.le_refl _) | (with_reducible assumption) | (simp [go_sem]; done) | (simp [go_sem]; omega) | omega)); have y_w9 := b_w9.size; have S_w9 := HSr.out _ b_w9; have s_uw9 := SlP.of_own o_uw9; clear o_uw9; clear hb)
              | (go_at_call 9; refine (eqBarrel_true vx0 uw9 ps st bl _ ((SlP.of_own o_vx0).below (grown_again b_w9 (by first | (with_reducible exact Below.refl _ _) | go_grown))) (s_uw9.below (by first | (with_reducible exact Below.refl _ _) | go_grown))).mono ?_; rintro e w10 ⟨rfl, hb⟩; have b_w10 : Below w8.heap.size w8 w10 := Below.trans (grown_again b_w9 (by first | (with_reducible exact Below.refl _ _) | go_grown)) (hb.mono (by first | (with_reducible exact Nat.le_refl _) | (with_reducible assumption) | (simp [go_sem]; done) | (simp [go_sem]; omega) | omega)); have S_w10 := HSr.out _ b_w10; clear hb))
          clear HSr S_w9 S_w10 s_uw9
          replace c0_0 := (b_w10.cell (p := ⟨W.heap.size, 0, none⟩) l0).trans c0_0
          replace c0_1 := (b_w10.cell (p := ⟨W.heap.size, 1, none⟩) l0).trans c0_1
          replace c0_2 := (b_w10.cell (p := ⟨W.heap.size, 2, none⟩) l0).trans c0_2
          replace l0 := Nat.lt_of_lt_of_le l0 b_w10.size
          replace c1_0 := (b_w10.cell (p := ⟨gx0_0, 0, none⟩) l1).trans c1_0
          replace c1_1 := (b_w10.cell (p := ⟨gx0_0, 1, none⟩) l1).trans c1_1
          replace c1_2 := (b_w10.cell (p := ⟨gx0_0, 2, none⟩) l1).trans c1_2
          replace l1 := Nat.lt_of_lt_of_le l1 b_w10.size
          replace o_vx0 := own_below o_vx0 b_w10
          replace old := grown_again old b_w10
          have z_w10 := b_w10.size
          clear b_w9 b_w10
          go_wp2
          go_ret
          exact ⟨rfl, old⟩
  · go_enter Tryd.func3, Tryd.ntmps3
    go_wp2_with fail
    refine (szBarrel_big v ps st bl _ _ (HV_v.out.below (by first | (with_reducible exact Below.refl _ _) | go_grown)) (by omega) (by omega)).mono ?_
    rintro e w1 ⟨rfl, hb⟩
    go_wp2
    go_ret
    exact ⟨rfl, Below.trans (by first | exact Below.refl _ _ | go_grown) (hb.mono (by first | (with_reducible exact Nat.le_refl _) | (with_reducible assumption) | (simp [go_sem]; done) | (simp [go_sem]; omega) | omega))⟩

set_option maxRecDepth 100000 in
theorem fnExactBarrelText_lifted (os : Os) (started : os.Started) (H : Type) (enc : TypeId × Value → H) :
    ReturnsInHanded {} Tryd.checked os 3 .any (fun w args => (Rows.fnExactBarrelTextSpec.pre enc Tryd.prog Tryd.f3 Rows.fnExactBarrelTextRow.domain false w args ∧ laidMetH Tryd.prog Rows.fnExactBarrelTextRow.laid w) ∧ sizedMet enc Tryd.prog Tryd.f3 (OpenSpec.ofChange Rows.fnExactBarrelTextSpec) false w args)
      (Rows.fnExactBarrelTextSpec.post enc Tryd.prog Tryd.f3 false true false false) := by
  refine returnsInHanded_of_change_and (C := Tryd.checked) (X := fun w _ => laidMetH Tryd.prog Rows.fnExactBarrelTextRow.laid w) (fun _ _ _ hh h => h.of_heap hh) Tryd.own started (by kernel_rfl) Tryd.func3
    (ChangeSpec.witness_shaped (enc := enc) (C := Tryd.checked) (os := os) (X := fun w _ => laidMetH Tryd.prog Rows.fnExactBarrelTextRow.laid w) false (World.laidAll Tryd.prog os Rows.fnExactBarrelTextRow.laid) #[.agg #[.int .i64 0, .int .i64 0, .slice none 0 0]] 8 (World.laidAll_os _ _ _)
      (World.shaped_of_ZipB (by kernel_rfl) (by kernel_rfl)) (by kernel_rfl) (by kernel_rfl) (by kernel_rfl)
      (by rw [MakeChecks.laidMetH_plain _ _ _ (by kernel_rfl)]; exact laidMet_laidAll _ (by kernel_rfl) (by kernel_rfl))) ?_
  intro W base args ds gs before hval0 hW hcnd _ _ _
  have hval : ∀ (j : Nat) t v, Tryd.f3.params[j]? = some t → args[j]? = some v → Value.okWide Tryd.prog W .any base t v := hval0
  have hW' := hW
  have hltB : ∀ x ∈ before, x.block < W.heap.size := fun x hx => hW.lt x hx
  obtain ⟨p, q, hA0, hV, rfl, hfz, hnd⟩ := hW
  have hA : DataW.TrodAll enc Tryd.prog W 0 (fun _ => true) true Tryd.f3.params.toList args.toList ds p := hA0
  rw [Tryd.params3] at hA hval
  obtain ⟨v0, vs0, d0, ds0, p0, q0, hargs, rfl, rfl, h0, r0⟩ := trodAll_cons hA
  obtain ⟨rfl, rfl, rfl⟩ := trodAll_nil r0
  obtain rfl : args = #[v0] := by cases args; simp_all
  clear hA0 hval0 hA hcnd hfz hnd
  have hlt0 : ∀ x ∈ p0, x.block < W.heap.size := fun x hx => hltB x (by simp [hx])
  obtain ⟨u0_0, u0_1, u0_2, y0_0, y0_1, y0_2, m0, rfl, rfl, rfl, g0_0, g0_1, g0_2⟩ := Joins.open_agg3 Tryd.underlying24 (by kernel_rfl) (by kernel_rfl) (hval 0 24 v0 rfl rfl) h0
  obtain ⟨st, rfl, bst⟩ := trod_i64 Tryd.underlying2 g0_0
  obtain ⟨bl, rfl, bbl⟩ := trod_i64 Tryd.underlying2 g0_1
  obtain ⟨ps, hps, bps⟩ := trod_pairs Tryd.underlying22 Tryd.underlying60 (by kernel_rfl) (by kernel_rfl) Tryd.underlying2 Tryd.underlying2 g0_2 (fun x hx => hlt0 x (by simp [hx]))
  refine (exactBarrelText_walk _ ps st bl W hps).mono fun e W' ⟨he, hb⟩ => ?_
  subst he
  exact ⟨_, rfl, post_law Tryd.laidOut hW' rfl rfl (by kernel_rfl) (by kernel_rfl) Tryd.underlying4 hb⟩

set_option maxHeartbeats 2000000 in
theorem fnExactBarrelText_facts : joinedFacts Tryd.prog 3 Tryd.f3 Rows.fnExactBarrelTextSpec Rows.fnExactBarrelTextRow = true := by
  unfold joinedFacts
  simp only [Bool.and_eq_true]
  repeat' apply And.intro
  all_goals first | with_reducible exact Tryd.laidOut | with_reducible exact Tryd.g2 | with_reducible exact Tryd.g24 | with_reducible exact Tryd.g25 | (rw [Tryd.g26]; rfl) | (rw [Tryd.g27]; rfl) | as_aux_lemma => kernel_rfl
/-- The statement. -/
theorem fnExactBarrelText_holds : Rows.FnExactBarrelTextSaid :=
  OpenClaim.holds_of_wide 3 Tryd.f3 rfl rfl rfl rfl rfl rfl rfl ⟨rfl, rfl, rfl, rfl, rfl⟩ rfl rfl rfl rfl rfl (by as_aux_lemma => kernel_rfl) Tryd.func3 fnExactBarrelText_facts
    (by as_aux_lemma => exact of_decide_eq_true (by kernel_rfl)) (by as_aux_lemma => unfold Func.isWrapper; rw [if_neg (of_decide_eq_false (by kernel_rfl))]; exact ⟨rfl, rfl⟩)
    (fun os started H enc _ => fnExactBarrelText_lifted os started H enc)
/-- The card. -/
theorem fnExactBarrelText_card : Rows.FnExactBarrelTextCardSaid :=
  Claim7.holds_tied_plain_at .later [] [.data, .data, .data] true (true, "f27ecd39ed133c962278263fd27f76e77daf2a5ed1baddb80973286dff2dc112") true fnExactBarrelText_holds (fun _ h => by cases h) (by kernel_rfl) (fun _ h => by cases h) fnExactBarrelText_row_tie rfl ⟨rfl, rfl⟩ (by kernel_rfl) rfl
    (fun f fn hf hfn => by
      obtain rfl : f = 3 := Option.some.inj ((show Tryd.prog.funcNamed "loop.example/g00921/laws.FnExactBarrelText" = some 3 by kernel_rfl).symm.trans hf) |>.symm
      obtain rfl : fn = Tryd.f3 := (Option.some.inj (Tryd.func3.symm.trans hfn)).symm
      exact ⟨by kernel_rfl, fun j t ht => by
        rw [Tryd.params3] at ht
        have hm : t ∈ [24] := by simpa using Array.mem_of_getElem? ht
        have hall : ([24].all fun u => !Tryd.prog.wantsStandIn u) = true := by kernel_rfl
        exact (show Tryd.prog.wantsStandIn t = false by simpa using List.all_eq_true.1 hall t hm)⟩)
    (by kernel_rfl)
#print axioms fnExactBarrelText_card
end Go.Proofs.YtgaohmbgjjhdbaaDoor
