/- FnRightStates is proved: a right state stays right when the hands move forward, and lifts put the others right where this is possible; the answers are the reference's. No condition. -/
import Derived.Test.YtfddibdncniekaaDoorDrM
import Derived.Test.YtfddibdncniekaaDoorHsQ
import Derived.Test.YtfddibdncniekaaDoorCelB
import Derived.Test.YtfddibdncniekaaDoorF6h
import Derived.Test.YtfddibdncniekaaDoorRow3
import Derived.Test.YtfddibdncniekaaDoorRowF
import Derived.Test.YtfddibdncniekaaDoorCards
import Derived.Test.YtfddibdncniekaaDoorTie
import Derived.OpenShut
import Derived.LaidMore
import Derived.Lay
import Derived.SevenTiedAt
import Derived.Stop.Joined
import Derived.ChangeMaps5
import Derived.Deep.RegionHeld3
import Derived.Deep.DeepCutAuto
namespace Go.Proofs.YtfddibdncniekaaDoor
open Go.ChangeShapes Go.WideShapes Go.ChangeAt Go.RowKit
attribute [local go_sem ↓] Go.wp_at_zero Go.wp_at_succ

theorem rs_facts (gs : List Int) : ∃ (rl : List (Int × Int)) (rc : Int), rl.length ≤ 3000 ∧ (∀ x ∈ rl, whB gs = true ∧ hsB gs x.1 x.2 = true ∧ rgB gs x.1 x.2 = true) ∧
    (∀ v w, Sl w v gs → Calls Tryd.prog 39 #[.agg #[v]] w fun e w' => ∃ v', e = .returned (.tuple #[v', .int .i64 rc]) ∧ w'.ownsRow w.heap.size 28 2 v' rl.length (P64 rl) ∧ Below w.heap.size w w') ∧
    (∀ v w, Sl w v gs → Calls Tryd.prog 40 #[.agg #[v]] w fun e w' => ∃ v', e = .returned (.tuple #[v', .int .i64 rc]) ∧ w'.ownsRow w.heap.size 28 2 v' rl.length (P64 rl) ∧ Below w.heap.size w w') := by
  cases hs : whB gs with
  | false => exact ⟨[], _, Nat.zero_le _, (fun x hx => by cases hx), fun v w hv => RightStates_i1 v gs w hv hs, fun v w hv => RightStates_s1 v gs w hv hs⟩
  | true => exact ⟨rsAll gs 12, _, by have := rsAll_length gs (whB_iff.1 hs).2.2 12; omega, fun x hx => ⟨rfl, rs_valid hx⟩, fun v w hv => RightStates_i0 v gs w hv hs, fun v w hv => RightStates_s0 v gs w hv hs⟩
theorem lf_facts (gs : List Int) (h q : Int) : ∃ ra rb : Int, (rb ≠ 0 ∨ (rb = 0 ∧ ∃ K : Nat, K < gs.length ∧ ra = (K : Int) ∧ hnB gs h q = true ∧ rgB gs h (qK gs q K) = true)) ∧
    (∀ v w, Sl w v gs → Calls Tryd.prog 37 #[.agg #[v], .agg #[.int .i64 h, .int .i64 q]] w fun e w' => e = .returned (.tuple #[.int .i64 ra, .int .i64 rb]) ∧ Below w.heap.size w w') ∧
    (∀ v w, Sl w v gs → Calls Tryd.prog 38 #[.agg #[v], .agg #[.int .i64 h, .int .i64 q]] w fun e w' => e = .returned (.tuple #[.int .i64 ra, .int .i64 rb]) ∧ Below w.heap.size w w') := by
  cases hs : hnB gs h q with
  | false => exact ⟨_, _, Or.inl (by decide), fun v w hv => LiftsToRight_i1 v gs h q w hv hs, fun v w hv => LiftsToRight_s1 v gs h q w hv hs⟩
  | true =>
    rcases lift_first gs h q gs.length with hno | ⟨K, hK, hf, hno⟩
    · exact ⟨_, _, Or.inl (by decide), fun v w hv => LiftsToRight_i3 v gs h q w hv hs hno, fun v w hv => LiftsToRight_s3 v gs h q w hv hs hno⟩
    · exact ⟨_, _, Or.inr ⟨rfl, K, hK, rfl, rfl, hf⟩, fun v w hv => LiftsToRight_i0 v gs h q w hv hs K hK hf hno, fun v w hv => LiftsToRight_s0 v gs h q w hv hs K hK hf hno⟩

set_option maxRecDepth 100000 in
set_option maxHeartbeats 16000000 in
theorem rightStates_walk (vb : Value) (bs : List Int) (W : World) (hv : SlB W vb bs) :
    Calls Tryd.prog 8 #[vb] W fun e W' => e = .returned (.bool true) ∧ Below W.heap.size W W' := by
  have HV := Lib.hid hv
  clear hv
  cases hbig : decide (4096 < bs.length) with
  | true =>
    go_enter Tryd.func8, Tryd.ntmps8
    go_wp2_with fail
    refine (f6big_any vb bs _ HV.out _ hbig).mono ?_
    rintro e w' ⟨rfl, rfl⟩
    go_wp2
    go_ret
    exact ⟨rfl, Below.refl _ _⟩
  | false =>
    have HBG := Lib.hid hbig
    clear hbig
    go_enter Tryd.func8, Tryd.ntmps8
    go_wp2_with fail
    refine (f6big_any vb bs _ HV.out _ HBG.out).mono ?_
    rintro e w' ⟨rfl, rfl⟩
    go_wp2_with fail
    refine (DrawLiftsToRight_any vb bs _ HV.out).mono ?_
    rintro e w1 ⟨v, gs, h, q, rfl, o_v, hgl, hb⟩
    obtain ⟨A_v, C_v, rfl⟩ := own_form o_v
    have old := Lib.hid hb
    have O_v := Lib.hid o_v
    clear o_v hb
    obtain ⟨rl, rc, hrl, hrx, hri, hrs⟩ := rs_facts gs
    obtain ⟨ra, rb, hlx, hli, hls⟩ := lf_facts gs h q
    have HRX := Lib.hid hrx
    have HLX := Lib.hid hlx
    have K1 := Lib.hid hli
    have K2 := Lib.hid hls
    have K3 := Lib.hid hri
    have K4 := Lib.hid hrs
    clear hrx hlx hli hls hri hrs
    go_wp2_with fail
    refine (K1.out _ _ (Sl.of_own (own_below O_v.out (by first | (with_reducible exact Below.refl _ _) | go_grown)))).mono ?_
    rintro e w2 ⟨rfl, hb⟩
    have b_w2 : Below w1.heap.size w1 w2 := Below.trans (by first | (with_reducible exact Below.refl _ _) | go_grown) (hb.mono (by first | (with_reducible exact Nat.le_refl _) | (with_reducible assumption) | (simp [go_sem]; done) | (simp [go_sem]; omega) | omega))
    replace O_v := Lib.hid (own_below O_v.out b_w2)
    have B_wh : Hid (Blk w2 (w1.heap.size) 31 #[.slice A_v gs.length C_v]) := Blk.below (by first | exact Blk.new _ _ _ | exact (Blk.new _ _ _).alloc _ | (have h := Blk.new (w1) 31 #[.slice A_v gs.length C_v]; simpa using h)) hb
    have B_st : Hid (Blk w2 (w1.heap.size + 1) 28 #[.int .i64 h, .int .i64 q]) := Blk.below (by first | exact Blk.new _ _ _ | exact (Blk.new _ _ _).alloc _ | (have h := Blk.new (w1.alloc (.cells #[.slice A_v gs.length C_v] 31)) 28 #[.int .i64 h, .int .i64 q]; simpa using h)) hb
    replace old := Lib.hid (grown_again old.out b_w2)
    clear hb b_w2
    have c_wh_0 := B_wh.out.cell 0 rfl
    have l_wh := B_wh.out.lt
    have c_st_0 := B_st.out.cell 0 rfl
    have c_st_1 := B_st.out.cell 1 rfl
    have l_st := B_st.out.lt
    go_wp2_with fail
    refine (K2.out _ _ (Sl.of_own (own_below O_v.out (by first | (with_reducible exact Below.refl _ _) | go_grown)))).mono ?_
    rintro e w3 ⟨rfl, hb⟩
    have b_w3 : Below w2.heap.size w2 w3 := Below.trans (by first | (with_reducible exact Below.refl _ _) | go_grown) (hb.mono (by first | (with_reducible exact Nat.le_refl _) | (with_reducible assumption) | (simp [go_sem]; done) | (simp [go_sem]; omega) | omega))
    replace B_wh := Lib.hid (B_wh.out.below b_w3)
    replace B_st := Lib.hid (B_st.out.below b_w3)
    replace O_v := Lib.hid (own_below O_v.out b_w3)
    replace old := Lib.hid (grown_again old.out b_w3)
    clear hb b_w3
    clear c_wh_0 l_wh c_st_0 c_st_1 l_st
    have c_wh_0 := B_wh.out.cell 0 rfl
    have l_wh := B_wh.out.lt
    have c_st_0 := B_st.out.cell 0 rfl
    have c_st_1 := B_st.out.cell 1 rfl
    have l_st := B_st.out.lt
    go_wp2_with fail
    refine (K3.out _ _ (Sl.of_own (own_below O_v.out (by first | (with_reducible exact Below.refl _ _) | go_grown)))).mono ?_
    rintro e w4 ⟨v2, rfl, o_v2, hb⟩
    obtain ⟨A_v2, C_v2, rfl⟩ := own_form o_v2
    have b_w4 : Below w3.heap.size w3 w4 := Below.trans (by first | (with_reducible exact Below.refl _ _) | go_grown) (hb.mono (by first | (with_reducible exact Nat.le_refl _) | (with_reducible assumption) | (simp [go_sem]; done) | (simp [go_sem]; omega) | omega))
    replace B_wh := Lib.hid (B_wh.out.below b_w4)
    replace B_st := Lib.hid (B_st.out.below b_w4)
    replace O_v := Lib.hid (own_below O_v.out b_w4)
    replace old := Lib.hid (grown_again old.out b_w4)
    clear hb b_w4
    have O_v2 := Lib.hid o_v2
    clear o_v2
    clear c_wh_0 l_wh c_st_0 c_st_1 l_st
    have c_wh_0 := B_wh.out.cell 0 rfl
    have l_wh := B_wh.out.lt
    have c_st_0 := B_st.out.cell 0 rfl
    have c_st_1 := B_st.out.cell 1 rfl
    have l_st := B_st.out.lt
    go_wp2_with fail
    refine (K4.out _ _ (Sl.of_own (own_below O_v.out (by first | (with_reducible exact Below.refl _ _) | go_grown)))).mono ?_
    rintro e w5 ⟨v3, rfl, o_v3, hb⟩
    obtain ⟨A_v3, C_v3, rfl⟩ := own_form o_v3
    have b_w5 : Below w4.heap.size w4 w5 := Below.trans (by first | (with_reducible exact Below.refl _ _) | go_grown) (hb.mono (by first | (with_reducible exact Nat.le_refl _) | (with_reducible assumption) | (simp [go_sem]; done) | (simp [go_sem]; omega) | omega))
    replace B_wh := Lib.hid (B_wh.out.below b_w5)
    replace B_st := Lib.hid (B_st.out.below b_w5)
    replace O_v := Lib.hid (own_below O_v.out b_w5)
    replace O_v2 := Lib.hid (own_below O_v2.out b_w5)
    replace old := Lib.hid (grown_again old.out b_w5)
    clear hb b_w5
    have O_v3 := Lib.hid o_v3
    clear o_v3
    clear c_wh_0 l_wh c_st_0 c_st_1 l_st
    have c_wh_0 := B_wh.out.cell 0 rfl
    have l_wh := B_wh.out.lt
    have c_st_0 := B_st.out.cell 0 rfl
    have c_st_1 := B_st.out.cell 1 rfl
    have l_st := B_st.out.lt
    go_wp2_with fail
    refine (f6states_b _ _ rl _ (SlP.of_own (own_below O_v2.out (by first | (with_reducible exact Below.refl _ _) | go_grown))) (SlP.of_own (own_below O_v3.out (by first | (with_reducible exact Below.refl _ _) | go_grown)))).mono ?_
    rintro e w6 ⟨rfl, hb⟩
    have b_w6 : Below w5.heap.size w5 w6 := Below.trans (by first | (with_reducible exact Below.refl _ _) | go_grown) (hb.mono (by first | (with_reducible exact Nat.le_refl _) | (with_reducible assumption) | (simp [go_sem]; done) | (simp [go_sem]; omega) | omega))
    replace B_wh := Lib.hid (B_wh.out.below b_w6)
    replace B_st := Lib.hid (B_st.out.below b_w6)
    replace O_v := Lib.hid (own_below O_v.out b_w6)
    replace O_v2 := Lib.hid (own_below O_v2.out b_w6)
    replace O_v3 := Lib.hid (own_below O_v3.out b_w6)
    replace old := Lib.hid (grown_again old.out b_w6)
    clear hb b_w6
    clear c_wh_0 l_wh c_st_0 c_st_1 l_st
    have c_wh_0 := B_wh.out.cell 0 rfl
    have l_wh := B_wh.out.lt
    have c_st_0 := B_st.out.cell 0 rfl
    have c_st_1 := B_st.out.cell 1 rfl
    have l_st := B_st.out.lt
    go_wp2_with fail
    clear c_wh_0 l_wh c_st_0 c_st_1 l_st
    go_loopw [13] (fun a wr => ∃ i : Nat, i ≤ rl.length ∧ a = .int .i64 (i : Int) ∧ Hid (Below w6.heap.size w6 wr)) (fun a _ => rl.length - (intOf a).toNat)
    case atStart => exact ⟨0, by omega, by go_num, Lib.hid (Below.refl _ _)⟩
    case round =>
      obtain ⟨i, hi, rfl, hB⟩ := hrel
      obtain ⟨wi, rfl⟩ : ∃ y : World, y = wr := ⟨_, rfl⟩
      have hb := hB.out
      have oldC := Lib.hid (Below.refl w6.heap.size w6)
      have b_wi : Below w6.heap.size w6 wi := Below.trans (by first | (with_reducible exact Below.refl _ _) | go_grown) (hb.mono (by first | (with_reducible exact Nat.le_refl _) | (with_reducible assumption) | (simp [go_sem]; done) | (simp [go_sem]; omega) | omega))
      replace B_wh := Lib.hid (B_wh.out.below b_wi)
      replace B_st := Lib.hid (B_st.out.below b_wi)
      replace O_v := Lib.hid (own_below O_v.out b_wi)
      replace O_v2 := Lib.hid (own_below O_v2.out b_wi)
      replace O_v3 := Lib.hid (own_below O_v3.out b_wi)
      replace old := Lib.hid (grown_again old.out b_wi)
      replace oldC := Lib.hid (grown_again oldC.out b_wi)
      clear hb b_wi
      by_cases hlt : i < rl.length
      · have i1 : (i : Int) < (rl.length : Int) := by omega
        obtain ⟨A3, c3, e3, hac3, hac3', HA3⟩ := (SlP.of_own O_v2.out).open_
        injection e3 with e31 _ e33
        subst e31 e33
        obtain ⟨ba, oa, rfl, hba, hca⟩ := HA3.out i hlt
        obtain ⟨x, hxe⟩ : ∃ x, x = pi rl i := ⟨_, rfl⟩
        have d0 : wi.cell? ⟨ba, oa + i * 2, none⟩ = some (.int .i64 x.1) := by rw [hxe]; exact (hca i hlt).1
        have d1 : wi.cell? ⟨ba, oa + i * 2 + 1, none⟩ = some (.int .i64 x.2) := by rw [hxe]; exact (hca i hlt).2
        obtain ⟨hw, hx, hr⟩ := HRX.out x (by rw [hxe, pi_eq hlt]; exact List.getElem_mem _)
        have h1 := (whB_iff.1 hw).2.1
        have hg12 := gapM_in hw x.2
        have hbl := rg_blow h1 hr
        have hin := inH_in x.1
        have hmv := mv_oneF hw x.1 x.2
        obtain ⟨y, hy⟩ : ∃ y : Int × Int, y = (inH x.1, nxQ gs x.2) := ⟨_, rfl⟩
        obtain ⟨gp, hgp⟩ : ∃ gp, gp = gapM gs x.2 := ⟨_, rfl⟩
        have hy1 : y.1 = inH x.1 := by rw [hy]
        have hyv : hnB gs y.1 y.2 = true := hnB_iff.2 ⟨hw, by rw [hy]; exact hs_in h1 hin⟩
        have hyr : rgB gs y.1 y.2 = true := by rw [hy]; exact rg_stays h1 hr
        have KM : Hid (∀ v w, Sl w v gs → Calls Tryd.prog 16 #[.agg #[v], .agg #[.int .i64 x.1, .int .i64 x.2], .string ⟨#[102]⟩] w fun e w' => ∃ v', e = .returned (.tuple #[.agg #[.int .i64 y.1, .int .i64 y.2], v', .int .i64 0]) ∧ w'.ownsRow w.heap.size 2 1 v' [gp].length (I64 [gp]) ∧ Below w.heap.size w w') := fun v w hv => by
          have := MoveHands_i0 v gs x.1 x.2 oneF w hv (hnB_iff.2 ⟨hw, hx⟩) (by decide) oneF_kn
          rwa [show oneF.size = 1 from rfl, hmv.1, hmv.2, ← hy, ← hgp] at this
        have KS : Hid (∀ v w, Sl w v gs → Calls Tryd.prog 42 #[.agg #[v], .agg #[.int .i64 y.1, .int .i64 y.2]] w fun e w' => e = .returned (.tuple #[.bool true, .int .i64 0]) ∧ Below w.heap.size w w') := fun v w hv => by
          have := StrikesRight_i0 v gs y.1 y.2 w hv hyv
          rwa [hyr] at this
        rw [← hgp] at hg12 hbl
        rw [← hy1] at hbl hin
        have e1 : gp.tmod 12 = y.1 := by rw [IntWalk.rem_in _ _ (by omega)]; exact hbl
        have e2 : IntKind.i64.wrap y.1 = y.1 := IntWalk.i64_in _ (by omega)
        have HE1 := Lib.hid e1
        have HE2 := Lib.hid e2
        clear hac3 hac3' HA3 hca hxe hw hx hr h1 hbl hmv hy hgp hy1 hyv hyr e1 e2
        have c_wh_0 := B_wh.out.cell 0 rfl
        have l_wh := B_wh.out.lt
        have c_st_0 := B_st.out.cell 0 rfl
        have c_st_1 := B_st.out.cell 1 rfl
        have l_st := B_st.out.lt
        go_upto_region 13 with (fail)
        go_cut [14, 15, 16] (fun a0 a1 a2 wr => ∃ (gm : Nat) (vm : Value), a0 = .pointer (some ⟨gm, 0, none⟩) ∧ vm = a1 ∧ a2 = .int .i64 0 ∧ (wi.heap.size ≤ gm ∧ gm < wr.heap.size) ∧ wr.cell? ⟨gm, 0, none⟩ = some (.int .i64 y.1) ∧ wr.cell? ⟨gm, 1, none⟩ = some (.int .i64 y.2) ∧ wr.ownsRow wi.heap.size 2 1 vm [gp].length (I64 [gp]) ∧ Below wi.heap.size wi wr)
        case first =>
          have HSr := Lib.hid (fun (w' : World) (hb : Below wi.heap.size wi w') => (⟨(B_wh.out.below hb).cell 0 rfl, (hb.cell (p := ⟨ba, oa + i * 2, none⟩) hba).trans d0, (hb.cell (p := ⟨ba, oa + i * 2 + 1, none⟩) hba).trans d1⟩ : w'.cell? ⟨w1.heap.size, 0, none⟩ = some (.slice A_v gs.length C_v) ∧ w'.cell? ⟨ba, oa + i * 2, none⟩ = some (.int .i64 x.1) ∧ w'.cell? ⟨ba, oa + i * 2 + 1, none⟩ = some (.int .i64 x.2)))
          go_region_held3 (fun w' => w'.cell? ⟨w1.heap.size, 0, none⟩ = some (.slice A_v gs.length C_v) ∧ w'.cell? ⟨ba, oa + i * 2, none⟩ = some (.int .i64 x.1) ∧ w'.cell? ⟨ba, oa + i * 2 + 1, none⟩ = some (.int .i64 x.2)) (first | assumption | (refine HSr.out _ ?_; go_grown; done) | ((try dsimp only); (repeat' apply And.intro) <;> (first | assumption | (simp [go_sem, *]; done))) | go_keep)
            ((go_at_call 16; refine (KM.out _ _ (Sl.of_own (own_below O_v.out (by first | (with_reducible exact Below.refl _ _) | go_grown)))).mono ?_; rintro e wn ⟨vn, rfl, on, hb2⟩; obtain ⟨An, Cn, rfl⟩ := own_form on; have BN : Below wi.heap.size wi wn := Below.trans (by first | (with_reducible exact Below.refl _ _) | go_grown) (hb2.mono (by first | (with_reducible exact Nat.le_refl _) | (with_reducible assumption) | (simp [go_sem]; done) | (simp [go_sem]; omega) | omega)); have SN := HSr.out wn BN; have yn := BN.size; obtain ⟨hcn, hfn⟩ := bcell hb2; (try (have an : wi.heap.size < wn.heap.size := Nat.lt_of_lt_of_le (by first | assumption | (simp [go_sem]; done) | (simp only [go_sem]; omega) | (simp [go_sem]; omega)) hb2.size)); clear hb2))
          all_goals (go_wp2_with fail; go_meet)
          all_goals refine ⟨_, .slice An [gp].length Cn, rfl, rfl, rfl, ⟨?_, ?_⟩, ?_, ?_, ?_, ?_⟩
          all_goals first
            | (with_reducible exact Nat.le_refl _) | (with_reducible assumption)
            | (go_grown; done)
            | (simp [go_sem, *]; done)
            | ((repeat' first | exact own_mono on (by first | (with_reducible exact Nat.le_refl _) | (with_reducible assumption) | (simp [go_sem]; done) | (simp [go_sem]; omega) | omega) | refine own_far ?_ ?_ _ | refine World.ownsRow.alloc ?_ _); all_goals (exact own_ne on (Or.inl (by first | assumption | (simp; done) | omega))); done)
            | (simp; omega)
        case rest =>
          obtain ⟨wj, rfl⟩ : ∃ x : World, x = wc := ⟨_, rfl⟩
          obtain ⟨gy, v5, rfl, rfl, rfl, ⟨g0, g1⟩, e0, e1, o_v5, hb⟩ := hcut
          obtain ⟨A_v5, C_v5, rfl⟩ := own_form o_v5
          clear d0 d1 hba
          have b_wj : Below wi.heap.size wi wj := Below.trans (by first | (with_reducible exact Below.refl _ _) | go_grown) (hb.mono (by first | (with_reducible exact Nat.le_refl _) | (with_reducible assumption) | (simp [go_sem]; done) | (simp [go_sem]; omega) | omega))
          replace B_wh := Lib.hid (B_wh.out.below b_wj)
          replace B_st := Lib.hid (B_st.out.below b_wj)
          replace O_v := Lib.hid (own_below O_v.out b_wj)
          replace O_v2 := Lib.hid (own_below O_v2.out b_wj)
          replace O_v3 := Lib.hid (own_below O_v3.out b_wj)
          replace old := Lib.hid (grown_again old.out b_wj)
          replace oldC := Lib.hid (grown_again oldC.out b_wj)
          clear hb b_wj
          have O_v5 := Lib.hid o_v5
          have B_y := Lib.hid (Cels.two g1 e0 e1)
          clear o_v5 g0 g1 e0 e1
          clear c_wh_0 l_wh c_st_0 c_st_1 l_st
          have c_wh_0 := B_wh.out.cell 0 rfl
          have l_wh := B_wh.out.lt
          have c_st_0 := B_st.out.cell 0 rfl
          have c_st_1 := B_st.out.cell 1 rfl
          have l_st := B_st.out.lt
          have c_y_0 := B_y.out.cell 0 rfl
          have c_y_1 := B_y.out.cell 1 rfl
          have l_y := B_y.out.lt
          go_wp2_with fail
          refine (KS.out _ _ (Sl.of_own (own_below O_v.out (by first | (with_reducible exact Below.refl _ _) | go_grown)))).mono ?_
          rintro e w7 ⟨rfl, hb⟩
          have b_w7 : Below wj.heap.size wj w7 := Below.trans (by first | (with_reducible exact Below.refl _ _) | go_grown) (hb.mono (by first | (with_reducible exact Nat.le_refl _) | (with_reducible assumption) | (simp [go_sem]; done) | (simp [go_sem]; omega) | omega))
          replace B_wh := Lib.hid (B_wh.out.below b_w7)
          replace B_st := Lib.hid (B_st.out.below b_w7)
          replace B_y := Lib.hid (B_y.out.below b_w7)
          replace O_v := Lib.hid (own_below O_v.out b_w7)
          replace O_v2 := Lib.hid (own_below O_v2.out b_w7)
          replace O_v3 := Lib.hid (own_below O_v3.out b_w7)
          replace O_v5 := Lib.hid (own_below O_v5.out b_w7)
          replace old := Lib.hid (grown_again old.out b_w7)
          replace oldC := Lib.hid (grown_again oldC.out b_w7)
          clear hb b_w7
          clear c_wh_0 l_wh c_st_0 c_st_1 l_st c_y_0 c_y_1 l_y
          have c_wh_0 := B_wh.out.cell 0 rfl
          have l_wh := B_wh.out.lt
          have c_st_0 := B_st.out.cell 0 rfl
          have c_st_1 := B_st.out.cell 1 rfl
          have l_st := B_st.out.lt
          have c_y_0 := B_y.out.cell 0 rfl
          have c_y_1 := B_y.out.cell 1 rfl
          have l_y := B_y.out.lt
          obtain ⟨A6, c6, e6, hac6, hac6', HA6⟩ := (Sl.of_own O_v5.out).open_
          injection e6 with e61 _ e63
          subst e61 e63
          obtain ⟨b6, o6, rfl, hb6, hc6⟩ := HA6.out 0 (by simp)
          have d6 := hc6 0 (by simp)
          have d7 : w7.cell? ⟨b6, o6, none⟩ = some (.int .i64 gp) := by simpa [ix] using d6
          clear HA6 hc6 d6
          have e1 := HE1.out
          have e2 := HE2.out
          go_wp2_with fail
          go_quiet (fail)
          go_wp2_with fail
          go_roundw
          case rel => exact ⟨i + 1, by omega, by go_num, Lib.hid (by first | exact oldC.out | exact below_drewN oldC.out _)⟩
          case measure => simp [intOf]; omega
      · obtain rfl : i = rl.length := by omega
        rcases HLX.out with hbad | ⟨rfl, K, hK, rfl, hn, hr⟩
        have c_wh_0 := B_wh.out.cell 0 rfl
        have l_wh := B_wh.out.lt
        have c_st_0 := B_st.out.cell 0 rfl
        have c_st_1 := B_st.out.cell 1 rfl
        have l_st := B_st.out.lt
        · have hne : (rb != 0) = true := by simpa using hbad
          have hne2 : ¬ rb = 0 := hbad
          clear hbad
          go_wp2_with fail
          go_ret
          exact ⟨rfl, by first | exact old.out | exact below_drewN old.out _⟩
        · have HN := Lib.hid hn
          obtain ⟨hw, hx⟩ := hnB_iff.1 hn
          obtain ⟨⟨x0, x1⟩, q0, q1⟩ := hsB_iff.1 hx
          have h24 := (whB_iff.1 hw).2.2
          have h1 := (whB_iff.1 hw).2.1
          obtain ⟨qk, hqk⟩ : ∃ qk, qk = qK gs q K := ⟨_, rfl⟩
          have hyv : hnB gs h qk = true := hnB_iff.2 ⟨hw, by rw [hqk]; exact hsB_Q h1 ⟨x0, x1⟩ q K⟩
          rw [← hqk] at hr
          obtain ⟨lt, hlt⟩ : ∃ lt, lt = lftS K := ⟨_, rfl⟩
          have HLT := Lib.hid hlt
          obtain ⟨ll, hll⟩ : ∃ ll, ll = mvL gs (lftS K) h q K := ⟨_, rfl⟩
          have KM : Hid (∀ v w, Sl w v gs → Calls Tryd.prog 16 #[.agg #[v], .agg #[.int .i64 h, .int .i64 q], .string lt] w fun e w' => ∃ v', e = .returned (.tuple #[.agg #[.int .i64 h, .int .i64 qk], v', .int .i64 0]) ∧ w'.ownsRow w.heap.size 2 1 v' ll.length (I64 ll) ∧ Below w.heap.size w w') := fun v w hv => by
            have := MoveHands_i0 v gs h q (lftS K) w hv hn (by rw [lftS_size]; omega) (lftS_kn K)
            rw [lftS_size, mv_lift q0 (by omega) K K (Nat.le_refl _), ← hqk, ← hll, ← hlt] at this
            exact this
          have KS : Hid (∀ v w, Sl w v gs → Calls Tryd.prog 42 #[.agg #[v], .agg #[.int .i64 h, .int .i64 qk]] w fun e w' => e = .returned (.tuple #[.bool true, .int .i64 0]) ∧ Below w.heap.size w w') := fun v w hv => by
            have := StrikesRight_i0 v gs h qk w hv hyv
            rwa [hr] at this
          have iK : (K : Int) < (gs.length : Int) := by omega
          clear hn hw hx hyv hr hqk hlt hll x0 x1 q0 q1
          have c_wh_0 := B_wh.out.cell 0 rfl
          have l_wh := B_wh.out.lt
          have c_st_0 := B_st.out.cell 0 rfl
          have c_st_1 := B_st.out.cell 1 rfl
          have l_st := B_st.out.lt
          go_wp2_with fail
          clear c_wh_0 l_wh c_st_0 c_st_1 l_st
          go_loopw [19, 20] (fun a b wr => ∃ j : Nat, j ≤ K ∧ a = .string (lftS j) ∧ b = .int .i64 (j : Int) ∧ wi = wr) (fun _ b _ => K - (intOf b).toNat)
          case atStart => exact ⟨0, by omega, rfl, by go_num, rfl⟩
          case round =>
            obtain ⟨j, hj, rfl, rfl, hw⟩ := hrel
            subst hw
            by_cases hjl : j < K
            · have i1 : (j : Int) < (K : Int) := by omega
              obtain ⟨t, ht⟩ : ∃ t, t = lftS j := ⟨_, rfl⟩
              have htz : t.size = j := by rw [ht, lftS_size]
              have e1 : ¬ 9223372036854775807 < t.size + 1 := by omega
              have HS := Lib.hid (show lftS (j + 1) = t ++ ⟨#[108]⟩ by rw [ht, lftS_succ])
              rw [← ht]
              clear ht htz
              go_wp2_with fail
              go_roundw
              case rel => exact ⟨j + 1, by omega, by rw [HS.out], by go_num, trivial⟩
              case measure => simp [intOf]; omega
            · obtain rfl : j = K := by omega
              rw [← HLT.out]
              have c_wh_0 := B_wh.out.cell 0 rfl
              have l_wh := B_wh.out.lt
              have c_st_0 := B_st.out.cell 0 rfl
              have c_st_1 := B_st.out.cell 1 rfl
              have l_st := B_st.out.lt
              go_wp2_with fail
              refine (KM.out _ _ (Sl.of_own (own_below O_v.out (by first | (with_reducible exact Below.refl _ _) | go_grown)))).mono ?_
              rintro e w7 ⟨v7, rfl, o_v7, hb⟩
              obtain ⟨A_v7, C_v7, rfl⟩ := own_form o_v7
              have b_w7 : Below wi.heap.size wi w7 := Below.trans (by first | (with_reducible exact Below.refl _ _) | go_grown) (hb.mono (by first | (with_reducible exact Nat.le_refl _) | (with_reducible assumption) | (simp [go_sem]; done) | (simp [go_sem]; omega) | omega))
              replace B_wh := Lib.hid (B_wh.out.below b_w7)
              replace B_st := Lib.hid (B_st.out.below b_w7)
              replace O_v := Lib.hid (own_below O_v.out b_w7)
              replace O_v2 := Lib.hid (own_below O_v2.out b_w7)
              replace O_v3 := Lib.hid (own_below O_v3.out b_w7)
              replace old := Lib.hid (grown_again old.out b_w7)
              replace oldC := Lib.hid (grown_again oldC.out b_w7)
              clear hb b_w7
              have O_v7 := Lib.hid o_v7
              clear o_v7
              clear c_wh_0 l_wh c_st_0 c_st_1 l_st
              have c_wh_0 := B_wh.out.cell 0 rfl
              have l_wh := B_wh.out.lt
              have c_st_0 := B_st.out.cell 0 rfl
              have c_st_1 := B_st.out.cell 1 rfl
              have l_st := B_st.out.lt
              go_wp2_with fail
              refine (KS.out _ _ (Sl.of_own (own_below O_v.out (by first | (with_reducible exact Below.refl _ _) | go_grown)))).mono ?_
              rintro e w8 ⟨rfl, hb⟩
              have b_w8 : Below w7.heap.size w7 w8 := Below.trans (by first | (with_reducible exact Below.refl _ _) | go_grown) (hb.mono (by first | (with_reducible exact Nat.le_refl _) | (with_reducible assumption) | (simp [go_sem]; done) | (simp [go_sem]; omega) | omega))
              replace B_wh := Lib.hid (B_wh.out.below b_w8)
              replace B_st := Lib.hid (B_st.out.below b_w8)
              replace O_v := Lib.hid (own_below O_v.out b_w8)
              replace O_v2 := Lib.hid (own_below O_v2.out b_w8)
              replace O_v3 := Lib.hid (own_below O_v3.out b_w8)
              replace O_v7 := Lib.hid (own_below O_v7.out b_w8)
              have B_z : Hid (Blk w8 (w7.heap.size) 28 #[.int .i64 h, .int .i64 qk]) := Blk.below (by first | exact Blk.new _ _ _ | exact (Blk.new _ _ _).alloc _ | (have h := Blk.new (w7) 28 #[.int .i64 h, .int .i64 qk]; simpa using h)) hb
              replace old := Lib.hid (grown_again old.out b_w8)
              replace oldC := Lib.hid (grown_again oldC.out b_w8)
              clear hb b_w8
              clear c_wh_0 l_wh c_st_0 c_st_1 l_st
              have c_wh_0 := B_wh.out.cell 0 rfl
              have l_wh := B_wh.out.lt
              have c_st_0 := B_st.out.cell 0 rfl
              have c_st_1 := B_st.out.cell 1 rfl
              have l_st := B_st.out.lt
              have c_z_0 := B_z.out.cell 0 rfl
              have c_z_1 := B_z.out.cell 1 rfl
              have l_z := B_z.out.lt
              go_wp2_with fail
              go_ret
              exact ⟨rfl, by first | exact old.out | exact below_drewN old.out _⟩

set_option maxRecDepth 100000 in
theorem fnRightStates_lifted (os : Os) (started : os.Started) (H : Type) (enc : TypeId × Value → H) :
    ReturnsInHanded {} Tryd.checked os 8 .any (fun w args => (Rows.fnRightStatesSpec.pre enc Tryd.prog Tryd.f8 Rows.fnRightStatesRow.domain false w args ∧ laidMetH Tryd.prog Rows.fnRightStatesRow.laid w) ∧ sizedMet enc Tryd.prog Tryd.f8 (OpenSpec.ofChange Rows.fnRightStatesSpec) false w args)
      (Rows.fnRightStatesSpec.post enc Tryd.prog Tryd.f8 false true false false) := by
  refine returnsInHanded_of_change_and (C := Tryd.checked) (X := fun w _ => laidMetH Tryd.prog Rows.fnRightStatesRow.laid w) (fun _ _ _ hh h => h.of_heap hh) Tryd.own started (by kernel_rfl) Tryd.func8
    (ChangeSpec.witness_shaped (enc := enc) (C := Tryd.checked) (os := os) (X := fun w _ => laidMetH Tryd.prog Rows.fnRightStatesRow.laid w) false (World.laidAll Tryd.prog os Rows.fnRightStatesRow.laid) #[.slice none 0 0] 8 (World.laidAll_os _ _ _)
      (World.shaped_of_ZipB (by kernel_rfl) (by kernel_rfl)) (by kernel_rfl) (by kernel_rfl) (by kernel_rfl)
      (by rw [MakeChecks.laidMetH_plain _ _ _ (by kernel_rfl)]; exact laidMet_laidAll _ (by kernel_rfl) (by kernel_rfl))) ?_
  intro W base args ds gs before hval0 hW hcnd _ _ _
  have hval : ∀ (j : Nat) t v, Tryd.f8.params[j]? = some t → args[j]? = some v → Value.okWide Tryd.prog W .any base t v := hval0
  have hW' := hW
  have hltB : ∀ x ∈ before, x.block < W.heap.size := fun x hx => hW.lt x hx
  obtain ⟨p, q, hA0, hV, rfl, hfz, hnd⟩ := hW
  have hA : DataW.TrodAll enc Tryd.prog W 0 (fun _ => true) true Tryd.f8.params.toList args.toList ds p := hA0
  rw [Tryd.params8] at hA hval
  obtain ⟨v0, vs0, d0, ds0, p0, q0, hargs, rfl, rfl, h0, r0⟩ := trodAll_cons hA
  obtain ⟨rfl, rfl, rfl⟩ := trodAll_nil r0
  obtain rfl : args = #[v0] := by cases args; simp_all
  clear hA0 hval0 hA hcnd hfz hnd
  have hlt0 : ∀ x ∈ p0, x.block < W.heap.size := fun x hx => hltB x (by simp [hx])
  obtain ⟨a0, n0, c0, rfl⟩ := okWide_slice Tryd.underlying44 (hval 0 44 v0 rfl rfl)
  obtain ⟨fu0, hf0⟩ := h0
  obtain ⟨bs, hbs, _⟩ := trod_bytes Tryd.underlying44 Tryd.underlying5 (by kernel_rfl) hf0 hlt0
  refine (rightStates_walk _ bs W hbs).mono fun e W' ⟨he, hb⟩ => ?_
  subst he
  exact ⟨_, rfl, post_law Tryd.laidOut hW' rfl rfl (by kernel_rfl) (by kernel_rfl) Tryd.underlying4 hb⟩

set_option maxHeartbeats 2000000 in
theorem fnRightStates_facts : joinedFacts Tryd.prog 8 Tryd.f8 Rows.fnRightStatesSpec Rows.fnRightStatesRow = true := by
  unfold joinedFacts
  simp only [Bool.and_eq_true]
  repeat' apply And.intro
  all_goals first | with_reducible exact Tryd.laidOut | with_reducible exact Tryd.g2 | with_reducible exact Tryd.g24 | with_reducible exact Tryd.g25 | (rw [Tryd.g26]; rfl) | (rw [Tryd.g27]; rfl) | as_aux_lemma => kernel_rfl
/-- The statement. -/
theorem fnRightStates_holds : Rows.FnRightStatesSaid :=
  OpenClaim.holds_of_wide 8 Tryd.f8 rfl rfl rfl rfl rfl rfl rfl ⟨rfl, rfl, rfl, rfl, rfl⟩ rfl rfl rfl rfl rfl (by as_aux_lemma => kernel_rfl) Tryd.func8 fnRightStates_facts
    (by as_aux_lemma => exact of_decide_eq_true (by kernel_rfl)) (by as_aux_lemma => unfold Func.isWrapper; rw [if_neg (of_decide_eq_false (by kernel_rfl))]; exact ⟨rfl, rfl⟩)
    (fun os started H enc _ => fnRightStates_lifted os started H enc)
/-- The card. -/
theorem fnRightStates_card : Rows.FnRightStatesCardSaid :=
  Claim7.holds_tied_plain_at .later [] [.data, .pinned] true (true, "a60b9ccea365084ae19031547614f694475d4502188d491dabf98e0fff8eab37") false fnRightStates_holds (fun _ h => by cases h) (by kernel_rfl) (fun _ h => by cases h) fnRightStates_row_tie rfl ⟨rfl, rfl⟩ (by kernel_rfl) rfl
    (fun f fn hf hfn => by
      obtain rfl : f = 8 := Option.some.inj ((show Tryd.prog.funcNamed "loop.example/g00921/laws.FnRightStates" = some 8 by kernel_rfl).symm.trans hf) |>.symm
      obtain rfl : fn = Tryd.f8 := (Option.some.inj (Tryd.func8.symm.trans hfn)).symm
      exact ⟨by kernel_rfl, fun j t ht => by
        rw [Tryd.params8] at ht
        have hm : t ∈ [44] := by simpa using Array.mem_of_getElem? ht
        have hall : ([44].all fun u => !Tryd.prog.wantsStandIn u) = true := by kernel_rfl
        exact (show Tryd.prog.wantsStandIn t = false by simpa using List.all_eq_true.1 hall t hm)⟩)
    (by kernel_rfl)
#print axioms fnRightStates_card
end Go.Proofs.YtfddibdncniekaaDoor
