/- FnHandPaths is proved: a shortest sequence leads where it should, and no beginning of it does; the answers are the reference's. No condition. -/
import Derived.Test.YtfddibdncniekaaDoorDrL
import Derived.Test.YtfddibdncniekaaDoorDrM
import Derived.Test.YtfddibdncniekaaDoorHnO
import Derived.Test.YtfddibdncniekaaDoorHsW
import Derived.Test.YtfddibdncniekaaDoorCelB
import Derived.Test.YtfddibdncniekaaDoorSeHandState
import Derived.Test.YtfddibdncniekaaDoorRow3
import Derived.Test.YtfddibdncniekaaDoorRowF
import Derived.Test.YtfddibdncniekaaDoorCards
import Derived.Test.YtfddibdncniekaaDoorTie
import Derived.OpenShut
import Derived.LaidMore
import Derived.Lay
import Derived.SevenTiedAt
import Derived.Stop.Joined
import Derived.ChangeMaps5
import Derived.Deep.RegionHeld3
import Derived.Deep.DeepCutAuto
import Derived.Deep.CutBlock
namespace Go.Proofs.YtfddibdncniekaaDoor
open Go.ChangeShapes Go.WideShapes Go.ChangeAt Go.RowKit
attribute [local go_sem ↓] Go.wp_at_zero Go.wp_at_succ

theorem hb_facts (gs : List Int) (h q t u : Int) (s : ByteArray) (hsz : s.size ≤ 9223372036854775807) : ∃ (p : ByteArray) (c : Int), p.size ≤ 288 ∧
    (c = 0 → hnB gs h q = true ∧ knB p = true ∧ mvS gs p h q p.size = (t, u)) ∧
    (∀ v w, Sl w v gs → Calls Tryd.prog 24 #[.agg #[v], .agg #[.int .i64 h, .int .i64 q], .agg #[.int .i64 t, .int .i64 u], .string s] w fun e w' => e = .returned (.tuple #[.string p, .int .i64 c]) ∧ Below w.heap.size w w')
    ∧ (∀ v w, Sl w v gs → Calls Tryd.prog 23 #[.agg #[v], .agg #[.int .i64 h, .int .i64 q], .agg #[.int .i64 t, .int .i64 u], .string s] w fun e w' => e = .returned (.tuple #[.string p, .int .i64 c]) ∧ Below w.heap.size w w') := by
  refine ⟨(hbR gs h q t u s).1, (hbR gs h q t u s).2, hbR_size gs h q t u s, fun e => hb_path e, ?_, ?_⟩
  · intro v w hv
    cases hs : hnB gs h q
    · exact HandsBetween_i1 v gs h q t u s w hv hsz hs
    · cases ht : hnB gs t u
      · exact HandsBetween_i2 v gs h q t u s w hv hsz hs ht
      · exact HandsBetween_i0 v gs h q t u s w hv hsz hs ht
  · intro v w hv
    cases hs : hnB gs h q
    · exact HandsBetween_s1 v gs h q t u s w hv hs
    · cases ht : hnB gs t u
      · exact HandsBetween_s2 v gs h q t u s w hv hs ht
      · cases hk : knB s
        · exact HandsBetween_s7 v gs h q t u s w hv hsz hs ht hk
        · exact HandsBetween_s0 v gs h q t u s w hv hsz hs ht hk
theorem PathToRight_facts (gs : List Int) (h q : Int) (s : ByteArray) (hsz : s.size ≤ 9223372036854775807) : ∃ (p : ByteArray) (c : Int), p.size ≤ 288 ∧
    (c = 0 → hnB gs h q = true ∧ knB p = true ∧ ∀ n, n ≤ p.size → rgB gs (mvS gs p h q n).1 (mvS gs p h q n).2 = (decide (n = p.size) == true)) ∧
    (∀ v w, Sl w v gs → Calls Tryd.prog 26 #[.agg #[v], .agg #[.int .i64 h, .int .i64 q], .string s] w fun e w' => e = .returned (.tuple #[.string p, .int .i64 c]) ∧ Below w.heap.size w w')
    ∧ (∀ v w, Sl w v gs → Calls Tryd.prog 25 #[.agg #[v], .agg #[.int .i64 h, .int .i64 q], .string s] w fun e w' => e = .returned (.tuple #[.string p, .int .i64 c]) ∧ Below w.heap.size w w') := by
  refine ⟨(ptR true gs h q s).1, (ptR true gs h q s).2, ptR_size true gs h q s, fun e => pt_path e, fun v w hv => ?_, fun v w hv => PathToRight_s v gs h q s w hv hsz⟩
  cases hs : hnB gs h q
  · exact PathToRight_i1 v gs h q s w hv hsz hs
  · exact PathToRight_i0 v gs h q s w hv hsz hs
theorem PathToWrong_facts (gs : List Int) (h q : Int) (s : ByteArray) (hsz : s.size ≤ 9223372036854775807) : ∃ (p : ByteArray) (c : Int), p.size ≤ 288 ∧
    (c = 0 → hnB gs h q = true ∧ knB p = true ∧ ∀ n, n ≤ p.size → rgB gs (mvS gs p h q n).1 (mvS gs p h q n).2 = (decide (n = p.size) == false)) ∧
    (∀ v w, Sl w v gs → Calls Tryd.prog 28 #[.agg #[v], .agg #[.int .i64 h, .int .i64 q], .string s] w fun e w' => e = .returned (.tuple #[.string p, .int .i64 c]) ∧ Below w.heap.size w w')
    ∧ (∀ v w, Sl w v gs → Calls Tryd.prog 27 #[.agg #[v], .agg #[.int .i64 h, .int .i64 q], .string s] w fun e w' => e = .returned (.tuple #[.string p, .int .i64 c]) ∧ Below w.heap.size w w') := by
  refine ⟨(ptR false gs h q s).1, (ptR false gs h q s).2, ptR_size false gs h q s, fun e => pt_path e, fun v w hv => ?_, fun v w hv => PathToWrong_s v gs h q s w hv hsz⟩
  cases hs : hnB gs h q
  · exact PathToWrong_i1 v gs h q s w hv hsz hs
  · exact PathToWrong_i0 v gs h q s w hv hsz hs

set_option maxRecDepth 100000 in
set_option maxHeartbeats 16000000 in
theorem handPaths_walk (vb : Value) (bs : List Int) (W : World) (hv : SlB W vb bs) :
    Calls Tryd.prog 9 #[vb] W fun e W' => e = .returned (.bool true) ∧ Below W.heap.size W W' := by
  have HV := Lib.hid hv
  clear hv
  cases hbig : decide (4096 < bs.length) with
  | true =>
    go_enter Tryd.func9, Tryd.ntmps9
    go_wp2_with fail
    refine (f6big_any vb bs _ HV.out _ hbig).mono ?_
    rintro e w' ⟨rfl, rfl⟩
    go_wp2
    go_ret
    exact ⟨rfl, Below.refl _ _⟩
  | false =>
    have HBG := Lib.hid hbig
    clear hbig
    go_enter Tryd.func9, Tryd.ntmps9
    go_wp2_with fail
    refine (f6big_any vb bs _ HV.out _ HBG.out).mono ?_
    rintro e w' ⟨rfl, rfl⟩
    go_wp2_with fail
    refine (DrawHandsBetween_any vb bs _ HV.out).mono ?_
    rintro e w1 ⟨v, gs, h, q, t, u, s, rfl, o_v, hgl, hsz, hb⟩
    obtain ⟨A_v, C_v, rfl⟩ := own_form o_v
    have old := Lib.hid hb
    have O_v := Lib.hid o_v
    clear o_v hb hgl
    obtain ⟨p, pc, hps, hpx, hpi, hpss⟩ := hb_facts gs h q t u s (by omega)
    have HPX := Lib.hid hpx
    have K1 := Lib.hid hpi
    have K2 := Lib.hid hpss
    clear hpx hpi hpss hsz
    go_wp2_with fail
    refine (K1.out _ _ (Sl.of_own (own_below O_v.out (by first | (with_reducible exact Below.refl _ _) | go_grown)))).mono ?_
    rintro e w2 ⟨rfl, hb⟩
    have b_w2 : Below w1.heap.size w1 w2 := Below.trans (by first | (with_reducible exact Below.refl _ _) | go_grown) (hb.mono (by first | (with_reducible exact Nat.le_refl _) | (with_reducible assumption) | (simp [go_sem]; done) | (simp [go_sem]; omega) | omega))
    replace O_v := Lib.hid (own_below O_v.out b_w2)
    have kk := bx3 w1 31 28 28 #[.slice A_v gs.length C_v] #[.int .i64 h, .int .i64 q] #[.int .i64 t, .int .i64 u]
    have B_wh := Lib.hid (kk.1.below hb)
    have B_st := Lib.hid (kk.2.1.below hb)
    have B_tt := Lib.hid (kk.2.2.below hb)
    clear kk
    replace old := Lib.hid (grown_again old.out b_w2)
    clear hb b_w2
    have c_wh_0 := B_wh.out.cell 0 rfl
    have l_wh := B_wh.out.lt
    have c_st_0 := B_st.out.cell 0 rfl
    have c_st_1 := B_st.out.cell 1 rfl
    have l_st := B_st.out.lt
    have c_tt_0 := B_tt.out.cell 0 rfl
    have c_tt_1 := B_tt.out.cell 1 rfl
    have l_tt := B_tt.out.lt
    go_wp2_with fail
    refine (K2.out _ _ (Sl.of_own (own_below O_v.out (by first | (with_reducible exact Below.refl _ _) | go_grown)))).mono ?_
    rintro e w3 ⟨rfl, hb⟩
    have b_w3 : Below w2.heap.size w2 w3 := Below.trans (by first | (with_reducible exact Below.refl _ _) | go_grown) (hb.mono (by first | (with_reducible exact Nat.le_refl _) | (with_reducible assumption) | (simp [go_sem]; done) | (simp [go_sem]; omega) | omega))
    replace B_wh := Lib.hid (B_wh.out.below b_w3)
    replace B_st := Lib.hid (B_st.out.below b_w3)
    replace B_tt := Lib.hid (B_tt.out.below b_w3)
    replace O_v := Lib.hid (own_below O_v.out b_w3)
    replace old := Lib.hid (grown_again old.out b_w3)
    clear hb b_w3
    clear c_wh_0 l_wh c_st_0 c_st_1 l_st c_tt_0 c_tt_1 l_tt
    have c_wh_0 := B_wh.out.cell 0 rfl
    have l_wh := B_wh.out.lt
    have c_st_0 := B_st.out.cell 0 rfl
    have c_st_1 := B_st.out.cell 1 rfl
    have l_st := B_st.out.lt
    have c_tt_0 := B_tt.out.cell 0 rfl
    have c_tt_1 := B_tt.out.cell 1 rfl
    have l_tt := B_tt.out.lt
    obtain ⟨cd, hcd⟩ : ∃ cd : Bool, cd = decide (pc = 0 ∧ p.size ≤ 60) := ⟨_, rfl⟩
    have HCD := Lib.hid hcd
    clear hcd
    go_upto_region 8 with fail
    go_cut [76] (fun a wr => a = .bool cd ∧ w3 = wr)
    case first =>
      by_cases hc : pc = 0
      · subst hc
        by_cases h60 : p.size ≤ 60
        · have i60 : (p.size : Int) ≤ 60 := by omega
          have e := Lib.hid (show cd = true by rw [HCD.out]; simp [h60])
          clear h60
          go_wp2_with fail
          go_meet
          exact ⟨by rw [e.out], rfl⟩
        · have i60 : ¬ (p.size : Int) ≤ 60 := by omega
          have e := Lib.hid (show cd = false by rw [HCD.out]; simp; omega)
          clear h60
          go_wp2_with fail
          go_meet
          exact ⟨by rw [e.out], rfl⟩
      · have hne : (pc == 0) = false := by simpa using hc
        have e := Lib.hid (show cd = false by rw [HCD.out]; simp [hc])
        go_wp2_with fail
        go_meet
        exact ⟨by rw [e.out], rfl⟩
    case rest =>
      obtain ⟨rfl, hw⟩ := hcut
      subst hw
      go_upto_if 76 with fail
      go_cut [] (fun wr => Below w3.heap.size w3 wr)
      case first =>
        cases cd with
        | true =>
          obtain ⟨hc, h60⟩ := of_decide_eq_true HCD.out.symm
          subst hc
          obtain ⟨hn, hk, hmv⟩ := HPX.out rfl
          obtain ⟨ll, hll⟩ : ∃ ll, ll = mvL gs p h q p.size := ⟨_, rfl⟩
          have KM : Hid (∀ v w, Sl w v gs → Calls Tryd.prog 16 #[.agg #[v], .agg #[.int .i64 h, .int .i64 q], .string p] w fun e w' => ∃ v', e = .returned (.tuple #[.agg #[.int .i64 t, .int .i64 u], v', .int .i64 0]) ∧ w'.ownsRow w.heap.size 2 1 v' ll.length (I64 ll) ∧ Below w.heap.size w w') := fun v w hv => by
            have := MoveHands_i0 v gs h q p w hv hn h60 hk
            rwa [hmv, ← hll] at this
          clear hn hk hmv hll
          have oldC := Lib.hid (Below.refl w3.heap.size w3)
          clear c_wh_0 l_wh c_st_0 c_st_1 l_st c_tt_0 c_tt_1 l_tt
          have c_wh_0 := B_wh.out.cell 0 rfl
          have l_wh := B_wh.out.lt
          have c_st_0 := B_st.out.cell 0 rfl
          have c_st_1 := B_st.out.cell 1 rfl
          have l_st := B_st.out.lt
          have c_tt_0 := B_tt.out.cell 0 rfl
          have c_tt_1 := B_tt.out.cell 1 rfl
          have l_tt := B_tt.out.lt
          go_wp2_with fail
          refine (KM.out _ _ (Sl.of_own (own_below O_v.out (by first | (with_reducible exact Below.refl _ _) | go_grown)))).mono ?_
          rintro e w4 ⟨v5, rfl, o_v5, hb⟩
          obtain ⟨A_v5, C_v5, rfl⟩ := own_form o_v5
          have b_w4 : Below w3.heap.size w3 w4 := Below.trans (by first | (with_reducible exact Below.refl _ _) | go_grown) (hb.mono (by first | (with_reducible exact Nat.le_refl _) | (with_reducible assumption) | (simp [go_sem]; done) | (simp [go_sem]; omega) | omega))
          replace B_wh := Lib.hid (B_wh.out.below b_w4)
          replace B_st := Lib.hid (B_st.out.below b_w4)
          replace B_tt := Lib.hid (B_tt.out.below b_w4)
          replace O_v := Lib.hid (own_below O_v.out b_w4)
          replace old := Lib.hid (grown_again old.out b_w4)
          replace oldC := Lib.hid (grown_again oldC.out b_w4)
          clear hb b_w4
          have O_v5 := Lib.hid o_v5
          clear o_v5
          clear c_wh_0 l_wh c_st_0 c_st_1 l_st c_tt_0 c_tt_1 l_tt
          have c_wh_0 := B_wh.out.cell 0 rfl
          have l_wh := B_wh.out.lt
          have c_st_0 := B_st.out.cell 0 rfl
          have c_st_1 := B_st.out.cell 1 rfl
          have l_st := B_st.out.lt
          have c_tt_0 := B_tt.out.cell 0 rfl
          have c_tt_1 := B_tt.out.cell 1 rfl
          have l_tt := B_tt.out.lt
          go_wp2_with fail
          go_meet
          exact grown_again oldC.out (by go_grown)
        | false =>
          go_wp2_with fail
          go_meet
          exact Below.refl _ _
      clear c_wh_0 l_wh c_st_0 c_st_1 l_st c_tt_0 c_tt_1 l_tt
      case rest =>
        obtain ⟨wr0, rfl⟩ : ∃ y : World, y = wc := ⟨_, rfl⟩
        have hb := hcut
        clear hcut
        have b_wr0 : Below w3.heap.size w3 wr0 := Below.trans (by first | (with_reducible exact Below.refl _ _) | go_grown) (hb.mono (by first | (with_reducible exact Nat.le_refl _) | (with_reducible assumption) | (simp [go_sem]; done) | (simp [go_sem]; omega) | omega))
        replace B_wh := Lib.hid (B_wh.out.below b_wr0)
        replace B_st := Lib.hid (B_st.out.below b_wr0)
        replace B_tt := Lib.hid (B_tt.out.below b_wr0)
        replace O_v := Lib.hid (own_below O_v.out b_wr0)
        replace old := Lib.hid (grown_again old.out b_wr0)
        clear hb b_wr0
        clear B_wh B_st B_tt O_v K1 K2 HPX
        go_wp2_with fail
        refine (DrawPathToWrong_any vb bs _ (HV.out.below (grown_again old.out (by first | (with_reducible exact Below.refl _ _) | go_grown)))).mono ?_
        rintro e wd ⟨v, gs, h, q, s, rfl, o_v, hgl, hsz, hb⟩
        obtain ⟨A_v, C_v, rfl⟩ := own_form o_v
        have b_wd : Below wr0.heap.size wr0 wd := Below.trans (by first | (with_reducible exact Below.refl _ _) | go_grown) (hb.mono (by first | (with_reducible exact Nat.le_refl _) | (with_reducible assumption) | (simp [go_sem]; done) | (simp [go_sem]; omega) | omega))
        replace old := Lib.hid (grown_again old.out b_wd)
        clear hb b_wd
        have O_v := Lib.hid o_v
        clear o_v hgl
        obtain ⟨p, pc, hps, hpx, hpi, hpss⟩ := PathToWrong_facts gs h q s (by omega)
        obtain ⟨r, rc, hrs, hrx, hri, hrss⟩ := PathToRight_facts gs h q s (by omega)
        have HPX := Lib.hid hpx
        have HRX := Lib.hid hrx
        have K1 := Lib.hid hpi
        have K2 := Lib.hid hri
        have K3 := Lib.hid hpss
        have K4 := Lib.hid hrss
        clear hpx hpi hpss hrx hri hrss hsz
        go_wp2_with fail
        refine (K1.out _ _ (Sl.of_own (own_below O_v.out (by first | (with_reducible exact Below.refl _ _) | go_grown)))).mono ?_
        rintro e w4 ⟨rfl, hb⟩
        have b_w4 : Below wd.heap.size wd w4 := Below.trans (by first | (with_reducible exact Below.refl _ _) | go_grown) (hb.mono (by first | (with_reducible exact Nat.le_refl _) | (with_reducible assumption) | (simp [go_sem]; done) | (simp [go_sem]; omega) | omega))
        replace O_v := Lib.hid (own_below O_v.out b_w4)
        have B_wh : Hid (Blk w4 (wd.heap.size) 31 #[.slice A_v gs.length C_v]) := Blk.below (by first | exact Blk.new _ _ _ | exact (Blk.new _ _ _).alloc _ | (have h := Blk.new (wd) 31 #[.slice A_v gs.length C_v]; simpa using h)) hb
        have B_st : Hid (Blk w4 (wd.heap.size + 1) 28 #[.int .i64 h, .int .i64 q]) := Blk.below (by first | exact Blk.new _ _ _ | exact (Blk.new _ _ _).alloc _ | (have h := Blk.new (wd.alloc (.cells #[.slice A_v gs.length C_v] 31)) 28 #[.int .i64 h, .int .i64 q]; simpa using h)) hb
        replace old := Lib.hid (grown_again old.out b_w4)
        clear hb b_w4
        have c_wh_0 := B_wh.out.cell 0 rfl
        have l_wh := B_wh.out.lt
        have c_st_0 := B_st.out.cell 0 rfl
        have c_st_1 := B_st.out.cell 1 rfl
        have l_st := B_st.out.lt
        go_wp2_with fail
        refine (K2.out _ _ (Sl.of_own (own_below O_v.out (by first | (with_reducible exact Below.refl _ _) | go_grown)))).mono ?_
        rintro e w5 ⟨rfl, hb⟩
        have b_w5 : Below w4.heap.size w4 w5 := Below.trans (by first | (with_reducible exact Below.refl _ _) | go_grown) (hb.mono (by first | (with_reducible exact Nat.le_refl _) | (with_reducible assumption) | (simp [go_sem]; done) | (simp [go_sem]; omega) | omega))
        replace B_wh := Lib.hid (B_wh.out.below b_w5)
        replace B_st := Lib.hid (B_st.out.below b_w5)
        replace O_v := Lib.hid (own_below O_v.out b_w5)
        replace old := Lib.hid (grown_again old.out b_w5)
        clear hb b_w5
        clear c_wh_0 l_wh c_st_0 c_st_1 l_st
        have c_wh_0 := B_wh.out.cell 0 rfl
        have l_wh := B_wh.out.lt
        have c_st_0 := B_st.out.cell 0 rfl
        have c_st_1 := B_st.out.cell 1 rfl
        have l_st := B_st.out.lt
        go_wp2_with fail
        refine (K3.out _ _ (Sl.of_own (own_below O_v.out (by first | (with_reducible exact Below.refl _ _) | go_grown)))).mono ?_
        rintro e w6 ⟨rfl, hb⟩
        have b_w6 : Below w5.heap.size w5 w6 := Below.trans (by first | (with_reducible exact Below.refl _ _) | go_grown) (hb.mono (by first | (with_reducible exact Nat.le_refl _) | (with_reducible assumption) | (simp [go_sem]; done) | (simp [go_sem]; omega) | omega))
        replace B_wh := Lib.hid (B_wh.out.below b_w6)
        replace B_st := Lib.hid (B_st.out.below b_w6)
        replace O_v := Lib.hid (own_below O_v.out b_w6)
        replace old := Lib.hid (grown_again old.out b_w6)
        clear hb b_w6
        clear c_wh_0 l_wh c_st_0 c_st_1 l_st
        have c_wh_0 := B_wh.out.cell 0 rfl
        have l_wh := B_wh.out.lt
        have c_st_0 := B_st.out.cell 0 rfl
        have c_st_1 := B_st.out.cell 1 rfl
        have l_st := B_st.out.lt
        go_wp2_with fail
        refine (K4.out _ _ (Sl.of_own (own_below O_v.out (by first | (with_reducible exact Below.refl _ _) | go_grown)))).mono ?_
        rintro e w7 ⟨rfl, hb⟩
        have b_w7 : Below w6.heap.size w6 w7 := Below.trans (by first | (with_reducible exact Below.refl _ _) | go_grown) (hb.mono (by first | (with_reducible exact Nat.le_refl _) | (with_reducible assumption) | (simp [go_sem]; done) | (simp [go_sem]; omega) | omega))
        replace B_wh := Lib.hid (B_wh.out.below b_w7)
        replace B_st := Lib.hid (B_st.out.below b_w7)
        replace O_v := Lib.hid (own_below O_v.out b_w7)
        replace old := Lib.hid (grown_again old.out b_w7)
        clear hb b_w7
        clear c_wh_0 l_wh c_st_0 c_st_1 l_st
        have c_wh_0 := B_wh.out.cell 0 rfl
        have l_wh := B_wh.out.lt
        have c_st_0 := B_st.out.cell 0 rfl
        have c_st_1 := B_st.out.cell 1 rfl
        have l_st := B_st.out.lt
        go_wp2_with fail
        clear c_wh_0 l_wh c_st_0 c_st_1 l_st
        go_loopw [25] (fun a wr => ∃ k : Nat, k ≤ 61 ∧ a = .int .i64 (k : Int) ∧ Hid (Below w7.heap.size w7 wr)) (fun a _ => 61 - (intOf a).toNat)
        case atStart => exact ⟨0, by omega, by go_num, Lib.hid (by first | exact Below.refl _ _ | exact below_drewN (Below.refl _ _) _)⟩
        case round =>
          obtain ⟨k, hk61, rfl, hBa⟩ := hrel
          obtain ⟨wka, rfl⟩ : ∃ y : World, y = wr := ⟨_, rfl⟩
          have hb := hBa.out
          have oldC := Lib.hid (Below.refl w7.heap.size w7)
          have b_wka : Below w7.heap.size w7 wka := Below.trans (by first | (with_reducible exact Below.refl _ _) | go_grown) (hb.mono (by first | (with_reducible exact Nat.le_refl _) | (with_reducible assumption) | (simp [go_sem]; done) | (simp [go_sem]; omega) | omega))
          replace B_wh := Lib.hid (B_wh.out.below b_wka)
          replace B_st := Lib.hid (B_st.out.below b_wka)
          replace O_v := Lib.hid (own_below O_v.out b_wka)
          replace old := Lib.hid (grown_again old.out b_wka)
          replace oldC := Lib.hid (grown_again oldC.out b_wka)
          clear hb b_wka
          obtain ⟨cd, hcd⟩ : ∃ cd : Bool, cd = decide (pc = 0 ∧ k ≤ p.size ∧ k ≤ 60) := ⟨_, rfl⟩
          have HCD := Lib.hid hcd
          clear hcd
          go_upto_region 20 with fail
          go_cut [155] (fun a wr => a = .bool cd ∧ wka = wr)
          case first =>
            by_cases hc : pc = 0
            · subst hc
              by_cases hks : k ≤ p.size
              · have i1 : (k : Int) ≤ (p.size : Int) := by omega
                by_cases hk60 : k ≤ 60
                · have i2 : (k : Int) ≤ 60 := by omega
                  have e := Lib.hid (show cd = true by rw [HCD.out]; simp [hks, hk60])
                  clear hks hk60
                  go_wp2_with fail
                  go_meet
                  exact ⟨by rw [e.out], rfl⟩
                · have i2 : ¬ (k : Int) ≤ 60 := by omega
                  have e := Lib.hid (show cd = false by rw [HCD.out]; simp; omega)
                  clear hks hk60
                  go_wp2_with fail
                  go_meet
                  exact ⟨by rw [e.out], rfl⟩
              · have i1 : ¬ (k : Int) ≤ (p.size : Int) := by omega
                have e := Lib.hid (show cd = false by rw [HCD.out]; simp; omega)
                clear hks
                go_wp2_with fail
                go_meet
                exact ⟨by rw [e.out], rfl⟩
            · have hne : (pc == 0) = false := by simpa using hc
              have e := Lib.hid (show cd = false by rw [HCD.out]; simp [hc])
              go_wp2_with fail
              go_meet
              exact ⟨by rw [e.out], rfl⟩
          case rest =>
            obtain ⟨rfl, hw⟩ := hcut
            subst hw
            cases cd with
            | true =>
              obtain ⟨hc, hks, hk60⟩ := of_decide_eq_true HCD.out.symm
              subst hc
              clear HCD
              obtain ⟨hn, hkn, hrg⟩ := HPX.out rfl
              obtain ⟨s1, hs1⟩ : ∃ s1, p.extract 0 k = s1 := ⟨_, rfl⟩
              have hz1 : s1.size = k := by rw [← hs1, size_ext hks]; omega
              have hk1 : knB s1 = true := by rw [← hs1]; exact knB_ext hks hkn
              have hp1 := mv_pre (gs := gs) (s := p) (s1 := s1) (h := h) (q := q) (n := k) (fun j hj => by rw [← hs1, bY_ext hks (by omega), Nat.zero_add]) k (Nat.le_refl _)
              have hrk := hrg k hks
              obtain ⟨y, hy⟩ : ∃ y, y = mvS gs p h q k := ⟨_, rfl⟩
              obtain ⟨ll, hll⟩ : ∃ ll, ll = mvL gs p h q k := ⟨_, rfl⟩
              have hyv : hnB gs y.1 y.2 = true := hnB_iff.2 ⟨(hnB_iff.1 hn).1, by rw [hy]; exact mvS_in (whB_iff.1 (hnB_iff.1 hn).1).2.1 _ (hnB_iff.1 hn).2 k⟩
              rw [← hy] at hrk hp1
              rw [← hll] at hp1
              have hlln : ll.length ≤ 60 := by rw [hll]; have := mvL_length gs p h q k; omega
              obtain ⟨b, hbd⟩ : ∃ b : Bool, b = rgB gs y.1 y.2 := ⟨_, rfl⟩
              have hbk : b = decide (k < p.size) := by rw [hbd, hrk]; (by_cases h9 : k = p.size; (rw [decide_eq_true h9, decide_eq_false (by omega : ¬ k < p.size)]; rfl); (rw [decide_eq_false h9, decide_eq_true (by omega : k < p.size)]; rfl))
              have KM : Hid (∀ v w, Sl w v gs → Calls Tryd.prog 16 #[.agg #[v], .agg #[.int .i64 h, .int .i64 q], .string s1] w fun e w' => ∃ v', e = .returned (.tuple #[.agg #[.int .i64 y.1, .int .i64 y.2], v', .int .i64 0]) ∧ w'.ownsRow w.heap.size 2 1 v' ll.length (I64 ll) ∧ Below w.heap.size w w') := fun v w hv => by
                have := MoveHands_i0 v gs h q s1 w hv hn (by omega) hk1
                rwa [hz1, hp1.1, hp1.2] at this
              have KS : Hid (∀ v w, Sl w v gs → Calls Tryd.prog 42 #[.agg #[v], .agg #[.int .i64 y.1, .int .i64 y.2]] w fun e w' => e = .returned (.tuple #[.bool b, .int .i64 0]) ∧ Below w.heap.size w w') := fun v w hv => by
                have := StrikesRight_i0 v gs y.1 y.2 w hv hyv
                rwa [← hbd] at this
              have HBK := Lib.hid hbk
              have j0 : (0 : Int) ≤ (k : Int) := by omega
              have HJn := Lib.hid (show ((k : Int)).toNat = k by omega)
              clear hn hkn hrg hz1 hk1 hp1 hrk hy hll hyv hbd hbk
              have c_wh_0 := B_wh.out.cell 0 rfl
              have l_wh := B_wh.out.lt
              have c_st_0 := B_st.out.cell 0 rfl
              have c_st_1 := B_st.out.cell 1 rfl
              have l_st := B_st.out.lt
              have eJn := HJn.out
              go_upto_region 22 with (fail)
              go_cut [26, 27, 28] (fun a0 a1 a2 wr => ∃ (gm : Nat) (vm : Value), a0 = .pointer (some ⟨gm, 0, none⟩) ∧ vm = a1 ∧ a2 = .int .i64 0 ∧ (wka.heap.size ≤ gm ∧ gm < wr.heap.size) ∧ wr.cell? ⟨gm, 0, none⟩ = some (.int .i64 y.1) ∧ wr.cell? ⟨gm, 1, none⟩ = some (.int .i64 y.2) ∧ Below wka.heap.size wka wr)
              case first =>
                have HSr := Lib.hid (fun (w' : World) (hb : Below wka.heap.size wka w') => (⟨(B_wh.out.below hb).cell 0 rfl, (B_st.out.below hb).cell 0 rfl, (B_st.out.below hb).cell 1 rfl⟩ : w'.cell? ⟨wd.heap.size, 0, none⟩ = some (.slice A_v gs.length C_v) ∧ w'.cell? ⟨wd.heap.size + 1, 0, none⟩ = some (.int .i64 h) ∧ w'.cell? ⟨wd.heap.size + 1, 1, none⟩ = some (.int .i64 q)))
                go_region_held3 (fun w' => w'.cell? ⟨wd.heap.size, 0, none⟩ = some (.slice A_v gs.length C_v) ∧ w'.cell? ⟨wd.heap.size + 1, 0, none⟩ = some (.int .i64 h) ∧ w'.cell? ⟨wd.heap.size + 1, 1, none⟩ = some (.int .i64 q)) (first | assumption | (refine HSr.out _ ?_; go_grown; done) | ((try dsimp only); (repeat' apply And.intro) <;> (first | assumption | (simp [go_sem, *]; done))) | go_keep)
                  ((go_at_call 16; refine (KM.out _ _ (Sl.of_own (own_below O_v.out (by first | (with_reducible exact Below.refl _ _) | go_grown)))).mono ?_; rintro e wn ⟨vn, rfl, on, hb2⟩; obtain ⟨An, Cn, rfl⟩ := own_form on; have BN : Below wka.heap.size wka wn := Below.trans (by first | (with_reducible exact Below.refl _ _) | go_grown) (hb2.mono (by first | (with_reducible exact Nat.le_refl _) | (with_reducible assumption) | (simp [go_sem]; done) | (simp [go_sem]; omega) | omega)); have SN := HSr.out wn BN; have yn := BN.size; obtain ⟨hcn, hfn⟩ := bcell hb2; (try (have an : wka.heap.size < wn.heap.size := Nat.lt_of_lt_of_le (by first | assumption | (simp [go_sem]; done) | (simp only [go_sem]; omega) | (simp [go_sem]; omega)) hb2.size)); clear hb2 on eJn))
                all_goals (go_wp2_with fail; go_meet)
                all_goals refine ⟨_, .slice An ll.length Cn, rfl, rfl, rfl, ⟨?_, ?_⟩, ?_, ?_, ?_⟩
                all_goals first
                  | (with_reducible exact Nat.le_refl _) | (with_reducible assumption)
                  | (go_grown; done)
                  | (simp [go_sem, *]; done)
                  | (simp; omega)
              case rest =>
                clear eJn
                obtain ⟨wj, rfl⟩ : ∃ x : World, x = wc := ⟨_, rfl⟩
                obtain ⟨gy, v5, rfl, rfl, rfl, ⟨g0, g1⟩, e0, e1, hb⟩ := hcut
                have b_wj : Below wka.heap.size wka wj := Below.trans (by first | (with_reducible exact Below.refl _ _) | go_grown) (hb.mono (by first | (with_reducible exact Nat.le_refl _) | (with_reducible assumption) | (simp [go_sem]; done) | (simp [go_sem]; omega) | omega))
                replace B_wh := Lib.hid (B_wh.out.below b_wj)
                replace B_st := Lib.hid (B_st.out.below b_wj)
                replace O_v := Lib.hid (own_below O_v.out b_wj)
                replace old := Lib.hid (grown_again old.out b_wj)
                replace oldC := Lib.hid (grown_again oldC.out b_wj)
                clear hb b_wj
                have B_y := Lib.hid (Cels.two g1 e0 e1)
                clear g0 g1 e0 e1
                clear c_wh_0 l_wh c_st_0 c_st_1 l_st
                have c_wh_0 := B_wh.out.cell 0 rfl
                have l_wh := B_wh.out.lt
                have c_st_0 := B_st.out.cell 0 rfl
                have c_st_1 := B_st.out.cell 1 rfl
                have l_st := B_st.out.lt
                have c_y_0 := B_y.out.cell 0 rfl
                have c_y_1 := B_y.out.cell 1 rfl
                have l_y := B_y.out.lt
                go_wp2_with fail
                refine (KS.out _ _ (Sl.of_own (own_below O_v.out (by first | (with_reducible exact Below.refl _ _) | go_grown)))).mono ?_
                rintro e w8 ⟨rfl, hb⟩
                have b_w8 : Below wj.heap.size wj w8 := Below.trans (by first | (with_reducible exact Below.refl _ _) | go_grown) (hb.mono (by first | (with_reducible exact Nat.le_refl _) | (with_reducible assumption) | (simp [go_sem]; done) | (simp [go_sem]; omega) | omega))
                replace B_wh := Lib.hid (B_wh.out.below b_w8)
                replace B_st := Lib.hid (B_st.out.below b_w8)
                replace B_y := Lib.hid (B_y.out.below b_w8)
                replace O_v := Lib.hid (own_below O_v.out b_w8)
                replace old := Lib.hid (grown_again old.out b_w8)
                replace oldC := Lib.hid (grown_again oldC.out b_w8)
                clear hb b_w8
                clear c_wh_0 l_wh c_st_0 c_st_1 l_st c_y_0 c_y_1 l_y
                have c_wh_0 := B_wh.out.cell 0 rfl
                have l_wh := B_wh.out.lt
                have c_st_0 := B_st.out.cell 0 rfl
                have c_st_1 := B_st.out.cell 1 rfl
                have l_st := B_st.out.lt
                have c_y_0 := B_y.out.cell 0 rfl
                have c_y_1 := B_y.out.cell 1 rfl
                have l_y := B_y.out.lt
                have hbk := HBK.out
                by_cases hlt : k < p.size
                · have i3 : (k : Int) < (p.size : Int) := by omega
                  have hb1 : b = true := by rw [hbk]; exact decide_eq_true hlt
                  clear hbk HBK
                  subst hb1
                  go_wp2_with fail
                  go_roundw
                  case rel => exact ⟨k + 1, by omega, by go_num, Lib.hid (by first | exact oldC.out | exact below_drewN oldC.out _)⟩
                  case measure => simp [intOf]; omega
                · have i3 : ¬ (k : Int) < (p.size : Int) := by omega
                  have hb1 : b = false := by rw [hbk]; exact decide_eq_false hlt
                  clear hbk HBK
                  subst hb1
                  go_wp2_with fail
                  go_roundw
                  case rel => exact ⟨k + 1, by omega, by go_num, Lib.hid (by first | exact oldC.out | exact below_drewN oldC.out _)⟩
                  case measure => simp [intOf]; omega
            | false =>
              clear HCD
              have c_wh_0 := B_wh.out.cell 0 rfl
              have l_wh := B_wh.out.lt
              have c_st_0 := B_st.out.cell 0 rfl
              have c_st_1 := B_st.out.cell 1 rfl
              have l_st := B_st.out.lt
              go_wp2_with fail
              clear c_wh_0 l_wh c_st_0 c_st_1 l_st
              go_loopw [31] (fun a wr => ∃ k : Nat, k ≤ 61 ∧ a = .int .i64 (k : Int) ∧ Hid (Below wka.heap.size wka wr)) (fun a _ => 61 - (intOf a).toNat)
              case atStart => exact ⟨0, by omega, by go_num, Lib.hid (by first | exact Below.refl _ _ | exact below_drewN (Below.refl _ _) _)⟩
              case round =>
                obtain ⟨k, hk61, rfl, hBb⟩ := hrel
                obtain ⟨wkb, rfl⟩ : ∃ y : World, y = wr := ⟨_, rfl⟩
                have hb := hBb.out
                have oldC := Lib.hid (Below.refl wka.heap.size wka)
                have b_wkb : Below wka.heap.size wka wkb := Below.trans (by first | (with_reducible exact Below.refl _ _) | go_grown) (hb.mono (by first | (with_reducible exact Nat.le_refl _) | (with_reducible assumption) | (simp [go_sem]; done) | (simp [go_sem]; omega) | omega))
                replace B_wh := Lib.hid (B_wh.out.below b_wkb)
                replace B_st := Lib.hid (B_st.out.below b_wkb)
                replace O_v := Lib.hid (own_below O_v.out b_wkb)
                replace old := Lib.hid (grown_again old.out b_wkb)
                replace oldC := Lib.hid (grown_again oldC.out b_wkb)
                clear hb b_wkb
                obtain ⟨cd, hcd⟩ : ∃ cd : Bool, cd = decide (rc = 0 ∧ k ≤ r.size ∧ k ≤ 60) := ⟨_, rfl⟩
                have HCD := Lib.hid hcd
                clear hcd
                go_upto_region 27 with fail
                go_cut [199] (fun a wr => a = .bool cd ∧ wkb = wr)
                case first =>
                  by_cases hc : rc = 0
                  · subst hc
                    by_cases hks : k ≤ r.size
                    · have i1 : (k : Int) ≤ (r.size : Int) := by omega
                      by_cases hk60 : k ≤ 60
                      · have i2 : (k : Int) ≤ 60 := by omega
                        have e := Lib.hid (show cd = true by rw [HCD.out]; simp [hks, hk60])
                        clear hks hk60
                        go_wp2_with fail
                        go_meet
                        exact ⟨by rw [e.out], rfl⟩
                      · have i2 : ¬ (k : Int) ≤ 60 := by omega
                        have e := Lib.hid (show cd = false by rw [HCD.out]; simp; omega)
                        clear hks hk60
                        go_wp2_with fail
                        go_meet
                        exact ⟨by rw [e.out], rfl⟩
                    · have i1 : ¬ (k : Int) ≤ (r.size : Int) := by omega
                      have e := Lib.hid (show cd = false by rw [HCD.out]; simp; omega)
                      clear hks
                      go_wp2_with fail
                      go_meet
                      exact ⟨by rw [e.out], rfl⟩
                  · have hne : (rc == 0) = false := by simpa using hc
                    have e := Lib.hid (show cd = false by rw [HCD.out]; simp [hc])
                    go_wp2_with fail
                    go_meet
                    exact ⟨by rw [e.out], rfl⟩
                case rest =>
                  obtain ⟨rfl, hw⟩ := hcut
                  subst hw
                  cases cd with
                  | true =>
                    obtain ⟨hc, hks, hk60⟩ := of_decide_eq_true HCD.out.symm
                    subst hc
                    clear HCD
                    obtain ⟨hn, hkn, hrg⟩ := HRX.out rfl
                    obtain ⟨s1, hs1⟩ : ∃ s1, r.extract 0 k = s1 := ⟨_, rfl⟩
                    have hz1 : s1.size = k := by rw [← hs1, size_ext hks]; omega
                    have hk1 : knB s1 = true := by rw [← hs1]; exact knB_ext hks hkn
                    have hp1 := mv_pre (gs := gs) (s := r) (s1 := s1) (h := h) (q := q) (n := k) (fun j hj => by rw [← hs1, bY_ext hks (by omega), Nat.zero_add]) k (Nat.le_refl _)
                    have hrk := hrg k hks
                    obtain ⟨y, hy⟩ : ∃ y, y = mvS gs r h q k := ⟨_, rfl⟩
                    obtain ⟨ll, hll⟩ : ∃ ll, ll = mvL gs r h q k := ⟨_, rfl⟩
                    have hyv : hnB gs y.1 y.2 = true := hnB_iff.2 ⟨(hnB_iff.1 hn).1, by rw [hy]; exact mvS_in (whB_iff.1 (hnB_iff.1 hn).1).2.1 _ (hnB_iff.1 hn).2 k⟩
                    rw [← hy] at hrk hp1
                    rw [← hll] at hp1
                    have hlln : ll.length ≤ 60 := by rw [hll]; have := mvL_length gs r h q k; omega
                    obtain ⟨b, hbd⟩ : ∃ b : Bool, b = rgB gs y.1 y.2 := ⟨_, rfl⟩
                    have hbk : b = decide (k = r.size) := by rw [hbd, hrk]; simp
                    have KM : Hid (∀ v w, Sl w v gs → Calls Tryd.prog 16 #[.agg #[v], .agg #[.int .i64 h, .int .i64 q], .string s1] w fun e w' => ∃ v', e = .returned (.tuple #[.agg #[.int .i64 y.1, .int .i64 y.2], v', .int .i64 0]) ∧ w'.ownsRow w.heap.size 2 1 v' ll.length (I64 ll) ∧ Below w.heap.size w w') := fun v w hv => by
                      have := MoveHands_i0 v gs h q s1 w hv hn (by omega) hk1
                      rwa [hz1, hp1.1, hp1.2] at this
                    have KS : Hid (∀ v w, Sl w v gs → Calls Tryd.prog 42 #[.agg #[v], .agg #[.int .i64 y.1, .int .i64 y.2]] w fun e w' => e = .returned (.tuple #[.bool b, .int .i64 0]) ∧ Below w.heap.size w w') := fun v w hv => by
                      have := StrikesRight_i0 v gs y.1 y.2 w hv hyv
                      rwa [← hbd] at this
                    have HBK := Lib.hid hbk
                    have j0 : (0 : Int) ≤ (k : Int) := by omega
                    have HJn := Lib.hid (show ((k : Int)).toNat = k by omega)
                    clear hn hkn hrg hz1 hk1 hp1 hrk hy hll hyv hbd hbk
                    have c_wh_0 := B_wh.out.cell 0 rfl
                    have l_wh := B_wh.out.lt
                    have c_st_0 := B_st.out.cell 0 rfl
                    have c_st_1 := B_st.out.cell 1 rfl
                    have l_st := B_st.out.lt
                    have eJn := HJn.out
                    go_upto_region 29 with (fail)
                    go_cut [32, 33, 34] (fun a0 a1 a2 wr => ∃ (gm : Nat) (vm : Value), a0 = .pointer (some ⟨gm, 0, none⟩) ∧ vm = a1 ∧ a2 = .int .i64 0 ∧ (wkb.heap.size ≤ gm ∧ gm < wr.heap.size) ∧ wr.cell? ⟨gm, 0, none⟩ = some (.int .i64 y.1) ∧ wr.cell? ⟨gm, 1, none⟩ = some (.int .i64 y.2) ∧ Below wkb.heap.size wkb wr)
                    case first =>
                      have HSr := Lib.hid (fun (w' : World) (hb : Below wkb.heap.size wkb w') => (⟨(B_wh.out.below hb).cell 0 rfl, (B_st.out.below hb).cell 0 rfl, (B_st.out.below hb).cell 1 rfl⟩ : w'.cell? ⟨wd.heap.size, 0, none⟩ = some (.slice A_v gs.length C_v) ∧ w'.cell? ⟨wd.heap.size + 1, 0, none⟩ = some (.int .i64 h) ∧ w'.cell? ⟨wd.heap.size + 1, 1, none⟩ = some (.int .i64 q)))
                      go_region_held3 (fun w' => w'.cell? ⟨wd.heap.size, 0, none⟩ = some (.slice A_v gs.length C_v) ∧ w'.cell? ⟨wd.heap.size + 1, 0, none⟩ = some (.int .i64 h) ∧ w'.cell? ⟨wd.heap.size + 1, 1, none⟩ = some (.int .i64 q)) (first | assumption | (refine HSr.out _ ?_; go_grown; done) | ((try dsimp only); (repeat' apply And.intro) <;> (first | assumption | (simp [go_sem, *]; done))) | go_keep)
                        ((go_at_call 16; refine (KM.out _ _ (Sl.of_own (own_below O_v.out (by first | (with_reducible exact Below.refl _ _) | go_grown)))).mono ?_; rintro e wn ⟨vn, rfl, on, hb2⟩; obtain ⟨An, Cn, rfl⟩ := own_form on; have BN : Below wkb.heap.size wkb wn := Below.trans (by first | (with_reducible exact Below.refl _ _) | go_grown) (hb2.mono (by first | (with_reducible exact Nat.le_refl _) | (with_reducible assumption) | (simp [go_sem]; done) | (simp [go_sem]; omega) | omega)); have SN := HSr.out wn BN; have yn := BN.size; obtain ⟨hcn, hfn⟩ := bcell hb2; (try (have an : wkb.heap.size < wn.heap.size := Nat.lt_of_lt_of_le (by first | assumption | (simp [go_sem]; done) | (simp only [go_sem]; omega) | (simp [go_sem]; omega)) hb2.size)); clear hb2 on eJn))
                      all_goals (go_wp2_with fail; go_meet)
                      all_goals refine ⟨_, .slice An ll.length Cn, rfl, rfl, rfl, ⟨?_, ?_⟩, ?_, ?_, ?_⟩
                      all_goals first
                        | (with_reducible exact Nat.le_refl _) | (with_reducible assumption)
                        | (go_grown; done)
                        | (simp [go_sem, *]; done)
                        | (simp; omega)
                    case rest =>
                      clear eJn
                      obtain ⟨wj, rfl⟩ : ∃ x : World, x = wc := ⟨_, rfl⟩
                      obtain ⟨gy, v5, rfl, rfl, rfl, ⟨g0, g1⟩, e0, e1, hb⟩ := hcut
                      have b_wj : Below wkb.heap.size wkb wj := Below.trans (by first | (with_reducible exact Below.refl _ _) | go_grown) (hb.mono (by first | (with_reducible exact Nat.le_refl _) | (with_reducible assumption) | (simp [go_sem]; done) | (simp [go_sem]; omega) | omega))
                      replace B_wh := Lib.hid (B_wh.out.below b_wj)
                      replace B_st := Lib.hid (B_st.out.below b_wj)
                      replace O_v := Lib.hid (own_below O_v.out b_wj)
                      replace old := Lib.hid (grown_again old.out b_wj)
                      replace oldC := Lib.hid (grown_again oldC.out b_wj)
                      clear hb b_wj
                      have B_y := Lib.hid (Cels.two g1 e0 e1)
                      clear g0 g1 e0 e1
                      clear c_wh_0 l_wh c_st_0 c_st_1 l_st
                      have c_wh_0 := B_wh.out.cell 0 rfl
                      have l_wh := B_wh.out.lt
                      have c_st_0 := B_st.out.cell 0 rfl
                      have c_st_1 := B_st.out.cell 1 rfl
                      have l_st := B_st.out.lt
                      have c_y_0 := B_y.out.cell 0 rfl
                      have c_y_1 := B_y.out.cell 1 rfl
                      have l_y := B_y.out.lt
                      go_wp2_with fail
                      refine (KS.out _ _ (Sl.of_own (own_below O_v.out (by first | (with_reducible exact Below.refl _ _) | go_grown)))).mono ?_
                      rintro e w8 ⟨rfl, hb⟩
                      have b_w8 : Below wj.heap.size wj w8 := Below.trans (by first | (with_reducible exact Below.refl _ _) | go_grown) (hb.mono (by first | (with_reducible exact Nat.le_refl _) | (with_reducible assumption) | (simp [go_sem]; done) | (simp [go_sem]; omega) | omega))
                      replace B_wh := Lib.hid (B_wh.out.below b_w8)
                      replace B_st := Lib.hid (B_st.out.below b_w8)
                      replace B_y := Lib.hid (B_y.out.below b_w8)
                      replace O_v := Lib.hid (own_below O_v.out b_w8)
                      replace old := Lib.hid (grown_again old.out b_w8)
                      replace oldC := Lib.hid (grown_again oldC.out b_w8)
                      clear hb b_w8
                      clear c_wh_0 l_wh c_st_0 c_st_1 l_st c_y_0 c_y_1 l_y
                      have c_wh_0 := B_wh.out.cell 0 rfl
                      have l_wh := B_wh.out.lt
                      have c_st_0 := B_st.out.cell 0 rfl
                      have c_st_1 := B_st.out.cell 1 rfl
                      have l_st := B_st.out.lt
                      have c_y_0 := B_y.out.cell 0 rfl
                      have c_y_1 := B_y.out.cell 1 rfl
                      have l_y := B_y.out.lt
                      have hbk := HBK.out
                      by_cases hlt : k = r.size
                      · have i3 : ((k : Int) == (r.size : Int)) = true := by simp [hlt]
                        have hb1 : b = true := by rw [hbk]; exact decide_eq_true hlt
                        clear hbk HBK hlt
                        subst hb1
                        go_wp2_with fail
                        go_roundw
                        case rel => exact ⟨k + 1, by omega, by go_num, Lib.hid (by first | exact oldC.out | exact below_drewN oldC.out _)⟩
                        case measure => simp [intOf]; omega
                      · have i3 : ((k : Int) == (r.size : Int)) = false := by simp; omega
                        have hb1 : b = false := by rw [hbk]; exact decide_eq_false hlt
                        clear hbk HBK hlt
                        subst hb1
                        go_wp2_with fail
                        go_roundw
                        case rel => exact ⟨k + 1, by omega, by go_num, Lib.hid (by first | exact oldC.out | exact below_drewN oldC.out _)⟩
                        case measure => simp [intOf]; omega
                  | false =>
                    clear HCD
                    go_wp2_with fail
                    go_ret
                    exact ⟨rfl, by first | exact old.out | exact below_drewN old.out _⟩

set_option maxRecDepth 100000 in
theorem fnHandPaths_lifted (os : Os) (started : os.Started) (H : Type) (enc : TypeId × Value → H) :
    ReturnsInHanded {} Tryd.checked os 9 .any (fun w args => (Rows.fnHandPathsSpec.pre enc Tryd.prog Tryd.f9 Rows.fnHandPathsRow.domain false w args ∧ laidMetH Tryd.prog Rows.fnHandPathsRow.laid w) ∧ sizedMet enc Tryd.prog Tryd.f9 (OpenSpec.ofChange Rows.fnHandPathsSpec) false w args)
      (Rows.fnHandPathsSpec.post enc Tryd.prog Tryd.f9 false true false false) := by
  refine returnsInHanded_of_change_and (C := Tryd.checked) (X := fun w _ => laidMetH Tryd.prog Rows.fnHandPathsRow.laid w) (fun _ _ _ hh h => h.of_heap hh) Tryd.own started (by kernel_rfl) Tryd.func9
    (ChangeSpec.witness_shaped (enc := enc) (C := Tryd.checked) (os := os) (X := fun w _ => laidMetH Tryd.prog Rows.fnHandPathsRow.laid w) false (World.laidAll Tryd.prog os Rows.fnHandPathsRow.laid) #[.slice none 0 0] 8 (World.laidAll_os _ _ _)
      (World.shaped_of_ZipB (by kernel_rfl) (by kernel_rfl)) (by kernel_rfl) (by kernel_rfl) (by kernel_rfl)
      (by rw [MakeChecks.laidMetH_plain _ _ _ (by kernel_rfl)]; exact laidMet_laidAll _ (by kernel_rfl) (by kernel_rfl))) ?_
  intro W base args ds gs before hval0 hW hcnd _ _ _
  have hval : ∀ (j : Nat) t v, Tryd.f9.params[j]? = some t → args[j]? = some v → Value.okWide Tryd.prog W .any base t v := hval0
  have hW' := hW
  have hltB : ∀ x ∈ before, x.block < W.heap.size := fun x hx => hW.lt x hx
  obtain ⟨p, q, hA0, hV, rfl, hfz, hnd⟩ := hW
  have hA : DataW.TrodAll enc Tryd.prog W 0 (fun _ => true) true Tryd.f9.params.toList args.toList ds p := hA0
  rw [Tryd.params9] at hA hval
  obtain ⟨v0, vs0, d0, ds0, p0, q0, hargs, rfl, rfl, h0, r0⟩ := trodAll_cons hA
  obtain ⟨rfl, rfl, rfl⟩ := trodAll_nil r0
  obtain rfl : args = #[v0] := by cases args; simp_all
  clear hA0 hval0 hA hcnd hfz hnd
  have hlt0 : ∀ x ∈ p0, x.block < W.heap.size := fun x hx => hltB x (by simp [hx])
  obtain ⟨a0, n0, c0, rfl⟩ := okWide_slice Tryd.underlying44 (hval 0 44 v0 rfl rfl)
  obtain ⟨fu0, hf0⟩ := h0
  obtain ⟨bs, hbs, _⟩ := trod_bytes Tryd.underlying44 Tryd.underlying5 (by kernel_rfl) hf0 hlt0
  refine (handPaths_walk _ bs W hbs).mono fun e W' ⟨he, hb⟩ => ?_
  subst he
  exact ⟨_, rfl, post_law Tryd.laidOut hW' rfl rfl (by kernel_rfl) (by kernel_rfl) Tryd.underlying4 hb⟩

set_option maxHeartbeats 2000000 in
theorem fnHandPaths_facts : joinedFacts Tryd.prog 9 Tryd.f9 Rows.fnHandPathsSpec Rows.fnHandPathsRow = true := by
  unfold joinedFacts
  simp only [Bool.and_eq_true]
  repeat' apply And.intro
  all_goals first | with_reducible exact Tryd.laidOut | with_reducible exact Tryd.g2 | with_reducible exact Tryd.g24 | with_reducible exact Tryd.g25 | (rw [Tryd.g26]; rfl) | (rw [Tryd.g27]; rfl) | as_aux_lemma => kernel_rfl
/-- The statement. -/
theorem fnHandPaths_holds : Rows.FnHandPathsSaid :=
  OpenClaim.holds_of_wide 9 Tryd.f9 rfl rfl rfl rfl rfl rfl rfl ⟨rfl, rfl, rfl, rfl, rfl⟩ rfl rfl rfl rfl rfl (by as_aux_lemma => kernel_rfl) Tryd.func9 fnHandPaths_facts
    (by as_aux_lemma => exact of_decide_eq_true (by kernel_rfl)) (by as_aux_lemma => unfold Func.isWrapper; rw [if_neg (of_decide_eq_false (by kernel_rfl))]; exact ⟨rfl, rfl⟩)
    (fun os started H enc _ => fnHandPaths_lifted os started H enc)
/-- The card. -/
theorem fnHandPaths_card : Rows.FnHandPathsCardSaid :=
  Claim7.holds_tied_plain_at .later [] [.data, .pinned] true (true, "a60b9ccea365084ae19031547614f694475d4502188d491dabf98e0fff8eab37") false fnHandPaths_holds (fun _ h => by cases h) (by kernel_rfl) (fun _ h => by cases h) fnHandPaths_row_tie rfl ⟨rfl, rfl⟩ (by kernel_rfl) rfl
    (fun f fn hf hfn => by
      obtain rfl : f = 9 := Option.some.inj ((show Tryd.prog.funcNamed "loop.example/g00921/laws.FnHandPaths" = some 9 by kernel_rfl).symm.trans hf) |>.symm
      obtain rfl : fn = Tryd.f9 := (Option.some.inj (Tryd.func9.symm.trans hfn)).symm
      exact ⟨by kernel_rfl, fun j t ht => by
        rw [Tryd.params9] at ht
        have hm : t ∈ [44] := by simpa using Array.mem_of_getElem? ht
        have hall : ([44].all fun u => !Tryd.prog.wantsStandIn u) = true := by kernel_rfl
        exact (show Tryd.prog.wantsStandIn t = false by simpa using List.all_eq_true.1 hall t hm)⟩)
    (by kernel_rfl)
#print axioms fnHandPaths_card
end Go.Proofs.YtfddibdncniekaaDoor
