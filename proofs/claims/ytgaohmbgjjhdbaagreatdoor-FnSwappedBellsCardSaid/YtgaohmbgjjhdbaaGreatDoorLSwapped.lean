/- FnSwappedBells is proved: bells that are swapped and swapped back are as before, and texts of barrels are read back; the answers are the reference's. No condition. -/
import Derived.Test.YtgaohmbgjjhdbaaGreatDoorSwP
import Derived.Test.YtgaohmbgjjhdbaaGreatDoorDrSw
import Derived.Test.YtgaohmbgjjhdbaaGreatDoorDrTx
import Derived.Test.YtgaohmbgjjhdbaaGreatDoorDrSm
import Derived.Test.YtgaohmbgjjhdbaaGreatDoorRdB
import Derived.Test.YtgaohmbgjjhdbaaGreatDoorChS
import Derived.Test.YtgaohmbgjjhdbaaGreatDoorRow3
import Derived.Test.YtgaohmbgjjhdbaaGreatDoorRowF
import Derived.Test.YtgaohmbgjjhdbaaGreatDoorGxC
import Derived.Test.YtgaohmbgjjhdbaaGreatDoorCards
import Derived.Test.YtgaohmbgjjhdbaaGreatDoorTie
import Derived.OpenShut
import Derived.LaidMore
import Derived.Lay
import Derived.SevenTiedAt
import Derived.Stop.Joined
import Derived.ChangeMaps5
import Derived.Deep.RegionHeld3
import Derived.Deep.CutBlock
import Derived.Deep.DeepCutAuto
namespace Go.Proofs.YtgaohmbgjjhdbaaGreatDoor
open Go.ChangeShapes Go.WideShapes Go.ChangeAt Go.RowKit
attribute [local go_sem ↓] Go.wp_at_zero Go.wp_at_succ

theorem swap_cases (st bl : Int) (ps : List (Int × Int)) (os : List Int) (hln : os.length ≤ 134217728) : ∃ (sx bx : Int) (ts : List (Int × Int)) (rc : Int),
    ((rc = 0 ∧ sx = st ∧ bx = bl ∧ brB st bl ps = true ∧ ordB os bl = true ∧ ts = srtP (ps.map (swpP os)) ps.length) ∨ ¬ rc = 0) ∧
    (∀ v vo w, SlP w v ps → Sl w vo os → Calls Tryz.prog 6 #[.agg #[.int .i64 st, .int .i64 bl, v], vo] w fun e w' => ∃ v', e = .returned (.tuple #[.agg #[.int .i64 sx, .int .i64 bx, v'], .int .i64 rc]) ∧ w'.ownsRow w.heap.size 49 2 v' ts.length (P64 ts) ∧ Below w.heap.size w w') ∧
    (∀ v vo w, SlP w v ps → Sl w vo os → Calls Tryz.prog 7 #[.agg #[.int .i64 st, .int .i64 bl, v], vo] w fun e w' => ∃ v', e = .returned (.tuple #[.agg #[.int .i64 sx, .int .i64 bx, v'], .int .i64 rc]) ∧ w'.ownsRow w.heap.size 49 2 v' ts.length (P64 ts) ∧ Below w.heap.size w w') := by
  cases hs : brB st bl ps with
  | false => exact ⟨_, _, [], _, Or.inr (by decide), fun v vo w hv hvo => SwapBells_i1 v vo ps st bl os w hv hvo hs, fun v vo w hv _ => SwapBells_s1 v vo ps st bl w hv hs⟩
  | true =>
    cases hf : ordB os bl with
    | false => exact ⟨_, _, [], _, Or.inr (by decide), fun v vo w hv hvo => SwapBells_i2 v vo ps st bl os w hv hvo hln hs hf, fun v vo w hv hvo => SwapBells_s2 v vo ps st bl os w hv hvo hs hf⟩
    | true => exact ⟨st, bl, _, 0, Or.inl ⟨rfl, rfl, rfl, rfl, rfl, rfl⟩, fun v vo w hv hvo => SwapBells_i0 v vo ps st bl os w hv hvo hln hs hf, fun v vo w hv hvo => SwapBells_s0 v vo ps st bl os w hv hvo hs hf⟩
/-- A barrel's text, said and read back. -/
theorem text_cases (st bl : Int) (ps : List (Int × Int)) : ∃ (tx : ByteArray) (rs rm : Int) (rp : List (Int × Int)) (ok : Bool),
    ((ok = true ∧ tx.toList.isEmpty = false ∧ rs = st ∧ rm = bl ∧ rp = ps) ∨ (ok = false ∧ tx = ⟨#[]⟩)) ∧
    (∀ v w, SlP w v ps → Calls Tryz.prog 8 #[.agg #[.int .i64 st, .int .i64 bl, v]] w fun e w' => e = .returned (.string tx) ∧ Below w.heap.size w w') ∧
    (∀ v w, SlP w v ps → Calls Tryz.prog 13 #[.agg #[.int .i64 st, .int .i64 bl, v]] w fun e w' => e = .returned (.string tx) ∧ Below w.heap.size w w') ∧
    (∀ w, GX w → Calls Tryz.prog 9 #[.string tx] w fun e w' => ∃ v', e = .returned (.tuple #[.agg #[.int .i64 rs, .int .i64 rm, v'], .bool ok]) ∧ w'.ownsRow w.heap.size 49 2 v' rp.length (P64 rp) ∧ Below w.heap.size w w') := by
  cases h : brB st bl ps with
  | false =>
    obtain ⟨S, m, rp, ok, hr, h1, _⟩ := ReadBarrel_any [] (by simp)
    have hk : ok = false := by
      cases ok with
      | false => rfl
      | true =>
        obtain ⟨M, _, hc⟩ := hr.can
        have e := hc.parts.1
        have := congrArg List.length e
        simp at this
    subst hk
    exact ⟨⟨#[]⟩, S, m, rp, false, Or.inr ⟨rfl, rfl⟩, fun v w hv => BarrelText_i1 v ps st bl w hv h, fun v w hv => BarrelText_s1 v ps st bl w hv h, h1⟩
  | true =>
    obtain ⟨⟨s1, s2⟩, ⟨l1, l2⟩, h3, _⟩ := brB_iff.1 h
    obtain ⟨S, rfl⟩ := Int.eq_ofNat_of_zero_le (show 0 ≤ st by omega)
    have htl := tx_le bl ps h3 (by omega) (n := S) (by omega) (by omega)
    obtain ⟨S', m, rp, ok, hr, h1, _⟩ := ReadBarrel_any (txL bl ps S) (by omega)
    obtain ⟨e1, e2, e3, e4⟩ := hr.same (rd_yes (s := txL bl ps S) h rfl)
    have hne : (bT (txL bl ps S)).toList.isEmpty = false := by
      rw [Lib.toList_data]
      simp [bT, txL]
    refine ⟨bT (txL bl ps S), S', m, rp, ok, Or.inl ⟨e4, hne, by rw [e1], e2, e3⟩, fun v w hv => BarrelText_i0 v ps S bl w hv h, fun v w hv => BarrelText_s0 v ps S bl w hv h, h1⟩
theorem same_eqS (va vb : Value) (ps qs : List (Int × Int)) (st bl st' bl' : Int) (w : World) (ha : SlP w va ps) (hb : SlP w vb qs) (h1 : st = st') (h2 : bl = bl') (h3 : ps = qs) :
    Calls Tryz.prog 12 #[.agg #[.int .i64 st, .int .i64 bl, va], .agg #[.int .i64 st', .int .i64 bl', vb]] w fun e w' => e = .returned (.bool true) ∧ Below w.heap.size w w' := by
  subst h1 h2 h3
  have h := SameBarrel_s va vb ps ps st bl st bl w ha hb
  have e : sameB st bl ps st bl ps = true := by simp [sameB, eqP_self]
  rwa [e] at h
theorem slp_form {w : World} {v : Value} {ps : List (Int × Int)} (h : SlP w v ps) : ∃ A c, v = .slice A ps.length c := by
  obtain ⟨A, c, e, _⟩ := h
  exact ⟨A, c, e⟩
theorem zeros_I64 (n : Nat) : (madeCells (Value.int .i64 0).cells (n * 1)).toList = I64 (List.replicate n 0) := by
  rw [Nat.mul_one]
  exact (toList_madeCells_one (.int .i64 0) n).trans (by simp [I64])
theorem bk_zero (os : List Int) : BkTo os (List.replicate os.length 0) 0 := ⟨by simp, fun k hk => absurd hk (Nat.not_lt_zero _)⟩

set_option maxRecDepth 100000 in
set_option maxHeartbeats 16000000 in
theorem swapped_walk (vb : Value) (bs : List Int) (W : World) (hv : SlB W vb bs) (hgx : GX W) :
    Calls Tryz.prog 3 #[vb] W fun e W' => e = .returned (.bool true) ∧ Below W.heap.size W W' := by
  have HV := Lib.hid hv
  have HGX := Lib.hid hgx
  clear hv hgx
  cases hbig : decide (4096 < bs.length) with
  | true =>
    go_enter Tryz.func3, Tryz.ntmps3
    go_wp2_with fail
    refine (f6big_any vb bs _ HV.out _ hbig).mono ?_
    rintro e w' ⟨rfl, rfl⟩
    go_wp2
    go_ret
    exact ⟨rfl, Below.refl _ _⟩
  | false =>
    have HBG := Lib.hid hbig
    clear hbig
    go_enter Tryz.func3, Tryz.ntmps3
    go_wp2_with fail
    refine (f6big_any vb bs _ HV.out _ HBG.out).mono ?_
    rintro e w' ⟨rfl, rfl⟩
    go_wp2_with fail
    refine (DrawSwapBells_any vb bs _ HV.out).mono ?_
    rintro e w1 ⟨v, vo, st, bl, ps, os, rfl, o_v, o_vo, hok, hol, hb⟩
    obtain ⟨A_v, C_v, rfl⟩ := own_form o_v
    obtain ⟨A_vo, C_vo, rfl⟩ := own_form o_vo
    have old := Lib.hid hb
    have O_v := Lib.hid o_v
    have O_vo := Lib.hid o_vo
    clear o_v o_vo hb hok
    obtain ⟨sx, bx, ts, rc, hsc, hs1, hs2⟩ := swap_cases st bl ps os (by omega)
    have HSC := Lib.hid hsc
    have HS1 := Lib.hid hs1
    have HS2 := Lib.hid hs2
    clear hsc hs1 hs2
    obtain ⟨tx, rs, rm, rp, ok, htc, ht1, ht2, ht3⟩ := text_cases st bl ps
    have HTC := Lib.hid htc
    have HT1 := Lib.hid ht1
    have HT2 := Lib.hid ht2
    have HT3 := Lib.hid ht3
    clear htc ht1 ht2 ht3
    go_wp2_with fail
    refine (HS1.out _ _ _ (SlP.of_own (own_below O_v.out (by first | (with_reducible exact Below.refl _ _) | go_grown))) (Sl.of_own (own_below O_vo.out (by first | (with_reducible exact Below.refl _ _) | go_grown)))).mono ?_
    rintro e w2 ⟨v2, rfl, o_v2, hb⟩
    obtain ⟨A_v2, C_v2, rfl⟩ := own_form o_v2
    have b_w2 : Below w1.heap.size w1 w2 := Below.trans (by first | (with_reducible exact Below.refl _ _) | go_grown) (hb.mono (by first | (with_reducible exact Nat.le_refl _) | (with_reducible assumption) | (simp [go_sem]; done) | (simp [go_sem]; omega) | omega))
    replace O_v := Lib.hid (own_below O_v.out b_w2)
    replace O_vo := Lib.hid (own_below O_vo.out b_w2)
    have B_b : Hid (Blk w2 (w1.heap.size) 26 #[.int .i64 st, .int .i64 bl, .slice A_v ps.length C_v]) := Blk.below (by first | exact Blk.new _ _ _ | exact (Blk.new _ _ _).alloc _ | (have h := Blk.new (w1) 26 #[.int .i64 st, .int .i64 bl, .slice A_v ps.length C_v]; simpa using h)) hb
    replace old := Lib.hid (grown_again old.out b_w2)
    clear hb b_w2
    have O_v2 := Lib.hid o_v2
    clear o_v2
    have c_b_0 := B_b.out.cell 0 rfl
    have c_b_1 := B_b.out.cell 1 rfl
    have c_b_2 := B_b.out.cell 2 rfl
    have l_b := B_b.out.lt
    go_wp2_with fail
    refine (HS2.out _ _ _ (SlP.of_own (own_below O_v.out (by first | (with_reducible exact Below.refl _ _) | go_grown))) (Sl.of_own (own_below O_vo.out (by first | (with_reducible exact Below.refl _ _) | go_grown)))).mono ?_
    rintro e w3 ⟨v3, rfl, o_v3, hb⟩
    obtain ⟨A_v3, C_v3, rfl⟩ := own_form o_v3
    have b_w3 : Below w2.heap.size w2 w3 := Below.trans (by first | (with_reducible exact Below.refl _ _) | go_grown) (hb.mono (by first | (with_reducible exact Nat.le_refl _) | (with_reducible assumption) | (simp [go_sem]; done) | (simp [go_sem]; omega) | omega))
    replace B_b := Lib.hid (B_b.out.below b_w3)
    replace O_v := Lib.hid (own_below O_v.out b_w3)
    replace O_vo := Lib.hid (own_below O_vo.out b_w3)
    replace O_v2 := Lib.hid (own_below O_v2.out b_w3)
    have B_x : Hid (Blk w3 (w2.heap.size) 26 #[.int .i64 sx, .int .i64 bx, .slice A_v2 ts.length C_v2]) := Blk.below (by first | exact Blk.new _ _ _ | exact (Blk.new _ _ _).alloc _ | (have h := Blk.new (w2) 26 #[.int .i64 sx, .int .i64 bx, .slice A_v2 ts.length C_v2]; simpa using h)) hb
    replace old := Lib.hid (grown_again old.out b_w3)
    clear hb b_w3
    have O_v3 := Lib.hid o_v3
    clear o_v3
    clear c_b_0 c_b_1 c_b_2 l_b
    have c_b_0 := B_b.out.cell 0 rfl
    have c_b_1 := B_b.out.cell 1 rfl
    have c_b_2 := B_b.out.cell 2 rfl
    have l_b := B_b.out.lt
    have c_x_0 := B_x.out.cell 0 rfl
    have c_x_1 := B_x.out.cell 1 rfl
    have c_x_2 := B_x.out.cell 2 rfl
    have l_x := B_x.out.lt
    go_wp2_with fail
    refine (HT1.out _ _ (SlP.of_own (own_below O_v.out (by first | (with_reducible exact Below.refl _ _) | go_grown)))).mono ?_
    rintro e w4 ⟨rfl, hb⟩
    have b_w4 : Below w3.heap.size w3 w4 := Below.trans (by first | (with_reducible exact Below.refl _ _) | go_grown) (hb.mono (by first | (with_reducible exact Nat.le_refl _) | (with_reducible assumption) | (simp [go_sem]; done) | (simp [go_sem]; omega) | omega))
    replace B_b := Lib.hid (B_b.out.below b_w4)
    replace B_x := Lib.hid (B_x.out.below b_w4)
    replace O_v := Lib.hid (own_below O_v.out b_w4)
    replace O_vo := Lib.hid (own_below O_vo.out b_w4)
    replace O_v2 := Lib.hid (own_below O_v2.out b_w4)
    replace O_v3 := Lib.hid (own_below O_v3.out b_w4)
    have B_m : Hid (Blk w4 (w3.heap.size) 26 #[.int .i64 sx, .int .i64 bx, .slice A_v3 ts.length C_v3]) := Blk.below (by first | exact Blk.new _ _ _ | exact (Blk.new _ _ _).alloc _ | (have h := Blk.new (w3) 26 #[.int .i64 sx, .int .i64 bx, .slice A_v3 ts.length C_v3]; simpa using h)) hb
    replace old := Lib.hid (grown_again old.out b_w4)
    clear hb b_w4
    clear c_b_0 c_b_1 c_b_2 l_b c_x_0 c_x_1 c_x_2 l_x
    have c_b_0 := B_b.out.cell 0 rfl
    have c_b_1 := B_b.out.cell 1 rfl
    have c_b_2 := B_b.out.cell 2 rfl
    have l_b := B_b.out.lt
    have c_x_0 := B_x.out.cell 0 rfl
    have c_x_1 := B_x.out.cell 1 rfl
    have c_x_2 := B_x.out.cell 2 rfl
    have l_x := B_x.out.lt
    have c_m_0 := B_m.out.cell 0 rfl
    have c_m_1 := B_m.out.cell 1 rfl
    have c_m_2 := B_m.out.cell 2 rfl
    have l_m := B_m.out.lt
    go_wp2_with fail
    refine (HT3.out _ (HGX.out.below (grown_again old.out (by first | (with_reducible exact Below.refl _ _) | go_grown)))).mono ?_
    rintro e w5 ⟨v4, rfl, o_v4, hb⟩
    obtain ⟨A_v4, C_v4, rfl⟩ := own_form o_v4
    have b_w5 : Below w4.heap.size w4 w5 := Below.trans (by first | (with_reducible exact Below.refl _ _) | go_grown) (hb.mono (by first | (with_reducible exact Nat.le_refl _) | (with_reducible assumption) | (simp [go_sem]; done) | (simp [go_sem]; omega) | omega))
    replace B_b := Lib.hid (B_b.out.below b_w5)
    replace B_x := Lib.hid (B_x.out.below b_w5)
    replace B_m := Lib.hid (B_m.out.below b_w5)
    replace O_v := Lib.hid (own_below O_v.out b_w5)
    replace O_vo := Lib.hid (own_below O_vo.out b_w5)
    replace O_v2 := Lib.hid (own_below O_v2.out b_w5)
    replace O_v3 := Lib.hid (own_below O_v3.out b_w5)
    replace old := Lib.hid (grown_again old.out b_w5)
    clear hb b_w5
    have O_v4 := Lib.hid o_v4
    clear o_v4
    clear c_b_0 c_b_1 c_b_2 l_b c_x_0 c_x_1 c_x_2 l_x c_m_0 c_m_1 c_m_2 l_m
    have c_b_0 := B_b.out.cell 0 rfl
    have c_b_1 := B_b.out.cell 1 rfl
    have c_b_2 := B_b.out.cell 2 rfl
    have l_b := B_b.out.lt
    have c_x_0 := B_x.out.cell 0 rfl
    have c_x_1 := B_x.out.cell 1 rfl
    have c_x_2 := B_x.out.cell 2 rfl
    have l_x := B_x.out.lt
    have c_m_0 := B_m.out.cell 0 rfl
    have c_m_1 := B_m.out.cell 1 rfl
    have c_m_2 := B_m.out.cell 2 rfl
    have l_m := B_m.out.lt
    go_wp2_with fail
    refine (DrawReadBarrel_any vb bs W _ HV.out (grown_again old.out (by first | (with_reducible exact Below.refl _ _) | go_grown))).mono ?_
    rintro e w6 ⟨t, rfl, ht, hb⟩
    have b_w6 : Below w5.heap.size w5 w6 := Below.trans (by first | (with_reducible exact Below.refl _ _) | go_grown) (hb.mono (by first | (with_reducible exact Nat.le_refl _) | (with_reducible assumption) | (simp [go_sem]; done) | (simp [go_sem]; omega) | omega))
    replace B_b := Lib.hid (B_b.out.below b_w6)
    replace B_x := Lib.hid (B_x.out.below b_w6)
    replace B_m := Lib.hid (B_m.out.below b_w6)
    replace O_v := Lib.hid (own_below O_v.out b_w6)
    replace O_vo := Lib.hid (own_below O_vo.out b_w6)
    replace O_v2 := Lib.hid (own_below O_v2.out b_w6)
    replace O_v3 := Lib.hid (own_below O_v3.out b_w6)
    replace O_v4 := Lib.hid (own_below O_v4.out b_w6)
    have B_r : Hid (Blk w6 (w5.heap.size) 26 #[.int .i64 rs, .int .i64 rm, .slice A_v4 rp.length C_v4]) := Blk.below (by first | exact Blk.new _ _ _ | exact (Blk.new _ _ _).alloc _ | (have h := Blk.new (w5) 26 #[.int .i64 rs, .int .i64 rm, .slice A_v4 rp.length C_v4]; simpa using h)) hb
    replace old := Lib.hid (grown_again old.out b_w6)
    clear hb b_w6
    obtain ⟨S2, m2, p2, ok2, _, hr1, hr2⟩ := ReadBarrel_any t (by omega)
    obtain ⟨bt, hbt⟩ : ∃ bt, bt = bT t := ⟨_, rfl⟩
    rw [← hbt] at hr1 hr2 ⊢
    have HR1 := Lib.hid hr1
    have HR2 := Lib.hid hr2
    clear hr1 hr2 hbt
    clear c_b_0 c_b_1 c_b_2 l_b c_x_0 c_x_1 c_x_2 l_x c_m_0 c_m_1 c_m_2 l_m
    have c_b_0 := B_b.out.cell 0 rfl
    have c_b_1 := B_b.out.cell 1 rfl
    have c_b_2 := B_b.out.cell 2 rfl
    have l_b := B_b.out.lt
    have c_x_0 := B_x.out.cell 0 rfl
    have c_x_1 := B_x.out.cell 1 rfl
    have c_x_2 := B_x.out.cell 2 rfl
    have l_x := B_x.out.lt
    have c_m_0 := B_m.out.cell 0 rfl
    have c_m_1 := B_m.out.cell 1 rfl
    have c_m_2 := B_m.out.cell 2 rfl
    have l_m := B_m.out.lt
    have c_r_0 := B_r.out.cell 0 rfl
    have c_r_1 := B_r.out.cell 1 rfl
    have c_r_2 := B_r.out.cell 2 rfl
    have l_r := B_r.out.lt
    go_wp2_with fail
    refine (HR1.out _ (HGX.out.below (grown_again old.out (by first | (with_reducible exact Below.refl _ _) | go_grown)))).mono ?_
    rintro e w7 ⟨v5, rfl, o_v5, hb⟩
    obtain ⟨A_v5, C_v5, rfl⟩ := own_form o_v5
    have b_w7 : Below w6.heap.size w6 w7 := Below.trans (by first | (with_reducible exact Below.refl _ _) | go_grown) (hb.mono (by first | (with_reducible exact Nat.le_refl _) | (with_reducible assumption) | (simp [go_sem]; done) | (simp [go_sem]; omega) | omega))
    replace B_b := Lib.hid (B_b.out.below b_w7)
    replace B_x := Lib.hid (B_x.out.below b_w7)
    replace B_m := Lib.hid (B_m.out.below b_w7)
    replace B_r := Lib.hid (B_r.out.below b_w7)
    replace O_v := Lib.hid (own_below O_v.out b_w7)
    replace O_vo := Lib.hid (own_below O_vo.out b_w7)
    replace O_v2 := Lib.hid (own_below O_v2.out b_w7)
    replace O_v3 := Lib.hid (own_below O_v3.out b_w7)
    replace O_v4 := Lib.hid (own_below O_v4.out b_w7)
    replace old := Lib.hid (grown_again old.out b_w7)
    clear hb b_w7
    have O_v5 := Lib.hid o_v5
    clear o_v5
    clear c_b_0 c_b_1 c_b_2 l_b c_x_0 c_x_1 c_x_2 l_x c_m_0 c_m_1 c_m_2 l_m c_r_0 c_r_1 c_r_2 l_r
    have c_b_0 := B_b.out.cell 0 rfl
    have c_b_1 := B_b.out.cell 1 rfl
    have c_b_2 := B_b.out.cell 2 rfl
    have l_b := B_b.out.lt
    have c_x_0 := B_x.out.cell 0 rfl
    have c_x_1 := B_x.out.cell 1 rfl
    have c_x_2 := B_x.out.cell 2 rfl
    have l_x := B_x.out.lt
    have c_m_0 := B_m.out.cell 0 rfl
    have c_m_1 := B_m.out.cell 1 rfl
    have c_m_2 := B_m.out.cell 2 rfl
    have l_m := B_m.out.lt
    have c_r_0 := B_r.out.cell 0 rfl
    have c_r_1 := B_r.out.cell 1 rfl
    have c_r_2 := B_r.out.cell 2 rfl
    have l_r := B_r.out.lt
    go_wp2_with fail
    refine (HR2.out _ (HGX.out.below (grown_again old.out (by first | (with_reducible exact Below.refl _ _) | go_grown)))).mono ?_
    rintro e w8 ⟨v6, rfl, o_v6, hb⟩
    obtain ⟨A_v6, C_v6, rfl⟩ := own_form o_v6
    have b_w8 : Below w7.heap.size w7 w8 := Below.trans (by first | (with_reducible exact Below.refl _ _) | go_grown) (hb.mono (by first | (with_reducible exact Nat.le_refl _) | (with_reducible assumption) | (simp [go_sem]; done) | (simp [go_sem]; omega) | omega))
    replace B_b := Lib.hid (B_b.out.below b_w8)
    replace B_x := Lib.hid (B_x.out.below b_w8)
    replace B_m := Lib.hid (B_m.out.below b_w8)
    replace B_r := Lib.hid (B_r.out.below b_w8)
    replace O_v := Lib.hid (own_below O_v.out b_w8)
    replace O_vo := Lib.hid (own_below O_vo.out b_w8)
    replace O_v2 := Lib.hid (own_below O_v2.out b_w8)
    replace O_v3 := Lib.hid (own_below O_v3.out b_w8)
    replace O_v4 := Lib.hid (own_below O_v4.out b_w8)
    replace O_v5 := Lib.hid (own_below O_v5.out b_w8)
    have B_y : Hid (Blk w8 (w7.heap.size) 26 #[.int .i64 (S2 : Int), .int .i64 m2, .slice A_v5 p2.length C_v5]) := Blk.below (by first | exact Blk.new _ _ _ | exact (Blk.new _ _ _).alloc _ | (have h := Blk.new (w7) 26 #[.int .i64 (S2 : Int), .int .i64 m2, .slice A_v5 p2.length C_v5]; simpa using h)) hb
    replace old := Lib.hid (grown_again old.out b_w8)
    clear hb b_w8
    have O_v6 := Lib.hid o_v6
    clear o_v6
    clear c_b_0 c_b_1 c_b_2 l_b c_x_0 c_x_1 c_x_2 l_x c_m_0 c_m_1 c_m_2 l_m c_r_0 c_r_1 c_r_2 l_r
    have c_b_0 := B_b.out.cell 0 rfl
    have c_b_1 := B_b.out.cell 1 rfl
    have c_b_2 := B_b.out.cell 2 rfl
    have l_b := B_b.out.lt
    have c_x_0 := B_x.out.cell 0 rfl
    have c_x_1 := B_x.out.cell 1 rfl
    have c_x_2 := B_x.out.cell 2 rfl
    have l_x := B_x.out.lt
    have c_m_0 := B_m.out.cell 0 rfl
    have c_m_1 := B_m.out.cell 1 rfl
    have c_m_2 := B_m.out.cell 2 rfl
    have l_m := B_m.out.lt
    have c_r_0 := B_r.out.cell 0 rfl
    have c_r_1 := B_r.out.cell 1 rfl
    have c_r_2 := B_r.out.cell 2 rfl
    have l_r := B_r.out.lt
    have c_y_0 := B_y.out.cell 0 rfl
    have c_y_1 := B_y.out.cell 1 rfl
    have c_y_2 := B_y.out.cell 2 rfl
    have l_y := B_y.out.lt
    go_upto_region 11 with fail
    obtain ⟨w9, hh⟩ : ∃ x : World, x = (w8.alloc (.cells #[.int .i64 (S2 : Int), .int .i64 m2, .slice A_v6 p2.length C_v6] 26)) := ⟨_, rfl⟩
    have db : Below w8.heap.size w8 w9 := by rw [hh]; go_grown
    have B_z : Hid (Blk w9 (w8.heap.size) 26 #[.int .i64 (S2 : Int), .int .i64 m2, .slice A_v6 p2.length C_v6]) := by rw [hh]; exact Blk.new _ _ _
    replace B_b := Lib.hid (B_b.out.below db)
    replace B_x := Lib.hid (B_x.out.below db)
    replace B_m := Lib.hid (B_m.out.below db)
    replace B_r := Lib.hid (B_r.out.below db)
    replace B_y := Lib.hid (B_y.out.below db)
    replace O_v := Lib.hid (own_below O_v.out db)
    replace O_vo := Lib.hid (own_below O_vo.out db)
    replace O_v2 := Lib.hid (own_below O_v2.out db)
    replace O_v3 := Lib.hid (own_below O_v3.out db)
    replace O_v4 := Lib.hid (own_below O_v4.out db)
    replace O_v5 := Lib.hid (own_below O_v5.out db)
    replace O_v6 := Lib.hid (own_below O_v6.out db)
    replace old := Lib.hid (grown_again old.out db)
    rw [← hh]
    clear hh db
    clear c_b_0 c_b_1 c_b_2 l_b c_x_0 c_x_1 c_x_2 l_x c_m_0 c_m_1 c_m_2 l_m c_r_0 c_r_1 c_r_2 l_r c_y_0 c_y_1 c_y_2 l_y
    go_cut [101] (fun a101 wr => a101 = .bool false ∧ Below w9.heap.size w9 wr)
    case first =>
      have old2 := Lib.hid (Below.refl w9.heap.size w9)
      rcases HTC.out with ⟨hok, hte, h1, h2, h3⟩ | ⟨hok, hte⟩
      · have HTE : Hid (rs = st ∧ rm = bl ∧ rp = ps) := ⟨h1, h2, h3⟩
        clear h1 h2 h3
        subst hok
        have c_x_0 := B_x.out.cell 0 rfl
        have c_x_1 := B_x.out.cell 1 rfl
        have c_x_2 := B_x.out.cell 2 rfl
        have l_x := B_x.out.lt
        have c_m_0 := B_m.out.cell 0 rfl
        have c_m_1 := B_m.out.cell 1 rfl
        have c_m_2 := B_m.out.cell 2 rfl
        have l_m := B_m.out.lt
        go_wp2_with fail
        refine (same_eqS _ _ ts ts sx bx sx bx _ (SlP.of_own (own_below O_v2.out (by first | (with_reducible exact Below.refl _ _) | go_grown))) (SlP.of_own (own_below O_v3.out (by first | (with_reducible exact Below.refl _ _) | go_grown))) rfl rfl rfl).mono ?_
        rintro e w10 ⟨rfl, hb⟩
        have b_w10 : Below w9.heap.size w9 w10 := Below.trans (by first | (with_reducible exact Below.refl _ _) | go_grown) (hb.mono (by first | (with_reducible exact Nat.le_refl _) | (with_reducible assumption) | (simp [go_sem]; done) | (simp [go_sem]; omega) | omega))
        replace B_b := Lib.hid (B_b.out.below b_w10)
        replace B_x := Lib.hid (B_x.out.below b_w10)
        replace B_m := Lib.hid (B_m.out.below b_w10)
        replace B_r := Lib.hid (B_r.out.below b_w10)
        replace B_y := Lib.hid (B_y.out.below b_w10)
        replace B_z := Lib.hid (B_z.out.below b_w10)
        replace O_v := Lib.hid (own_below O_v.out b_w10)
        replace O_vo := Lib.hid (own_below O_vo.out b_w10)
        replace O_v2 := Lib.hid (own_below O_v2.out b_w10)
        replace O_v3 := Lib.hid (own_below O_v3.out b_w10)
        replace O_v4 := Lib.hid (own_below O_v4.out b_w10)
        replace O_v5 := Lib.hid (own_below O_v5.out b_w10)
        replace O_v6 := Lib.hid (own_below O_v6.out b_w10)
        replace old := Lib.hid (grown_again old.out b_w10)
        replace old2 := Lib.hid (grown_again old2.out b_w10)
        clear hb b_w10
        clear c_x_0 c_x_1 c_x_2 l_x c_m_0 c_m_1 c_m_2 l_m
        have c_b_0 := B_b.out.cell 0 rfl
        have c_b_1 := B_b.out.cell 1 rfl
        have c_b_2 := B_b.out.cell 2 rfl
        have l_b := B_b.out.lt
        go_wp2_with fail
        refine (HT2.out _ _ (SlP.of_own (own_below O_v.out (by first | (with_reducible exact Below.refl _ _) | go_grown)))).mono ?_
        rintro e w11 ⟨rfl, hb⟩
        have b_w11 : Below w10.heap.size w10 w11 := Below.trans (by first | (with_reducible exact Below.refl _ _) | go_grown) (hb.mono (by first | (with_reducible exact Nat.le_refl _) | (with_reducible assumption) | (simp [go_sem]; done) | (simp [go_sem]; omega) | omega))
        replace B_b := Lib.hid (B_b.out.below b_w11)
        replace B_x := Lib.hid (B_x.out.below b_w11)
        replace B_m := Lib.hid (B_m.out.below b_w11)
        replace B_r := Lib.hid (B_r.out.below b_w11)
        replace B_y := Lib.hid (B_y.out.below b_w11)
        replace B_z := Lib.hid (B_z.out.below b_w11)
        replace O_v := Lib.hid (own_below O_v.out b_w11)
        replace O_vo := Lib.hid (own_below O_vo.out b_w11)
        replace O_v2 := Lib.hid (own_below O_v2.out b_w11)
        replace O_v3 := Lib.hid (own_below O_v3.out b_w11)
        replace O_v4 := Lib.hid (own_below O_v4.out b_w11)
        replace O_v5 := Lib.hid (own_below O_v5.out b_w11)
        replace O_v6 := Lib.hid (own_below O_v6.out b_w11)
        replace old := Lib.hid (grown_again old.out b_w11)
        replace old2 := Lib.hid (grown_again old2.out b_w11)
        clear hb b_w11
        clear c_b_0 c_b_1 c_b_2 l_b
        have c_b_0 := B_b.out.cell 0 rfl
        have c_b_1 := B_b.out.cell 1 rfl
        have c_b_2 := B_b.out.cell 2 rfl
        have l_b := B_b.out.lt
        have c_r_0 := B_r.out.cell 0 rfl
        have c_r_1 := B_r.out.cell 1 rfl
        have c_r_2 := B_r.out.cell 2 rfl
        have l_r := B_r.out.lt
        go_wp2_with fail
        refine (same_eqS _ _ rp ps rs rm st bl _ (SlP.of_own (own_below O_v4.out (by first | (with_reducible exact Below.refl _ _) | go_grown))) (SlP.of_own (own_below O_v.out (by first | (with_reducible exact Below.refl _ _) | go_grown))) HTE.out.1 HTE.out.2.1 HTE.out.2.2).mono ?_
        rintro e w12 ⟨rfl, hb⟩
        have b_w12 : Below w11.heap.size w11 w12 := Below.trans (by first | (with_reducible exact Below.refl _ _) | go_grown) (hb.mono (by first | (with_reducible exact Nat.le_refl _) | (with_reducible assumption) | (simp [go_sem]; done) | (simp [go_sem]; omega) | omega))
        replace B_b := Lib.hid (B_b.out.below b_w12)
        replace B_x := Lib.hid (B_x.out.below b_w12)
        replace B_m := Lib.hid (B_m.out.below b_w12)
        replace B_r := Lib.hid (B_r.out.below b_w12)
        replace B_y := Lib.hid (B_y.out.below b_w12)
        replace B_z := Lib.hid (B_z.out.below b_w12)
        replace O_v := Lib.hid (own_below O_v.out b_w12)
        replace O_vo := Lib.hid (own_below O_vo.out b_w12)
        replace O_v2 := Lib.hid (own_below O_v2.out b_w12)
        replace O_v3 := Lib.hid (own_below O_v3.out b_w12)
        replace O_v4 := Lib.hid (own_below O_v4.out b_w12)
        replace O_v5 := Lib.hid (own_below O_v5.out b_w12)
        replace O_v6 := Lib.hid (own_below O_v6.out b_w12)
        replace old := Lib.hid (grown_again old.out b_w12)
        replace old2 := Lib.hid (grown_again old2.out b_w12)
        clear hb b_w12
        clear c_b_0 c_b_1 c_b_2 l_b c_r_0 c_r_1 c_r_2 l_r
        have c_y_0 := B_y.out.cell 0 rfl
        have c_y_1 := B_y.out.cell 1 rfl
        have c_y_2 := B_y.out.cell 2 rfl
        have l_y := B_y.out.lt
        have c_z_0 := B_z.out.cell 0 rfl
        have c_z_1 := B_z.out.cell 1 rfl
        have c_z_2 := B_z.out.cell 2 rfl
        have l_z := B_z.out.lt
        go_wp2_with fail
        refine (same_eqS _ _ p2 p2 (S2 : Int) m2 (S2 : Int) m2 _ (SlP.of_own (own_below O_v5.out (by first | (with_reducible exact Below.refl _ _) | go_grown))) (SlP.of_own (own_below O_v6.out (by first | (with_reducible exact Below.refl _ _) | go_grown))) rfl rfl rfl).mono ?_
        rintro e w13 ⟨rfl, hb⟩
        have b_w13 : Below w12.heap.size w12 w13 := Below.trans (by first | (with_reducible exact Below.refl _ _) | go_grown) (hb.mono (by first | (with_reducible exact Nat.le_refl _) | (with_reducible assumption) | (simp [go_sem]; done) | (simp [go_sem]; omega) | omega))
        replace B_b := Lib.hid (B_b.out.below b_w13)
        replace B_x := Lib.hid (B_x.out.below b_w13)
        replace B_m := Lib.hid (B_m.out.below b_w13)
        replace B_r := Lib.hid (B_r.out.below b_w13)
        replace B_y := Lib.hid (B_y.out.below b_w13)
        replace B_z := Lib.hid (B_z.out.below b_w13)
        replace O_v := Lib.hid (own_below O_v.out b_w13)
        replace O_vo := Lib.hid (own_below O_vo.out b_w13)
        replace O_v2 := Lib.hid (own_below O_v2.out b_w13)
        replace O_v3 := Lib.hid (own_below O_v3.out b_w13)
        replace O_v4 := Lib.hid (own_below O_v4.out b_w13)
        replace O_v5 := Lib.hid (own_below O_v5.out b_w13)
        replace O_v6 := Lib.hid (own_below O_v6.out b_w13)
        replace old := Lib.hid (grown_again old.out b_w13)
        replace old2 := Lib.hid (grown_again old2.out b_w13)
        clear hb b_w13
        clear c_y_0 c_y_1 c_y_2 l_y c_z_0 c_z_1 c_z_2 l_z
        go_wp2_with fail
        go_meet
        exact ⟨rfl, old2.out⟩
      · subst hok hte
        have c_x_0 := B_x.out.cell 0 rfl
        have c_x_1 := B_x.out.cell 1 rfl
        have c_x_2 := B_x.out.cell 2 rfl
        have l_x := B_x.out.lt
        have c_m_0 := B_m.out.cell 0 rfl
        have c_m_1 := B_m.out.cell 1 rfl
        have c_m_2 := B_m.out.cell 2 rfl
        have l_m := B_m.out.lt
        go_wp2_with fail
        refine (same_eqS _ _ ts ts sx bx sx bx _ (SlP.of_own (own_below O_v2.out (by first | (with_reducible exact Below.refl _ _) | go_grown))) (SlP.of_own (own_below O_v3.out (by first | (with_reducible exact Below.refl _ _) | go_grown))) rfl rfl rfl).mono ?_
        rintro e w10 ⟨rfl, hb⟩
        have b_w10 : Below w9.heap.size w9 w10 := Below.trans (by first | (with_reducible exact Below.refl _ _) | go_grown) (hb.mono (by first | (with_reducible exact Nat.le_refl _) | (with_reducible assumption) | (simp [go_sem]; done) | (simp [go_sem]; omega) | omega))
        replace B_b := Lib.hid (B_b.out.below b_w10)
        replace B_x := Lib.hid (B_x.out.below b_w10)
        replace B_m := Lib.hid (B_m.out.below b_w10)
        replace B_r := Lib.hid (B_r.out.below b_w10)
        replace B_y := Lib.hid (B_y.out.below b_w10)
        replace B_z := Lib.hid (B_z.out.below b_w10)
        replace O_v := Lib.hid (own_below O_v.out b_w10)
        replace O_vo := Lib.hid (own_below O_vo.out b_w10)
        replace O_v2 := Lib.hid (own_below O_v2.out b_w10)
        replace O_v3 := Lib.hid (own_below O_v3.out b_w10)
        replace O_v4 := Lib.hid (own_below O_v4.out b_w10)
        replace O_v5 := Lib.hid (own_below O_v5.out b_w10)
        replace O_v6 := Lib.hid (own_below O_v6.out b_w10)
        replace old := Lib.hid (grown_again old.out b_w10)
        replace old2 := Lib.hid (grown_again old2.out b_w10)
        clear hb b_w10
        clear c_x_0 c_x_1 c_x_2 l_x c_m_0 c_m_1 c_m_2 l_m
        have c_b_0 := B_b.out.cell 0 rfl
        have c_b_1 := B_b.out.cell 1 rfl
        have c_b_2 := B_b.out.cell 2 rfl
        have l_b := B_b.out.lt
        go_wp2_with fail
        refine (HT2.out _ _ (SlP.of_own (own_below O_v.out (by first | (with_reducible exact Below.refl _ _) | go_grown)))).mono ?_
        rintro e w11 ⟨rfl, hb⟩
        have b_w11 : Below w10.heap.size w10 w11 := Below.trans (by first | (with_reducible exact Below.refl _ _) | go_grown) (hb.mono (by first | (with_reducible exact Nat.le_refl _) | (with_reducible assumption) | (simp [go_sem]; done) | (simp [go_sem]; omega) | omega))
        replace B_b := Lib.hid (B_b.out.below b_w11)
        replace B_x := Lib.hid (B_x.out.below b_w11)
        replace B_m := Lib.hid (B_m.out.below b_w11)
        replace B_r := Lib.hid (B_r.out.below b_w11)
        replace B_y := Lib.hid (B_y.out.below b_w11)
        replace B_z := Lib.hid (B_z.out.below b_w11)
        replace O_v := Lib.hid (own_below O_v.out b_w11)
        replace O_vo := Lib.hid (own_below O_vo.out b_w11)
        replace O_v2 := Lib.hid (own_below O_v2.out b_w11)
        replace O_v3 := Lib.hid (own_below O_v3.out b_w11)
        replace O_v4 := Lib.hid (own_below O_v4.out b_w11)
        replace O_v5 := Lib.hid (own_below O_v5.out b_w11)
        replace O_v6 := Lib.hid (own_below O_v6.out b_w11)
        replace old := Lib.hid (grown_again old.out b_w11)
        replace old2 := Lib.hid (grown_again old2.out b_w11)
        clear hb b_w11
        clear c_b_0 c_b_1 c_b_2 l_b
        have c_y_0 := B_y.out.cell 0 rfl
        have c_y_1 := B_y.out.cell 1 rfl
        have c_y_2 := B_y.out.cell 2 rfl
        have l_y := B_y.out.lt
        have c_z_0 := B_z.out.cell 0 rfl
        have c_z_1 := B_z.out.cell 1 rfl
        have c_z_2 := B_z.out.cell 2 rfl
        have l_z := B_z.out.lt
        go_wp2_with fail
        refine (same_eqS _ _ p2 p2 (S2 : Int) m2 (S2 : Int) m2 _ (SlP.of_own (own_below O_v5.out (by first | (with_reducible exact Below.refl _ _) | go_grown))) (SlP.of_own (own_below O_v6.out (by first | (with_reducible exact Below.refl _ _) | go_grown))) rfl rfl rfl).mono ?_
        rintro e w12 ⟨rfl, hb⟩
        have b_w12 : Below w11.heap.size w11 w12 := Below.trans (by first | (with_reducible exact Below.refl _ _) | go_grown) (hb.mono (by first | (with_reducible exact Nat.le_refl _) | (with_reducible assumption) | (simp [go_sem]; done) | (simp [go_sem]; omega) | omega))
        replace B_b := Lib.hid (B_b.out.below b_w12)
        replace B_x := Lib.hid (B_x.out.below b_w12)
        replace B_m := Lib.hid (B_m.out.below b_w12)
        replace B_r := Lib.hid (B_r.out.below b_w12)
        replace B_y := Lib.hid (B_y.out.below b_w12)
        replace B_z := Lib.hid (B_z.out.below b_w12)
        replace O_v := Lib.hid (own_below O_v.out b_w12)
        replace O_vo := Lib.hid (own_below O_vo.out b_w12)
        replace O_v2 := Lib.hid (own_below O_v2.out b_w12)
        replace O_v3 := Lib.hid (own_below O_v3.out b_w12)
        replace O_v4 := Lib.hid (own_below O_v4.out b_w12)
        replace O_v5 := Lib.hid (own_below O_v5.out b_w12)
        replace O_v6 := Lib.hid (own_below O_v6.out b_w12)
        replace old := Lib.hid (grown_again old.out b_w12)
        replace old2 := Lib.hid (grown_again old2.out b_w12)
        clear hb b_w12
        clear c_y_0 c_y_1 c_y_2 l_y c_z_0 c_z_1 c_z_2 l_z
        go_wp2_with fail
        go_meet
        exact ⟨rfl, old2.out⟩
    case rest =>
      obtain ⟨w22, rfl⟩ : ∃ x : World, x = wc := ⟨_, rfl⟩
      obtain ⟨rfl, hb⟩ := hcut
      have b_w22 : Below w9.heap.size w9 w22 := Below.trans (by first | (with_reducible exact Below.refl _ _) | go_grown) (hb.mono (by first | (with_reducible exact Nat.le_refl _) | (with_reducible assumption) | (simp [go_sem]; done) | (simp [go_sem]; omega) | omega))
      replace B_b := Lib.hid (B_b.out.below b_w22)
      replace B_x := Lib.hid (B_x.out.below b_w22)
      replace B_m := Lib.hid (B_m.out.below b_w22)
      replace B_r := Lib.hid (B_r.out.below b_w22)
      replace B_y := Lib.hid (B_y.out.below b_w22)
      replace B_z := Lib.hid (B_z.out.below b_w22)
      replace O_v := Lib.hid (own_below O_v.out b_w22)
      replace O_vo := Lib.hid (own_below O_vo.out b_w22)
      replace O_v2 := Lib.hid (own_below O_v2.out b_w22)
      replace O_v3 := Lib.hid (own_below O_v3.out b_w22)
      replace O_v4 := Lib.hid (own_below O_v4.out b_w22)
      replace O_v5 := Lib.hid (own_below O_v5.out b_w22)
      replace O_v6 := Lib.hid (own_below O_v6.out b_w22)
      replace old := Lib.hid (grown_again old.out b_w22)
      clear hb b_w22
      clear HTC HT1 HT2 HT3 HR1 HR2 O_v3 O_v4 O_v5 O_v6 B_m B_r B_y B_z
      go_wp2_with fail
      refine (DrawSameBarrel_any vb bs W _ HV.out (grown_again old.out (by first | (with_reducible exact Below.refl _ _) | go_grown))).mono ?_
      rintro e w23 ⟨va, sa, ba, pa, vc, sc, bc, pc, rfl, ha, hc, hb⟩
      obtain ⟨A_a, C_a, rfl⟩ := slp_form ha
      obtain ⟨A_c, C_c, rfl⟩ := slp_form hc
      have b_w23 : Below w22.heap.size w22 w23 := Below.trans (by first | (with_reducible exact Below.refl _ _) | go_grown) (hb.mono (by first | (with_reducible exact Nat.le_refl _) | (with_reducible assumption) | (simp [go_sem]; done) | (simp [go_sem]; omega) | omega))
      replace B_b := Lib.hid (B_b.out.below b_w23)
      replace B_x := Lib.hid (B_x.out.below b_w23)
      replace O_v := Lib.hid (own_below O_v.out b_w23)
      replace O_vo := Lib.hid (own_below O_vo.out b_w23)
      replace O_v2 := Lib.hid (own_below O_v2.out b_w23)
      replace old := Lib.hid (grown_again old.out b_w23)
      clear hb b_w23
      have HA := Lib.hid ha
      have HC := Lib.hid hc
      clear ha hc
      have c_b_0 := B_b.out.cell 0 rfl
      have c_b_1 := B_b.out.cell 1 rfl
      have c_b_2 := B_b.out.cell 2 rfl
      have l_b := B_b.out.lt
      have c_x_0 := B_x.out.cell 0 rfl
      have c_x_1 := B_x.out.cell 1 rfl
      have c_x_2 := B_x.out.cell 2 rfl
      have l_x := B_x.out.lt
      go_upto_region 14 with fail
      obtain ⟨w24, hh⟩ : ∃ x : World, x = ((w23.alloc (.cells #[.int .i64 sa, .int .i64 ba, .slice A_a pa.length C_a] 26)).alloc (.cells #[.int .i64 sc, .int .i64 bc, .slice A_c pc.length C_c] 26)) := ⟨_, rfl⟩
      have db : Below w23.heap.size w23 w24 := by rw [hh]; go_grown
      have kk := bx2 w23 26 26 #[.int .i64 sa, .int .i64 ba, .slice A_a pa.length C_a] #[.int .i64 sc, .int .i64 bc, .slice A_c pc.length C_c]
      rw [← hh] at kk
      have B_p := Lib.hid kk.1
      have B_q := Lib.hid kk.2
      clear kk
      replace B_b := Lib.hid (B_b.out.below db)
      replace B_x := Lib.hid (B_x.out.below db)
      replace O_v := Lib.hid (own_below O_v.out db)
      replace O_vo := Lib.hid (own_below O_vo.out db)
      replace O_v2 := Lib.hid (own_below O_v2.out db)
      replace old := Lib.hid (grown_again old.out db)
      rw [← hh]
      replace HA := Lib.hid (HA.out.below db)
      replace HC := Lib.hid (HC.out.below db)
      clear hh db
      clear c_b_0 c_b_1 c_b_2 l_b c_x_0 c_x_1 c_x_2 l_x
      go_cut [113] (fun a113 wr => a113 = .bool false ∧ Below w24.heap.size w24 wr)
      case first =>
        have old2 := Lib.hid (Below.refl w24.heap.size w24)
        have c_p_0 := B_p.out.cell 0 rfl
        have c_p_1 := B_p.out.cell 1 rfl
        have c_p_2 := B_p.out.cell 2 rfl
        have l_p := B_p.out.lt
        have c_q_0 := B_q.out.cell 0 rfl
        have c_q_1 := B_q.out.cell 1 rfl
        have c_q_2 := B_q.out.cell 2 rfl
        have l_q := B_q.out.lt
        go_wp2_with fail
        have HSr := Lib.hid (fun (w' : World) (hb : Below w24.heap.size w24 w') => (⟨(B_p.out.below hb).cell 0 rfl, (B_p.out.below hb).cell 1 rfl, (B_p.out.below hb).cell 2 rfl, (B_q.out.below hb).cell 0 rfl, (B_q.out.below hb).cell 1 rfl, (B_q.out.below hb).cell 2 rfl⟩ : w'.cell? ⟨w23.heap.size, 0, none⟩ = some (.int .i64 sa) ∧ w'.cell? ⟨w23.heap.size, 1, none⟩ = some (.int .i64 ba) ∧ w'.cell? ⟨w23.heap.size, 2, none⟩ = some (.slice A_a pa.length C_a) ∧ w'.cell? ⟨w23.heap.size + 1, 0, none⟩ = some (.int .i64 sc) ∧ w'.cell? ⟨w23.heap.size + 1, 1, none⟩ = some (.int .i64 bc) ∧ w'.cell? ⟨w23.heap.size + 1, 2, none⟩ = some (.slice A_c pc.length C_c)))
        go_region_held3 (fun w' => w'.cell? ⟨w23.heap.size, 0, none⟩ = some (.int .i64 sa) ∧ w'.cell? ⟨w23.heap.size, 1, none⟩ = some (.int .i64 ba) ∧ w'.cell? ⟨w23.heap.size, 2, none⟩ = some (.slice A_a pa.length C_a) ∧ w'.cell? ⟨w23.heap.size + 1, 0, none⟩ = some (.int .i64 sc) ∧ w'.cell? ⟨w23.heap.size + 1, 1, none⟩ = some (.int .i64 bc) ∧ w'.cell? ⟨w23.heap.size + 1, 2, none⟩ = some (.slice A_c pc.length C_c)) (first | assumption | exact HSr.out _ (by go_grown) | go_keep)
          (first
            | (go_at_call 15; refine (SameBarrel_i _ _ pa pc sa ba sc bc _ (HA.out.below (by first | (with_reducible exact Below.refl _ _) | go_grown)) (HC.out.below (by first | (with_reducible exact Below.refl _ _) | go_grown))).mono ?_; rintro e w25 ⟨rfl, hb⟩; have b_w25 : Below w24.heap.size w24 w25 := Below.trans (by first | (with_reducible exact Below.refl _ _) | go_grown) (hb.mono (by first | (with_reducible exact Nat.le_refl _) | (with_reducible assumption) | (simp [go_sem]; done) | (simp [go_sem]; omega) | omega)); have y_w25 := b_w25.size; have S_w25 := HSr.out _ b_w25; clear hb)
            | (go_at_call 12; refine (SameBarrel_s _ _ pa pc sa ba sc bc _ (HA.out.below (grown_again b_w25 (by first | (with_reducible exact Below.refl _ _) | go_grown))) (HC.out.below (grown_again b_w25 (by first | (with_reducible exact Below.refl _ _) | go_grown)))).mono ?_; rintro e w26 ⟨rfl, hb⟩; have b_w26 : Below w24.heap.size w24 w26 := Below.trans (grown_again b_w25 (by first | (with_reducible exact Below.refl _ _) | go_grown)) (hb.mono (by first | (with_reducible exact Nat.le_refl _) | (with_reducible assumption) | (simp [go_sem]; done) | (simp [go_sem]; omega) | omega)); have y_w26 := b_w26.size; have S_w26 := HSr.out _ b_w26; clear hb))
        all_goals
          replace B_b := Lib.hid (B_b.out.below b_w26)
          replace B_x := Lib.hid (B_x.out.below b_w26)
          replace B_p := Lib.hid (B_p.out.below b_w26)
          replace B_q := Lib.hid (B_q.out.below b_w26)
          replace O_v := Lib.hid (own_below O_v.out b_w26)
          replace O_vo := Lib.hid (own_below O_vo.out b_w26)
          replace O_v2 := Lib.hid (own_below O_v2.out b_w26)
          replace old := Lib.hid (grown_again old.out b_w26)
          replace old2 := Lib.hid (grown_again old2.out b_w26)
          clear HSr b_w25 S_w25 y_w25 b_w26 S_w26 y_w26
          clear c_p_0 c_p_1 c_p_2 l_p c_q_0 c_q_1 c_q_2 l_q
          go_wp2_with fail
          go_meet
          exact ⟨by simp, old2.out⟩
      case rest =>
        obtain ⟨w36, rfl⟩ : ∃ x : World, x = wc := ⟨_, rfl⟩
        obtain ⟨rfl, hb⟩ := hcut
        have b_w36 : Below w24.heap.size w24 w36 := Below.trans (by first | (with_reducible exact Below.refl _ _) | go_grown) (hb.mono (by first | (with_reducible exact Nat.le_refl _) | (with_reducible assumption) | (simp [go_sem]; done) | (simp [go_sem]; omega) | omega))
        replace B_b := Lib.hid (B_b.out.below b_w36)
        replace B_x := Lib.hid (B_x.out.below b_w36)
        replace B_p := Lib.hid (B_p.out.below b_w36)
        replace B_q := Lib.hid (B_q.out.below b_w36)
        replace O_v := Lib.hid (own_below O_v.out b_w36)
        replace O_vo := Lib.hid (own_below O_vo.out b_w36)
        replace O_v2 := Lib.hid (own_below O_v2.out b_w36)
        replace old := Lib.hid (grown_again old.out b_w36)
        clear hb b_w36
        clear B_p B_q HA HC
        rcases HSC.out with ⟨hrc, hsx, hbx, hbr, hor, hts⟩ | hne
        · skip
          subst hrc hsx hbx
          have HBR := Lib.hid hbr
          have HOR := Lib.hid hor
          have HTS := Lib.hid hts
          obtain ⟨hol2, hord⟩ := ordB_iff.1 hor
          have HORD := Lib.hid hord
          obtain ⟨_, ⟨bl1, bl8⟩, _, _⟩ := brB_iff.1 hbr
          have hn0 : 1 ≤ os.length := by omega
          obtain ⟨go, co, e_vo, _⟩ := O_vo.out.form (by omega)
          injection e_vo with e1 _ e2
          subst e1 e2
          have hgo := (O_vo.out.lt go rfl).2
          have HVX : Hid (brB sx bx ts = true) := by show _ = _; rw [hts]; exact swap_valid hbr hor
          have HBK : Hid (∀ bk, BkTo os bk os.length → ordB bk bx = true ∧ srtP (ts.map (swpP bk)) ts.length = ps) := fun bk h => ⟨bk_ord h hor, by rw [hts]; exact swap_back hbr hor h⟩
          clear hbr hor hts hord hol2
          obtain ⟨i0, hi, hz0, hz1, hz2⟩ := info_parts int_info
          have n9 : os.length ≤ 9 := hol
          go_wp2_with (at_make; refine wpList_make_full _ rfl _ _ 27 rfl w36.heap.size 2 i0 _ 1 Tryz.underlying27 hi hz0 hz1 _ _ _ _ os.length rfl rfl rfl rfl (by rw [hz2]; omega) (by simp only [maxLen]; omega) (Nat.le_refl _) ?_; intro wm hown hg; have HOM := Lib.hid (by have h := hown; rw [zeros_I64] at h; exact h : wm.ownsRow w36.heap.size 2 1 (.slice (some ⟨w36.heap.size, 0, none⟩) os.length os.length) os.length (I64 (List.replicate os.length 0))); have HBM : Hid (Below w36.heap.size w36 wm) := (below_of_grown hg (Nat.le_refl _) (by intro k hk; cases hk)); clear hown hg)
          go_loopw [20] (fun i wr => ∃ (k : Nat) (bk : List Int), k ≤ os.length ∧ i = .int .i64 (k : Int) ∧ Hid (BkTo os bk k) ∧ wr.ownsRow w36.heap.size 2 1 (.slice (some ⟨w36.heap.size, 0, none⟩) os.length os.length) os.length (I64 bk) ∧ Below w36.heap.size w36 wr) (fun i _ => os.length - (intOf i).toNat)
          case atStart => exact ⟨0, _, Nat.zero_le _, by go_num, Lib.hid (bk_zero os), HOM.out, HBM.out⟩
          case round =>
            clear HOM HBM
            obtain ⟨k, bk, hk, rfl, hBk, ho, hB⟩ := hrel
            obtain ⟨wi, rfl⟩ : ∃ x : World, x = wr := ⟨_, rfl⟩
            have HO := Lib.hid ho
            have HB := Lib.hid hB
            by_cases hlt : k < os.length
            · obtain ⟨j, hj, ej⟩ := ord_at HORD.out hlt
              have a0 : wi.cell? ⟨go, k, none⟩ = some (.int .i64 (j : Int)) := ((own_below O_vo.out hB).cellAt k (by omega)).trans ((I64_get hlt).trans (by rw [ej]))
              have az : go < wi.heap.size := Nat.lt_of_lt_of_le hgo hB.size
              have hbl := hBk.out.1
              have c0 : ∃ u, wi.cell? ⟨w36.heap.size, j, none⟩ = some u := ⟨_, (ho.cellAt j (by omega)).trans (I64_get (by omega))⟩
              obtain ⟨u, c0⟩ := c0
              have f0 := ho.frozenAt j
              have cz := (ho.lt w36.heap.size rfl).2
              have HST := Lib.hid (ho.stored j (.int .i64 (k : Int)))
              have HN := Lib.hid (hBk.out.succ HORD.out hlt)
              rw [ej, Int.toNat_natCast] at HN
              have HIS : Hid ((I64 bk).set j (.int .i64 (k : Int)) = I64 (bk.set j (k : Int))) := I64_setW _ _ _
              have i1 : (k : Int) < (os.length : Int) := by omega
              have i2 : (j : Int) < (os.length : Int) := by omega
              clear ho hB hbl ej hBk
              go_wp2_with fail
              exact ⟨⟨k + 1, bk.set j (k : Int), by omega, by go_num, HN, by rw [← HIS.out]; exact HST.out.1, HB.out.setCell (by simp) _⟩, by simp [intOf]; omega⟩
            · obtain rfl : k = os.length := by omega
              obtain ⟨hbo, hbb⟩ := HBK.out bk hBk.out
              have i1 : ¬ (os.length : Int) < (os.length : Int) := by omega
              have HSWB : Hid (∀ v vo w, SlP w v ts → Sl w vo bk → Calls Tryz.prog 6 #[.agg #[.int .i64 sx, .int .i64 bx, v], vo] w fun e w' => ∃ v', e = .returned (.tuple #[.agg #[.int .i64 sx, .int .i64 bx, v'], .int .i64 0]) ∧ w'.ownsRow w.heap.size 49 2 v' ps.length (P64 ps) ∧ Below w.heap.size w w') := fun v vo w h1 h2 => by
                have h := SwapBells_i0 v vo ts sx bx bk w h1 h2 (by rw [hBk.out.1]; omega) HVX.out hbo
                rw [hbb] at h
                exact h
              have HX := Lib.hid (B_x.out.below hB)
              have HXB := Lib.hid (B_b.out.below hB)
              have x0 := HX.out.cell 0 rfl
              have x1 := HX.out.cell 1 rfl
              have x2 := HX.out.cell 2 rfl
              have xz := HX.out.lt
              have HOO := Lib.hid (own_below O_v2.out hB)
              have HOV := Lib.hid (own_below O_v.out hB)
              have HOW := Lib.hid (old.out.trans (hB.mono old.out.size))
              have HSB : Hid (Sl wi (.slice (some ⟨w36.heap.size, 0, none⟩) os.length os.length) bk) := by
                have e : bk.length = os.length := hBk.out.1
                show SlC wi _ bk.length (I64 bk)
                rw [e]
                exact SlC.of_own ho
              clear hbo hbb ho hB hBk HBK HVX HTS HORD HO HB HBR HOR
              go_wp2_with fail
              refine (HSWB.out _ _ _ (SlP.of_own (own_below HOO.out (by first | exact Below.refl _ _ | go_grown))) (HSB.out.below (by first | exact Below.refl _ _ | go_grown))).mono ?_
              rintro e wj ⟨vj, rfl, oj, hbj⟩
              obtain ⟨A_j, C_j, rfl⟩ := own_form oj
              have bj : Below wi.heap.size wi wj := Below.trans (by first | exact Below.refl _ _ | go_grown) (hbj.mono (by first | (with_reducible exact Nat.le_refl _) | (simp; done) | (simp; omega) | omega))
              have JB := Lib.hid (HXB.out.below bj)
              have JO := Lib.hid oj
              have JV := Lib.hid (own_below HOV.out bj)
              have JW := Lib.hid (HOW.out.trans (bj.mono HOW.out.size))
              have y0 := JB.out.cell 0 rfl
              have y1 := JB.out.cell 1 rfl
              have y2 := JB.out.cell 2 rfl
              have yl := JB.out.lt
              clear bj hbj oj x0 x1 x2 xz HX HXB HOO HSB HOV HOW HSWB
              go_wp2_with fail
              refine (same_eqS _ _ ps ps sx bx sx bx _ (SlP.of_own (own_below JO.out (by first | exact Below.refl _ _ | go_grown))) (SlP.of_own (own_below JV.out (by first | exact Below.refl _ _ | go_grown))) rfl rfl rfl).mono ?_
              rintro e wk ⟨rfl, hbk⟩
              have hk2 : Below wj.heap.size wj wk := Below.trans (by first | exact Below.refl _ _ | go_grown) (hbk.mono (by first | (with_reducible exact Nat.le_refl _) | (simp; done) | (simp; omega) | omega))
              have JK := Lib.hid (JW.out.trans (hk2.mono JW.out.size))
              clear hk2 hbk y0 y1 y2 yl
              go_wp2_with fail
              go_ret
              exact ⟨rfl, JK.out⟩
        · have hq : (rc != 0) = true := by simpa using hne
          clear hne
          go_wp2
          go_ret
          exact ⟨rfl, old.out⟩

set_option maxRecDepth 100000 in
theorem fnSwappedBells_lifted (os : Os) (started : os.Started) (H : Type) (enc : TypeId × Value → H) :
    ReturnsInHanded {} Tryz.checked os 3 .any (fun w args => (Rows.fnSwappedBellsSpec.pre enc Tryz.prog Tryz.f3 Rows.fnSwappedBellsRow.domain false w args ∧ laidMetH Tryz.prog Rows.fnSwappedBellsRow.laid w) ∧ sizedMet enc Tryz.prog Tryz.f3 (OpenSpec.ofChange Rows.fnSwappedBellsSpec) false w args)
      (Rows.fnSwappedBellsSpec.post enc Tryz.prog Tryz.f3 false true false false) := by
  refine returnsInHanded_of_calls (C := Tryz.checked) Tryz.own started (by kernel_rfl)
    (ChangeSpec.witness_shaped (enc := enc) (C := Tryz.checked) (os := os) (X := fun w _ => laidMetH Tryz.prog Rows.fnSwappedBellsRow.laid w) false (World.laidAll Tryz.prog os Rows.fnSwappedBellsRow.laid) #[.slice none 0 0] 8 (World.laidAll_os _ _ _)
      (World.shaped_of_ZipB (by kernel_rfl) (by kernel_rfl)) (by kernel_rfl) (by kernel_rfl) (by kernel_rfl)
      (by rw [MakeChecks.laidMetH_plain _ _ _ (by kernel_rfl)]; exact laidMet_laidAll _ (by kernel_rfl) (by kernel_rfl))) ?_
  intro w0 tape inp _ hshp _ ⟨_, _, _, fn1, hfn1, _, _, _, _, hval1⟩ ⟨⟨⟨ds, gs, before, hW1, hcnd⟩, hlaid1⟩, _⟩ _
  obtain rfl : fn1 = Tryz.f3 := Option.some.inj (hfn1.symm.trans Tryz.func3)
  obtain ⟨W, hWd⟩ : ∃ W, W = w0.forCall tape inp := ⟨_, rfl⟩
  obtain ⟨args, had⟩ : ∃ args, args = inp.args := ⟨_, rfl⟩
  obtain ⟨base, hbd⟩ : ∃ base, base = w0.heap.size := ⟨_, rfl⟩
  have hW := DataW.Whole.of_heap (w' := w0.forCall tape inp) (by rfl) hW1
  have hgx : GX (w0.forCall tape inp) := gx_of hshp (laidMetH.of_heap (w' := w0.forCall tape inp) (by rfl) hlaid1)
  have hval0 := hval1
  rw [← hWd] at hW hgx hshp
  rw [← hWd, ← hbd] at hval0
  rw [← had] at hW hval0
  suffices key : Calls Tryz.prog 3 args W (fun e W' => ∃ r, e = .returned r ∧ Rows.fnSwappedBellsSpec.post enc Tryz.prog Tryz.f3 false true false false W args r W') by
    rw [had, hWd] at key
    exact key.mono fun e W' ⟨r, he, hp⟩ => by subst he; exact ChangeSpec.post_blind hp
  clear hval1 hW1 hlaid1 hshp hWd had hbd hcnd
  have hcnd : True := trivial
  have hval : ∀ (j : Nat) t v, Tryz.f3.params[j]? = some t → args[j]? = some v → Value.okWide Tryz.prog W .any base t v := hval0
  have hW' := hW
  have hltB : ∀ x ∈ before, x.block < W.heap.size := fun x hx => hW.lt x hx
  obtain ⟨p, q, hA0, hV, rfl, hfz, hnd⟩ := hW
  have hA : DataW.TrodAll enc Tryz.prog W 0 (fun _ => true) true Tryz.f3.params.toList args.toList ds p := hA0
  rw [Tryz.params3] at hA hval
  obtain ⟨v0, vs0, d0, ds0, p0, q0, hargs, rfl, rfl, h0, r0⟩ := trodAll_cons hA
  obtain ⟨rfl, rfl, rfl⟩ := trodAll_nil r0
  obtain rfl : args = #[v0] := by cases args; simp_all
  clear hA0 hval0 hA hcnd hfz hnd
  have hlt0 : ∀ x ∈ p0, x.block < W.heap.size := fun x hx => hltB x (by simp [hx])
  obtain ⟨a0, n0, c0, rfl⟩ := okWide_slice Tryz.underlying22 (hval 0 22 v0 rfl rfl)
  obtain ⟨fu0, hf0⟩ := h0
  obtain ⟨bs, hbs, _⟩ := trod_bytes Tryz.underlying22 Tryz.underlying5 (by kernel_rfl) hf0 hlt0
  refine (swapped_walk _ bs W hbs hgx).mono fun e W' ⟨he, hb⟩ => ?_
  subst he
  exact ⟨_, rfl, post_law Tryz.laidOut hW' rfl rfl (by kernel_rfl) (by kernel_rfl) Tryz.underlying4 hb⟩

set_option maxHeartbeats 2000000 in
theorem fnSwappedBells_facts : joinedFacts Tryz.prog 3 Tryz.f3 Rows.fnSwappedBellsSpec Rows.fnSwappedBellsRow = true := by
  unfold joinedFacts
  simp only [Bool.and_eq_true]
  repeat' apply And.intro
  all_goals first | with_reducible exact Tryz.laidOut | with_reducible exact Tryz.g2 | with_reducible exact Tryz.g24 | with_reducible exact Tryz.g25 | (rw [Tryz.g26]; rfl) | (rw [Tryz.g27]; rfl) | as_aux_lemma => kernel_rfl
/-- The statement. -/
theorem fnSwappedBells_holds : Rows.FnSwappedBellsSaid :=
  OpenClaim.holds_of_wide 3 Tryz.f3 rfl rfl rfl rfl rfl rfl rfl ⟨rfl, rfl, rfl, rfl, rfl⟩ rfl rfl rfl rfl rfl (by as_aux_lemma => kernel_rfl) Tryz.func3 fnSwappedBells_facts
    (by as_aux_lemma => exact of_decide_eq_true (by kernel_rfl)) (by as_aux_lemma => unfold Func.isWrapper; rw [if_neg (of_decide_eq_false (by kernel_rfl))]; exact ⟨rfl, rfl⟩)
    (fun os started H enc _ => fnSwappedBells_lifted os started H enc)
/-- The card. -/
theorem fnSwappedBells_card : Rows.FnSwappedBellsCardSaid :=
  Claim7.holds_tied_plain_at .later [] [.data, .data, .data, .data, .sentinel, .sentinel, .pinned] true (true, "8d4c5725a3cb365903b971ac4db321a0cc25f6424161114ae16964b2d126d7fa") true fnSwappedBells_holds (fun _ h => by cases h) (by kernel_rfl) (fun _ h => by cases h) fnSwappedBells_row_tie rfl ⟨rfl, rfl⟩ (by kernel_rfl) rfl
    (fun f fn hf hfn => by
      obtain rfl : f = 3 := Option.some.inj ((show Tryz.prog.funcNamed "loop.example/g00921/laws.FnSwappedBells" = some 3 by kernel_rfl).symm.trans hf) |>.symm
      obtain rfl : fn = Tryz.f3 := (Option.some.inj (Tryz.func3.symm.trans hfn)).symm
      exact ⟨by kernel_rfl, fun j t ht => by
        rw [Tryz.params3] at ht
        have hm : t ∈ [22] := by simpa using Array.mem_of_getElem? ht
        have hall : ([22].all fun u => !Tryz.prog.wantsStandIn u) = true := by kernel_rfl
        exact (show Tryz.prog.wantsStandIn t = false by simpa using List.all_eq_true.1 hall t hm)⟩)
    (by kernel_rfl)
#print axioms fnSwappedBells_card
end Go.Proofs.YtgaohmbgjjhdbaaGreatDoor
