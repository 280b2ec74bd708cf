/- FnRackRuns is proved: minutes in two parts are minutes in one, and twelve hours from twelve o'clock strike as the count wheel does; the answers are the reference's. No condition. -/
import Derived.Test.YtipakagmbppagaaDrX
import Derived.Test.YtipakagmbppagaaDi
import Derived.Test.YtipakagmbppagaaRkZ
import Derived.Test.YtipakagmbppagaaApA
import Derived.Deep.DeepCutAuto
import Derived.Test.YtipakagmbppagaaRkR
import Derived.Test.YtipakagmbppagaaRkQ
import Derived.Test.YtipakagmbppagaaSeRackState
import Derived.Test.YtipakagmbppagaaF6
import Derived.Test.YtipakagmbppagaaRow3
import Derived.Test.YtipakagmbppagaaRowF
import Derived.Deep.RegionHeld3
namespace Go.Proofs.Ytipakagmbppagaa
open Go.ChangeShapes Go.WideShapes Go.ChangeAt Go.RowKit
attribute [local go_sem ↓] Go.wp_at_zero Go.wp_at_succ
attribute [local go_sem ↓] eql_RackState neq_RackState eqGuard_RackState

attribute [local go_sem] cell?_grow frozen?_grow
theorem ValidRack_r (v : Value) (ds : List Int) (wn : Int) (b : Bool) (hb : rkB ds wn = b) (w : World) (hv : Sl w v ds) :
    Calls Try.prog 22 #[.agg #[v, .int .i64 wn]] w fun e w' => e = .returned (.bool b) ∧ Below w.heap.size w w' := by subst hb; exact ValidRack_i v ds wn w hv
theorem ValidRack_q (v : Value) (ds : List Int) (wn : Int) (b : Bool) (hb : rkB ds wn = b) (w : World) (hv : Sl w v ds) :
    Calls Try.prog 20 #[.agg #[v, .int .i64 wn]] w fun e w' => e = .returned (.bool b) ∧ Below w.heap.size w w' := by subst hb; exact ValidRack_s v ds wn w hv
theorem ValidRackState_r (v : Value) (ds : List Int) (wn m rd : Int) (b : Bool) (hb : stB ds wn m rd = b) (w : World) (hv : Sl w v ds) :
    Calls Try.prog 33 #[.agg #[v, .int .i64 wn], .agg #[.int .i64 m, .int .i64 rd]] w fun e w' => e = .returned (.bool b) ∧ Below w.heap.size w w' := by subst hb; exact ValidRackState_i v ds wn m rd w hv
theorem ValidRackState_q (v : Value) (ds : List Int) (wn m rd : Int) (b : Bool) (hb : stB ds wn m rd = b) (w : World) (hv : Sl w v ds) :
    Calls Try.prog 31 #[.agg #[v, .int .i64 wn], .agg #[.int .i64 m, .int .i64 rd]] w fun e w' => e = .returned (.bool b) ∧ Below w.heap.size w w' := by subst hb; exact ValidRackState_s v ds wn m rd w hv
theorem day_run (v : Value) (ds : List Int) (wn : Int) (w : World) (hv : Sl w v ds) (hr : RkOk ds wn) :
    Calls Try.prog 43 #[.agg #[v, .int .i64 wn], .agg #[.int .i64 0, .int .i64 0], .int .i64 720] w fun e w' => ∃ v', e = .returned (.tuple #[.agg #[.int .i64 0, .int .i64 0], v', .int .i64 0]) ∧ w'.ownsRow w.heap.size 2 1 v' (rwM ds 12).length (I64 (rwM ds 12)) ∧ Below w.heap.size w w' := by
  have h := RunRack_i0 v ds wn 0 0 720 w hv (stB_iff.2 ⟨hr, stOk_zero ⟨by decide, by decide⟩ rfl⟩) (by decide)
  have h2 := hours_run hr 12
  have e : (60 * 12 : Nat) = 720 := rfl
  rw [e] at h2
  rw [h2.1, h2.2] at h
  exact h
theorem day_wheel (v : Value) (ds : List Int) (wn : Int) (w : World) (hv : Sl w v (rwM ds 12)) (hr : RkOk ds wn) :
    Calls Try.prog 65 #[.agg #[v], .int .i64 0, .int .i64 12] w fun e w' => ∃ (v' : Value) (z : Int), e = .returned (.tuple #[v', .int .i64 z, .int .i64 0]) ∧ w'.ownsRow w.heap.size 2 1 v' (rwM ds 12).length (I64 (rwM ds 12)) ∧ Below w.heap.size w w' := by
  have hl : (rwM ds 12).length = 12 := rwM_length ds 12
  have hw : whB (rwM ds 12) = true := whB_iff.2 ⟨fun d hd => by
    obtain ⟨k, hk, rfl⟩ := mem_ix hd
    rw [hl] at hk
    rw [ix_rwM hk]
    exact hr.2.1 _ (ix_mem (by have := hr.1; omega)), by omega, by omega⟩
  have h := StrikeMany_i0 v (rwM ds 12) 0 12 w hv hw (by decide) (by rw [hl]; decide) (by decide)
  rw [rwM_many] at h
  exact h

set_option maxRecDepth 100000 in
set_option maxHeartbeats 16000000 in
theorem rackRuns_walk (vb : Value) (bs : List Int) (W : World) (hv : SlB W vb bs) :
    Calls Try.prog 18 #[vb] W fun e W' => e = .returned (.bool true) ∧ Below W.heap.size W W' := by
  have HV := Lib.hid hv
  clear hv
  cases hbig : decide (4096 < bs.length) with
  | true =>
    go_enter Try.func18, Try.ntmps18
    go_wp2_with fail
    refine (f6big_any vb bs _ HV.out _ hbig).mono ?_
    rintro e w' ⟨rfl, rfl⟩
    go_wp2
    go_ret
    exact ⟨rfl, Below.refl _ _⟩
  | false =>
    have HBG := Lib.hid hbig
    clear hbig
    go_enter Try.func18, Try.ntmps18
    go_wp2_with fail
    refine (f6big_any vb bs _ HV.out _ HBG.out).mono ?_
    rintro e w' ⟨rfl, rfl⟩
    go_wp2_with fail
    refine (DrawRunRack_any vb bs _ HV.out).mono ?_
    rintro e w1 ⟨v, ds, wn, m, rd, n, rfl, o_v, hl, hb⟩
    obtain ⟨A_v, C_v, rfl⟩ := own_form o_v
    have old := Lib.hid hb
    have HW0 := Lib.hid hb.size
    have O_v := Lib.hid o_v
    have HL := Lib.hid hl
    clear hb o_v hl HBG
    cases hs : stB ds wn m rd with
    | false =>
      have HSB := Lib.hid hs
      clear hs
      cases hrk : rkB ds wn with
      | true =>
        have HRB := Lib.hid hrk
        clear hrk
        go_wp2_with fail
        refine (RunRack_i1 _ ds wn m rd n _ (Sl.of_own (own_below O_v.out (by first | (with_reducible exact Below.refl _ _) | go_grown))) HSB.out).mono ?_
        rintro e w2 ⟨v2, rfl, o_v2, hb⟩
        obtain ⟨A_v2, C_v2, rfl⟩ := own_form o_v2
        have b_w2 : Below w1.heap.size w1 w2 := Below.trans (by first | (with_reducible exact Below.refl _ _) | go_grown) (hb.mono (by first | (with_reducible exact Nat.le_refl _) | (with_reducible assumption) | (simp [go_sem]; done) | (simp [go_sem]; omega) | omega))
        replace O_v := Lib.hid (own_below O_v.out b_w2)
        have B_r : Hid (Blk w2 (w1.heap.size) 27 #[.slice A_v ds.length C_v, .int .i64 wn]) := Blk.below (by first | exact Blk.new _ _ _ | exact (Blk.new _ _ _).alloc _ | (have h := Blk.new (w1) 27 #[.slice A_v ds.length C_v, .int .i64 wn]; simpa using h)) hb
        have B_s : Hid (Blk w2 (w1.heap.size + 1) 34 #[.int .i64 m, .int .i64 rd]) := Blk.below (by first | exact Blk.new _ _ _ | exact (Blk.new _ _ _).alloc _ | (have h := Blk.new (w1.alloc (.cells #[.slice A_v ds.length C_v, .int .i64 wn] 27)) 34 #[.int .i64 m, .int .i64 rd]; simpa using h)) hb
        replace old := Lib.hid (grown_again old.out b_w2)
        clear hb b_w2
        have O_v2 := Lib.hid o_v2
        clear o_v2
        have c_r_0 := B_r.out.cell 0 rfl
        have c_r_1 := B_r.out.cell 1 rfl
        have l_r := B_r.out.lt
        have c_s_0 := B_s.out.cell 0 rfl
        have c_s_1 := B_s.out.cell 1 rfl
        have l_s := B_s.out.lt
        go_wp2_with fail
        refine (RunRack_s1 _ ds wn m rd n _ (Sl.of_own (own_below O_v.out (by first | (with_reducible exact Below.refl _ _) | go_grown))) HSB.out).mono ?_
        rintro e w3 ⟨v3, rfl, o_v3, hb⟩
        obtain ⟨A_v3, C_v3, rfl⟩ := own_form o_v3
        have b_w3 : Below w2.heap.size w2 w3 := Below.trans (by first | (with_reducible exact Below.refl _ _) | go_grown) (hb.mono (by first | (with_reducible exact Nat.le_refl _) | (with_reducible assumption) | (simp [go_sem]; done) | (simp [go_sem]; omega) | omega))
        replace B_r := Lib.hid (B_r.out.below b_w3)
        replace B_s := Lib.hid (B_s.out.below b_w3)
        replace O_v := Lib.hid (own_below O_v.out b_w3)
        replace O_v2 := Lib.hid (own_below O_v2.out b_w3)
        have B_x : Hid (Blk w3 (w2.heap.size) 34 #[.int .i64 0, .int .i64 0]) := Blk.below (by first | exact Blk.new _ _ _ | exact (Blk.new _ _ _).alloc _ | (have h := Blk.new (w2) 34 #[.int .i64 0, .int .i64 0]; simpa using h)) hb
        replace old := Lib.hid (grown_again old.out b_w3)
        clear hb b_w3
        have O_v3 := Lib.hid o_v3
        clear o_v3
        clear c_r_0 c_r_1 l_r c_s_0 c_s_1 l_s
        have c_r_0 := B_r.out.cell 0 rfl
        have c_r_1 := B_r.out.cell 1 rfl
        have l_r := B_r.out.lt
        have c_s_0 := B_s.out.cell 0 rfl
        have c_s_1 := B_s.out.cell 1 rfl
        have l_s := B_s.out.lt
        have c_x_0 := B_x.out.cell 0 rfl
        have c_x_1 := B_x.out.cell 1 rfl
        have l_x := B_x.out.lt
        have SV := Lib.hid (Sl.of_own O_v.out)
        have S2 := Lib.hid (Sl.of_own O_v2.out)
        have S3 := Lib.hid (Sl.of_own O_v3.out)
        have dw : Below w3.heap.size w3 ((w3.alloc (.cells #[.int .i64 0, .int .i64 0] 34))) := by go_grown
        have SV := Lib.hid (SV.out.below dw)
        have S2 := Lib.hid (S2.out.below dw)
        have S3 := Lib.hid (S3.out.below dw)
        clear dw
        go_wp2_with fail
        refine wp_region_grow (by kernel_rfl) (by kernel_rfl) ?_
        repeat (go_big_quiet_step ((first
          | (go_at_call 64; exact grow_of (f6same_b _ _ ([] : List Int) _ (Sl.grow S2.out _) (Sl.grow S3.out _)))
          | (go_at_call 22; exact grow_of (ValidRack_r _ ds wn _ HRB.out _ (Sl.grow SV.out _)))
          | (go_at_call 20; exact grow_of (ValidRack_q _ ds wn _ HRB.out _ (Sl.grow SV.out _)))
          | (go_at_call 33; exact grow_of (ValidRackState_r _ ds wn m rd _ HSB.out _ (Sl.grow SV.out _)))
          | (go_at_call 31; exact grow_of (ValidRackState_q _ ds wn m rd _ HSB.out _ (Sl.grow SV.out _))))))
        refine wpQuiet_nil ?_
        intro w4 hb
        clear SV S2 S3
        have b_w4 : Below w3.heap.size w3 w4 := Below.trans (by first | (with_reducible exact Below.refl _ _) | go_grown) (hb.mono (by first | (with_reducible exact Nat.le_refl _) | (with_reducible assumption) | (simp [go_sem]; done) | (simp [go_sem]; omega) | omega))
        replace B_r := Lib.hid (B_r.out.below b_w4)
        replace B_s := Lib.hid (B_s.out.below b_w4)
        replace B_x := Lib.hid (B_x.out.below b_w4)
        replace O_v := Lib.hid (own_below O_v.out b_w4)
        replace O_v2 := Lib.hid (own_below O_v2.out b_w4)
        replace O_v3 := Lib.hid (own_below O_v3.out b_w4)
        have B_y : Hid (Blk w4 (w3.heap.size) 34 #[.int .i64 0, .int .i64 0]) := Blk.below (by first | exact Blk.new _ _ _ | exact (Blk.new _ _ _).alloc _ | (have h := Blk.new (w3) 34 #[.int .i64 0, .int .i64 0]; simpa using h)) hb
        replace old := Lib.hid (grown_again old.out b_w4)
        clear hb b_w4
        clear c_r_0 c_r_1 l_r c_s_0 c_s_1 l_s c_x_0 c_x_1 l_x
        have c_r_0 := B_r.out.cell 0 rfl
        have c_r_1 := B_r.out.cell 1 rfl
        have l_r := B_r.out.lt
        have c_s_0 := B_s.out.cell 0 rfl
        have c_s_1 := B_s.out.cell 1 rfl
        have l_s := B_s.out.lt
        have c_x_0 := B_x.out.cell 0 rfl
        have c_x_1 := B_x.out.cell 1 rfl
        have l_x := B_x.out.lt
        have c_y_0 := B_y.out.cell 0 rfl
        have c_y_1 := B_y.out.cell 1 rfl
        have l_y := B_y.out.lt
        go_wp2
        go_ret
        exact ⟨rfl, grown_again old.out (by go_grown)⟩
      | false =>
        have HRB := Lib.hid hrk
        clear hrk
        go_wp2_with fail
        refine (RunRack_i1 _ ds wn m rd n _ (Sl.of_own (own_below O_v.out (by first | (with_reducible exact Below.refl _ _) | go_grown))) HSB.out).mono ?_
        rintro e w2 ⟨v2, rfl, o_v2, hb⟩
        obtain ⟨A_v2, C_v2, rfl⟩ := own_form o_v2
        have b_w2 : Below w1.heap.size w1 w2 := Below.trans (by first | (with_reducible exact Below.refl _ _) | go_grown) (hb.mono (by first | (with_reducible exact Nat.le_refl _) | (with_reducible assumption) | (simp [go_sem]; done) | (simp [go_sem]; omega) | omega))
        replace O_v := Lib.hid (own_below O_v.out b_w2)
        have B_r : Hid (Blk w2 (w1.heap.size) 27 #[.slice A_v ds.length C_v, .int .i64 wn]) := Blk.below (by first | exact Blk.new _ _ _ | exact (Blk.new _ _ _).alloc _ | (have h := Blk.new (w1) 27 #[.slice A_v ds.length C_v, .int .i64 wn]; simpa using h)) hb
        have B_s : Hid (Blk w2 (w1.heap.size + 1) 34 #[.int .i64 m, .int .i64 rd]) := Blk.below (by first | exact Blk.new _ _ _ | exact (Blk.new _ _ _).alloc _ | (have h := Blk.new (w1.alloc (.cells #[.slice A_v ds.length C_v, .int .i64 wn] 27)) 34 #[.int .i64 m, .int .i64 rd]; simpa using h)) hb
        replace old := Lib.hid (grown_again old.out b_w2)
        clear hb b_w2
        have O_v2 := Lib.hid o_v2
        clear o_v2
        have c_r_0 := B_r.out.cell 0 rfl
        have c_r_1 := B_r.out.cell 1 rfl
        have l_r := B_r.out.lt
        have c_s_0 := B_s.out.cell 0 rfl
        have c_s_1 := B_s.out.cell 1 rfl
        have l_s := B_s.out.lt
        go_wp2_with fail
        refine (RunRack_s1 _ ds wn m rd n _ (Sl.of_own (own_below O_v.out (by first | (with_reducible exact Below.refl _ _) | go_grown))) HSB.out).mono ?_
        rintro e w3 ⟨v3, rfl, o_v3, hb⟩
        obtain ⟨A_v3, C_v3, rfl⟩ := own_form o_v3
        have b_w3 : Below w2.heap.size w2 w3 := Below.trans (by first | (with_reducible exact Below.refl _ _) | go_grown) (hb.mono (by first | (with_reducible exact Nat.le_refl _) | (with_reducible assumption) | (simp [go_sem]; done) | (simp [go_sem]; omega) | omega))
        replace B_r := Lib.hid (B_r.out.below b_w3)
        replace B_s := Lib.hid (B_s.out.below b_w3)
        replace O_v := Lib.hid (own_below O_v.out b_w3)
        replace O_v2 := Lib.hid (own_below O_v2.out b_w3)
        have B_x : Hid (Blk w3 (w2.heap.size) 34 #[.int .i64 0, .int .i64 0]) := Blk.below (by first | exact Blk.new _ _ _ | exact (Blk.new _ _ _).alloc _ | (have h := Blk.new (w2) 34 #[.int .i64 0, .int .i64 0]; simpa using h)) hb
        replace old := Lib.hid (grown_again old.out b_w3)
        clear hb b_w3
        have O_v3 := Lib.hid o_v3
        clear o_v3
        clear c_r_0 c_r_1 l_r c_s_0 c_s_1 l_s
        have c_r_0 := B_r.out.cell 0 rfl
        have c_r_1 := B_r.out.cell 1 rfl
        have l_r := B_r.out.lt
        have c_s_0 := B_s.out.cell 0 rfl
        have c_s_1 := B_s.out.cell 1 rfl
        have l_s := B_s.out.lt
        have c_x_0 := B_x.out.cell 0 rfl
        have c_x_1 := B_x.out.cell 1 rfl
        have l_x := B_x.out.lt
        have SV := Lib.hid (Sl.of_own O_v.out)
        have S2 := Lib.hid (Sl.of_own O_v2.out)
        have S3 := Lib.hid (Sl.of_own O_v3.out)
        have dw : Below w3.heap.size w3 ((w3.alloc (.cells #[.int .i64 0, .int .i64 0] 34))) := by go_grown
        have SV := Lib.hid (SV.out.below dw)
        have S2 := Lib.hid (S2.out.below dw)
        have S3 := Lib.hid (S3.out.below dw)
        clear dw
        go_wp2_with fail
        refine wp_region_grow (by kernel_rfl) (by kernel_rfl) ?_
        repeat (go_big_quiet_step ((first
          | (go_at_call 64; exact grow_of (f6same_b _ _ ([] : List Int) _ (Sl.grow S2.out _) (Sl.grow S3.out _)))
          | (go_at_call 22; exact grow_of (ValidRack_r _ ds wn _ HRB.out _ (Sl.grow SV.out _)))
          | (go_at_call 20; exact grow_of (ValidRack_q _ ds wn _ HRB.out _ (Sl.grow SV.out _)))
          | (go_at_call 33; exact grow_of (ValidRackState_r _ ds wn m rd _ HSB.out _ (Sl.grow SV.out _)))
          | (go_at_call 31; exact grow_of (ValidRackState_q _ ds wn m rd _ HSB.out _ (Sl.grow SV.out _))))))
        refine wpQuiet_nil ?_
        intro w4 hb
        clear SV S2 S3
        have b_w4 : Below w3.heap.size w3 w4 := Below.trans (by first | (with_reducible exact Below.refl _ _) | go_grown) (hb.mono (by first | (with_reducible exact Nat.le_refl _) | (with_reducible assumption) | (simp [go_sem]; done) | (simp [go_sem]; omega) | omega))
        replace B_r := Lib.hid (B_r.out.below b_w4)
        replace B_s := Lib.hid (B_s.out.below b_w4)
        replace B_x := Lib.hid (B_x.out.below b_w4)
        replace O_v := Lib.hid (own_below O_v.out b_w4)
        replace O_v2 := Lib.hid (own_below O_v2.out b_w4)
        replace O_v3 := Lib.hid (own_below O_v3.out b_w4)
        have B_y : Hid (Blk w4 (w3.heap.size) 34 #[.int .i64 0, .int .i64 0]) := Blk.below (by first | exact Blk.new _ _ _ | exact (Blk.new _ _ _).alloc _ | (have h := Blk.new (w3) 34 #[.int .i64 0, .int .i64 0]; simpa using h)) hb
        replace old := Lib.hid (grown_again old.out b_w4)
        clear hb b_w4
        clear c_r_0 c_r_1 l_r c_s_0 c_s_1 l_s c_x_0 c_x_1 l_x
        have c_r_0 := B_r.out.cell 0 rfl
        have c_r_1 := B_r.out.cell 1 rfl
        have l_r := B_r.out.lt
        have c_s_0 := B_s.out.cell 0 rfl
        have c_s_1 := B_s.out.cell 1 rfl
        have l_s := B_s.out.lt
        have c_x_0 := B_x.out.cell 0 rfl
        have c_x_1 := B_x.out.cell 1 rfl
        have l_x := B_x.out.lt
        have c_y_0 := B_y.out.cell 0 rfl
        have c_y_1 := B_y.out.cell 1 rfl
        have l_y := B_y.out.lt
        go_wp2
        go_ret
        exact ⟨rfl, grown_again old.out (by go_grown)⟩
    | true =>
      have HSB := Lib.hid hs
      have HRB := Lib.hid (rkB_iff.2 (stB_iff.1 hs).1)
      obtain ⟨hrk, hst⟩ := stB_iff.1 hs
      have HRK := Lib.hid hrk
      have HST := Lib.hid hst
      clear hs hrk hst
      cases hn : inB n 0 3000 with
      | false =>
        have HN := Lib.hid hn
        clear hn
        go_wp2_with fail
        refine (RunRack_i2 _ ds wn m rd n _ (Sl.of_own (own_below O_v.out (by first | (with_reducible exact Below.refl _ _) | go_grown))) HSB.out HN.out).mono ?_
        rintro e w2 ⟨v2, rfl, o_v2, hb⟩
        obtain ⟨A_v2, C_v2, rfl⟩ := own_form o_v2
        have b_w2 : Below w1.heap.size w1 w2 := Below.trans (by first | (with_reducible exact Below.refl _ _) | go_grown) (hb.mono (by first | (with_reducible exact Nat.le_refl _) | (with_reducible assumption) | (simp [go_sem]; done) | (simp [go_sem]; omega) | omega))
        replace O_v := Lib.hid (own_below O_v.out b_w2)
        have B_r : Hid (Blk w2 (w1.heap.size) 27 #[.slice A_v ds.length C_v, .int .i64 wn]) := Blk.below (by first | exact Blk.new _ _ _ | exact (Blk.new _ _ _).alloc _ | (have h := Blk.new (w1) 27 #[.slice A_v ds.length C_v, .int .i64 wn]; simpa using h)) hb
        have B_s : Hid (Blk w2 (w1.heap.size + 1) 34 #[.int .i64 m, .int .i64 rd]) := Blk.below (by first | exact Blk.new _ _ _ | exact (Blk.new _ _ _).alloc _ | (have h := Blk.new (w1.alloc (.cells #[.slice A_v ds.length C_v, .int .i64 wn] 27)) 34 #[.int .i64 m, .int .i64 rd]; simpa using h)) hb
        replace old := Lib.hid (grown_again old.out b_w2)
        clear hb b_w2
        have O_v2 := Lib.hid o_v2
        clear o_v2
        have c_r_0 := B_r.out.cell 0 rfl
        have c_r_1 := B_r.out.cell 1 rfl
        have l_r := B_r.out.lt
        have c_s_0 := B_s.out.cell 0 rfl
        have c_s_1 := B_s.out.cell 1 rfl
        have l_s := B_s.out.lt
        go_wp2_with fail
        refine (RunRack_s2 _ ds wn m rd n _ (Sl.of_own (own_below O_v.out (by first | (with_reducible exact Below.refl _ _) | go_grown))) HSB.out HN.out).mono ?_
        rintro e w3 ⟨v3, rfl, o_v3, hb⟩
        obtain ⟨A_v3, C_v3, rfl⟩ := own_form o_v3
        have b_w3 : Below w2.heap.size w2 w3 := Below.trans (by first | (with_reducible exact Below.refl _ _) | go_grown) (hb.mono (by first | (with_reducible exact Nat.le_refl _) | (with_reducible assumption) | (simp [go_sem]; done) | (simp [go_sem]; omega) | omega))
        replace B_r := Lib.hid (B_r.out.below b_w3)
        replace B_s := Lib.hid (B_s.out.below b_w3)
        replace O_v := Lib.hid (own_below O_v.out b_w3)
        replace O_v2 := Lib.hid (own_below O_v2.out b_w3)
        have B_x : Hid (Blk w3 (w2.heap.size) 34 #[.int .i64 0, .int .i64 0]) := Blk.below (by first | exact Blk.new _ _ _ | exact (Blk.new _ _ _).alloc _ | (have h := Blk.new (w2) 34 #[.int .i64 0, .int .i64 0]; simpa using h)) hb
        replace old := Lib.hid (grown_again old.out b_w3)
        clear hb b_w3
        have O_v3 := Lib.hid o_v3
        clear o_v3
        clear c_r_0 c_r_1 l_r c_s_0 c_s_1 l_s
        have c_r_0 := B_r.out.cell 0 rfl
        have c_r_1 := B_r.out.cell 1 rfl
        have l_r := B_r.out.lt
        have c_s_0 := B_s.out.cell 0 rfl
        have c_s_1 := B_s.out.cell 1 rfl
        have l_s := B_s.out.lt
        have c_x_0 := B_x.out.cell 0 rfl
        have c_x_1 := B_x.out.cell 1 rfl
        have l_x := B_x.out.lt
        have SV := Lib.hid (Sl.of_own O_v.out)
        have S2 := Lib.hid (Sl.of_own O_v2.out)
        have S3 := Lib.hid (Sl.of_own O_v3.out)
        have dw : Below w3.heap.size w3 ((w3.alloc (.cells #[.int .i64 0, .int .i64 0] 34))) := by go_grown
        have SV := Lib.hid (SV.out.below dw)
        have S2 := Lib.hid (S2.out.below dw)
        have S3 := Lib.hid (S3.out.below dw)
        clear dw
        go_wp2_with fail
        refine wp_region_grow (by kernel_rfl) (by kernel_rfl) ?_
        repeat (go_big_quiet_step ((first
          | (go_at_call 64; exact grow_of (f6same_b _ _ ([] : List Int) _ (Sl.grow S2.out _) (Sl.grow S3.out _)))
          | (go_at_call 22; exact grow_of (ValidRack_r _ ds wn _ HRB.out _ (Sl.grow SV.out _)))
          | (go_at_call 20; exact grow_of (ValidRack_q _ ds wn _ HRB.out _ (Sl.grow SV.out _)))
          | (go_at_call 33; exact grow_of (ValidRackState_r _ ds wn m rd _ HSB.out _ (Sl.grow SV.out _)))
          | (go_at_call 31; exact grow_of (ValidRackState_q _ ds wn m rd _ HSB.out _ (Sl.grow SV.out _))))))
        refine wpQuiet_nil ?_
        intro w4 hb
        clear SV S2 S3
        have b_w4 : Below w3.heap.size w3 w4 := Below.trans (by first | (with_reducible exact Below.refl _ _) | go_grown) (hb.mono (by first | (with_reducible exact Nat.le_refl _) | (with_reducible assumption) | (simp [go_sem]; done) | (simp [go_sem]; omega) | omega))
        replace B_r := Lib.hid (B_r.out.below b_w4)
        replace B_s := Lib.hid (B_s.out.below b_w4)
        replace B_x := Lib.hid (B_x.out.below b_w4)
        replace O_v := Lib.hid (own_below O_v.out b_w4)
        replace O_v2 := Lib.hid (own_below O_v2.out b_w4)
        replace O_v3 := Lib.hid (own_below O_v3.out b_w4)
        have B_y : Hid (Blk w4 (w3.heap.size) 34 #[.int .i64 0, .int .i64 0]) := Blk.below (by first | exact Blk.new _ _ _ | exact (Blk.new _ _ _).alloc _ | (have h := Blk.new (w3) 34 #[.int .i64 0, .int .i64 0]; simpa using h)) hb
        replace old := Lib.hid (grown_again old.out b_w4)
        clear hb b_w4
        clear c_r_0 c_r_1 l_r c_s_0 c_s_1 l_s c_x_0 c_x_1 l_x
        have c_r_0 := B_r.out.cell 0 rfl
        have c_r_1 := B_r.out.cell 1 rfl
        have l_r := B_r.out.lt
        have c_s_0 := B_s.out.cell 0 rfl
        have c_s_1 := B_s.out.cell 1 rfl
        have l_s := B_s.out.lt
        have c_x_0 := B_x.out.cell 0 rfl
        have c_x_1 := B_x.out.cell 1 rfl
        have l_x := B_x.out.lt
        have c_y_0 := B_y.out.cell 0 rfl
        have c_y_1 := B_y.out.cell 1 rfl
        have l_y := B_y.out.lt
        go_wp2
        go_ret
        exact ⟨rfl, grown_again old.out (by go_grown)⟩
      | true =>
        obtain ⟨hn0, hn1⟩ := inB_iff.1 hn
        obtain ⟨N, rfl⟩ := Int.eq_ofNat_of_zero_le hn0
        have hN : N ≤ 3000 := by omega
        clear hn
        obtain ⟨LL, hLL⟩ : ∃ LL, LL = itL ds wn m rd N := ⟨_, rfl⟩
        obtain ⟨mm, hmm⟩ : ∃ mm, mm = itM m N := ⟨_, rfl⟩
        obtain ⟨rr, hrr⟩ : ∃ rr, rr = itR ds wn m rd N := ⟨_, rfl⟩
        have HI := Lib.hid (fun v w hv => RunRack_i0 v ds wn m rd N w hv HSB.out hN)
        have HS := Lib.hid (fun v w hv => RunRack_s0 v ds wn m rd N w hv HSB.out hN)
        rw [← hLL, ← hmm, ← hrr] at HI HS
        have HLL := Lib.hid hLL
        have HMM := Lib.hid hmm
        have HRR := Lib.hid hrr
        clear hLL hmm hrr
        go_wp2_with fail
        refine (HI.out _ _ (Sl.of_own (own_below O_v.out (by first | (with_reducible exact Below.refl _ _) | go_grown)))).mono ?_
        rintro e w2 ⟨v2, rfl, o_v2, hb⟩
        obtain ⟨A_v2, C_v2, rfl⟩ := own_form o_v2
        have b_w2 : Below w1.heap.size w1 w2 := Below.trans (by first | (with_reducible exact Below.refl _ _) | go_grown) (hb.mono (by first | (with_reducible exact Nat.le_refl _) | (with_reducible assumption) | (simp [go_sem]; done) | (simp [go_sem]; omega) | omega))
        replace O_v := Lib.hid (own_below O_v.out b_w2)
        have B_r : Hid (Blk w2 (w1.heap.size) 27 #[.slice A_v ds.length C_v, .int .i64 wn]) := Blk.below (by first | exact Blk.new _ _ _ | exact (Blk.new _ _ _).alloc _ | (have h := Blk.new (w1) 27 #[.slice A_v ds.length C_v, .int .i64 wn]; simpa using h)) hb
        have B_s : Hid (Blk w2 (w1.heap.size + 1) 34 #[.int .i64 m, .int .i64 rd]) := Blk.below (by first | exact Blk.new _ _ _ | exact (Blk.new _ _ _).alloc _ | (have h := Blk.new (w1.alloc (.cells #[.slice A_v ds.length C_v, .int .i64 wn] 27)) 34 #[.int .i64 m, .int .i64 rd]; simpa using h)) hb
        replace old := Lib.hid (grown_again old.out b_w2)
        clear hb b_w2
        have O_v2 := Lib.hid o_v2
        clear o_v2
        have c_r_0 := B_r.out.cell 0 rfl
        have c_r_1 := B_r.out.cell 1 rfl
        have l_r := B_r.out.lt
        have c_s_0 := B_s.out.cell 0 rfl
        have c_s_1 := B_s.out.cell 1 rfl
        have l_s := B_s.out.lt
        go_wp2_with fail
        refine (HS.out _ _ (Sl.of_own (own_below O_v.out (by first | (with_reducible exact Below.refl _ _) | go_grown)))).mono ?_
        rintro e w3 ⟨v3, rfl, o_v3, hb⟩
        obtain ⟨A_v3, C_v3, rfl⟩ := own_form o_v3
        have b_w3 : Below w2.heap.size w2 w3 := Below.trans (by first | (with_reducible exact Below.refl _ _) | go_grown) (hb.mono (by first | (with_reducible exact Nat.le_refl _) | (with_reducible assumption) | (simp [go_sem]; done) | (simp [go_sem]; omega) | omega))
        replace B_r := Lib.hid (B_r.out.below b_w3)
        replace B_s := Lib.hid (B_s.out.below b_w3)
        replace O_v := Lib.hid (own_below O_v.out b_w3)
        replace O_v2 := Lib.hid (own_below O_v2.out b_w3)
        have B_x : Hid (Blk w3 (w2.heap.size) 34 #[.int .i64 mm, .int .i64 rr]) := Blk.below (by first | exact Blk.new _ _ _ | exact (Blk.new _ _ _).alloc _ | (have h := Blk.new (w2) 34 #[.int .i64 mm, .int .i64 rr]; simpa using h)) hb
        replace old := Lib.hid (grown_again old.out b_w3)
        clear hb b_w3
        have O_v3 := Lib.hid o_v3
        clear o_v3
        clear c_r_0 c_r_1 l_r c_s_0 c_s_1 l_s
        have c_r_0 := B_r.out.cell 0 rfl
        have c_r_1 := B_r.out.cell 1 rfl
        have l_r := B_r.out.lt
        have c_s_0 := B_s.out.cell 0 rfl
        have c_s_1 := B_s.out.cell 1 rfl
        have l_s := B_s.out.lt
        have c_x_0 := B_x.out.cell 0 rfl
        have c_x_1 := B_x.out.cell 1 rfl
        have l_x := B_x.out.lt
        have SV := Lib.hid (Sl.of_own O_v.out)
        have S2 := Lib.hid (Sl.of_own O_v2.out)
        have S3 := Lib.hid (Sl.of_own O_v3.out)
        have dw : Below w3.heap.size w3 ((w3.alloc (.cells #[.int .i64 mm, .int .i64 rr] 34))) := by go_grown
        have SV := Lib.hid (SV.out.below dw)
        have S2 := Lib.hid (S2.out.below dw)
        have S3 := Lib.hid (S3.out.below dw)
        clear dw
        go_wp2_with fail
        refine wp_region_grow (by kernel_rfl) (by kernel_rfl) ?_
        repeat (go_big_quiet_step ((first
          | (go_at_call 64; exact grow_of (f6same_b _ _ LL _ (Sl.grow S2.out _) (Sl.grow S3.out _)))
          | (go_at_call 22; exact grow_of (ValidRack_r _ ds wn _ HRB.out _ (Sl.grow SV.out _)))
          | (go_at_call 20; exact grow_of (ValidRack_q _ ds wn _ HRB.out _ (Sl.grow SV.out _)))
          | (go_at_call 33; exact grow_of (ValidRackState_r _ ds wn m rd _ HSB.out _ (Sl.grow SV.out _)))
          | (go_at_call 31; exact grow_of (ValidRackState_q _ ds wn m rd _ HSB.out _ (Sl.grow SV.out _))))))
        refine wpQuiet_nil ?_
        intro w4 hb
        clear SV S2 S3
        have b_w4 : Below w3.heap.size w3 w4 := Below.trans (by first | (with_reducible exact Below.refl _ _) | go_grown) (hb.mono (by first | (with_reducible exact Nat.le_refl _) | (with_reducible assumption) | (simp [go_sem]; done) | (simp [go_sem]; omega) | omega))
        replace B_r := Lib.hid (B_r.out.below b_w4)
        replace B_s := Lib.hid (B_s.out.below b_w4)
        replace B_x := Lib.hid (B_x.out.below b_w4)
        replace O_v := Lib.hid (own_below O_v.out b_w4)
        replace O_v2 := Lib.hid (own_below O_v2.out b_w4)
        replace O_v3 := Lib.hid (own_below O_v3.out b_w4)
        have B_y : Hid (Blk w4 (w3.heap.size) 34 #[.int .i64 mm, .int .i64 rr]) := Blk.below (by first | exact Blk.new _ _ _ | exact (Blk.new _ _ _).alloc _ | (have h := Blk.new (w3) 34 #[.int .i64 mm, .int .i64 rr]; simpa using h)) hb
        replace old := Lib.hid (grown_again old.out b_w4)
        clear hb b_w4
        clear O_v3
        clear c_r_0 c_r_1 l_r c_s_0 c_s_1 l_s c_x_0 c_x_1 l_x
        have c_r_0 := B_r.out.cell 0 rfl
        have c_r_1 := B_r.out.cell 1 rfl
        have l_r := B_r.out.lt
        have c_s_0 := B_s.out.cell 0 rfl
        have c_s_1 := B_s.out.cell 1 rfl
        have l_s := B_s.out.lt
        have c_x_0 := B_x.out.cell 0 rfl
        have c_x_1 := B_x.out.cell 1 rfl
        have l_x := B_x.out.lt
        have c_y_0 := B_y.out.cell 0 rfl
        have c_y_1 := B_y.out.cell 1 rfl
        have l_y := B_y.out.lt
        go_wp2_with fail
        refine (f6roll_any vb bs W _ HV.out (grown_again old.out (by first | (with_reducible exact Below.refl _ _) | go_grown)) w4.heap.size rfl _ (by decide) (by decide)).mono ?_
        rintro e w5 ⟨rfl, hd, hb⟩
        have HD := Lib.hid hd
        clear hd
        have z_r := l_r
        have z_s := l_s
        have z_x := l_x
        have z_y := l_y
        have hvl : ∀ j, (Value.slice A_v2 LL.length C_v2).ownBlock = some j → j < w4.heap.size := fun j hj => (O_v2.out.lt j hj).2
        have hvv : ∀ j, (Value.slice A_v ds.length C_v).ownBlock = some j → j < w4.heap.size := fun j hj => (O_v.out.lt j hj).2
        have HVL := Lib.hid hvl
        have HVV := Lib.hid hvv
        clear hvl hvv
        clear c_r_0 c_r_1 l_r c_s_0 c_s_1 l_s c_x_0 c_x_1 l_x c_y_0 c_y_1 l_y
        have b_w5 : Below w4.heap.size w4 w5 := Below.trans (by first | (with_reducible exact Below.refl _ _) | go_grown) (hb.mono (by first | (with_reducible exact Nat.le_refl _) | (with_reducible assumption) | (simp [go_sem]; done) | (simp [go_sem]; omega) | omega))
        replace B_r := Lib.hid (B_r.out.below b_w5)
        replace B_s := Lib.hid (B_s.out.below b_w5)
        replace B_x := Lib.hid (B_x.out.below b_w5)
        replace B_y := Lib.hid (B_y.out.below b_w5)
        replace O_v := Lib.hid (own_below O_v.out b_w5)
        replace O_v2 := Lib.hid (own_below O_v2.out b_w5)
        replace old := Lib.hid (grown_again old.out b_w5)
        clear hb b_w5
        have c_r_0 := B_r.out.cell 0 rfl
        have c_r_1 := B_r.out.cell 1 rfl
        have l_r := B_r.out.lt
        have c_s_0 := B_s.out.cell 0 rfl
        have c_s_1 := B_s.out.cell 1 rfl
        have l_s := B_s.out.lt
        have c_x_0 := B_x.out.cell 0 rfl
        have c_x_1 := B_x.out.cell 1 rfl
        have l_x := B_x.out.lt
        have c_y_0 := B_y.out.cell 0 rfl
        have c_y_1 := B_y.out.cell 1 rfl
        have l_y := B_y.out.lt
        have e1 : IntKind.i64.wrap ((N : Int) + 1) = (N : Int) + 1 := IntWalk.i64_in _ (by omega)
        go_wp2_with fail
        refine (below_any W _ _ vb bs HD.out ((N : Int) + 1) (by omega) (by omega)).mono ?_
        rintro e w6 ⟨xp, ⟨xp0, xp1⟩, rfl, hd, hg⟩
        obtain ⟨P, rfl⟩ := Int.eq_ofNat_of_zero_le xp0
        have hP : P ≤ N := by omega
        clear hd HD
        replace B_r := Lib.hid (B_r.out.grown hg (by first | (simp; done) | (simp; omega) | omega))
        replace B_s := Lib.hid (B_s.out.grown hg (by first | (simp; done) | (simp; omega) | omega))
        replace B_x := Lib.hid (B_x.out.grown hg (by first | (simp; done) | (simp; omega) | omega))
        replace B_y := Lib.hid (B_y.out.grown hg (by first | (simp; done) | (simp; omega) | omega))
        replace O_v2 := Lib.hid (O_v2.out.kept hg (by
          cases hv : (Value.slice A_v2 LL.length C_v2).ownBlock with
          | none => exact Or.inl rfl
          | some j => exact Or.inr fun e => by have := HVL.out j hv; cases e; omega))
        replace O_v := Lib.hid (O_v.out.kept hg (by
          cases hv : (Value.slice A_v ds.length C_v).ownBlock with
          | none => exact Or.inl rfl
          | some j => exact Or.inr fun e => by have := HVV.out j hv; cases e; omega))
        have hW0 := old.out.size
        replace old := Lib.hid (old.out.grown hg hW0 (fun j hj => by cases hj; have := HW0.out; omega))
        clear c_r_0 c_r_1 l_r c_s_0 c_s_1 l_s c_x_0 c_x_1 l_x c_y_0 c_y_1 l_y e1
        clear hg hW0 HVL HVV xp0 xp1
        clear z_r z_s z_x z_y
        obtain ⟨L1, hL1⟩ : ∃ L1, L1 = itL ds wn m rd P := ⟨_, rfl⟩
        obtain ⟨m1, hm1⟩ : ∃ m1, m1 = itM m P := ⟨_, rfl⟩
        obtain ⟨r1, hr1⟩ : ∃ r1, r1 = itR ds wn m rd P := ⟨_, rfl⟩
        have HI1 := Lib.hid (fun v w hv => RunRack_i0 v ds wn m rd P w hv HSB.out (by omega))
        rw [← hL1, ← hm1, ← hr1] at HI1
        obtain ⟨Q, hQ⟩ : ∃ Q, P + Q = N := ⟨N - P, by omega⟩
        have hsb1 : stB ds wn m1 r1 = true := by rw [hm1, hr1]; exact stB_iff.2 ⟨HRK.out, stOk_it HRK.out HST.out P⟩
        obtain ⟨L2, hL2⟩ : ∃ L2, L2 = itL ds wn m1 r1 Q := ⟨_, rfl⟩
        have hmq : itM m1 Q = mm := by rw [hm1, itM_add, hQ, HMM.out]
        have hrq : itR ds wn m1 r1 Q = rr := by rw [hm1, hr1, itR_add, hQ, HRR.out]
        have hlq : L1 ++ L2 = LL := by rw [hL1, hL2, hm1, hr1, ← itL_add, hQ, HLL.out]
        have HI2 := Lib.hid (fun v w hv => RunRack_i0 v ds wn m1 r1 Q w hv hsb1 (by omega))
        rw [← hL2, hmq, hrq] at HI2
        have HLQ := Lib.hid hlq
        have hl1 : L1.length ≤ 3000 := by rw [hL1]; exact Nat.le_trans (itL_length _ _ _ _ _) (by omega)
        have hl2 : L2.length ≤ 3000 := by rw [hL2]; exact Nat.le_trans (itL_length _ _ _ _ _) (by omega)
        have e2 : IntKind.i64.wrap ((N : Int) - (P : Int)) = (Q : Int) := by rw [show (N : Int) - (P : Int) = (Q : Int) by omega]; exact IntWalk.i64_in _ (by omega)
        have e3 : (N : Int) - (P : Int) = (Q : Int) := by omega
        clear hL1 hm1 hr1 hsb1 hL2 hmq hrq hlq hQ
        have c_r_0 := B_r.out.cell 0 rfl
        have c_r_1 := B_r.out.cell 1 rfl
        have l_r := B_r.out.lt
        have c_s_0 := B_s.out.cell 0 rfl
        have c_s_1 := B_s.out.cell 1 rfl
        have l_s := B_s.out.lt
        have c_x_0 := B_x.out.cell 0 rfl
        have c_x_1 := B_x.out.cell 1 rfl
        have l_x := B_x.out.lt
        have c_y_0 := B_y.out.cell 0 rfl
        have c_y_1 := B_y.out.cell 1 rfl
        have l_y := B_y.out.lt
        go_wp2_with fail
        refine (HI1.out _ _ (Sl.of_own (own_below O_v.out (by first | (with_reducible exact Below.refl _ _) | go_grown)))).mono ?_
        rintro e w7 ⟨v4, rfl, o_v4, hb⟩
        obtain ⟨A_v4, C_v4, rfl⟩ := own_form o_v4
        have b_w7 : Below w6.heap.size w6 w7 := Below.trans (by first | (with_reducible exact Below.refl _ _) | go_grown) (hb.mono (by first | (with_reducible exact Nat.le_refl _) | (with_reducible assumption) | (simp [go_sem]; done) | (simp [go_sem]; omega) | omega))
        replace B_r := Lib.hid (B_r.out.below b_w7)
        replace B_s := Lib.hid (B_s.out.below b_w7)
        replace B_x := Lib.hid (B_x.out.below b_w7)
        replace B_y := Lib.hid (B_y.out.below b_w7)
        replace O_v := Lib.hid (own_below O_v.out b_w7)
        replace O_v2 := Lib.hid (own_below O_v2.out b_w7)
        replace old := Lib.hid (grown_again old.out b_w7)
        clear hb b_w7
        have O_v4 := Lib.hid o_v4
        clear o_v4
        clear c_r_0 c_r_1 l_r c_s_0 c_s_1 l_s c_x_0 c_x_1 l_x c_y_0 c_y_1 l_y
        have c_r_0 := B_r.out.cell 0 rfl
        have c_r_1 := B_r.out.cell 1 rfl
        have l_r := B_r.out.lt
        have c_s_0 := B_s.out.cell 0 rfl
        have c_s_1 := B_s.out.cell 1 rfl
        have l_s := B_s.out.lt
        have c_x_0 := B_x.out.cell 0 rfl
        have c_x_1 := B_x.out.cell 1 rfl
        have l_x := B_x.out.lt
        have c_y_0 := B_y.out.cell 0 rfl
        have c_y_1 := B_y.out.cell 1 rfl
        have l_y := B_y.out.lt
        go_wp2_with fail
        refine (HI2.out _ _ (Sl.of_own (own_below O_v.out (by first | (with_reducible exact Below.refl _ _) | go_grown)))).mono ?_
        rintro e w8 ⟨v5, rfl, o_v5, hb⟩
        obtain ⟨A_v5, C_v5, rfl⟩ := own_form o_v5
        have b_w8 : Below w7.heap.size w7 w8 := Below.trans (by first | (with_reducible exact Below.refl _ _) | go_grown) (hb.mono (by first | (with_reducible exact Nat.le_refl _) | (with_reducible assumption) | (simp [go_sem]; done) | (simp [go_sem]; omega) | omega))
        replace B_r := Lib.hid (B_r.out.below b_w8)
        replace B_s := Lib.hid (B_s.out.below b_w8)
        replace B_x := Lib.hid (B_x.out.below b_w8)
        replace B_y := Lib.hid (B_y.out.below b_w8)
        replace O_v := Lib.hid (own_below O_v.out b_w8)
        replace O_v2 := Lib.hid (own_below O_v2.out b_w8)
        replace O_v4 := Lib.hid (own_below O_v4.out b_w8)
        have B_p : Hid (Blk w8 (w7.heap.size) 34 #[.int .i64 m1, .int .i64 r1]) := Blk.below (by first | exact Blk.new _ _ _ | exact (Blk.new _ _ _).alloc _ | (have h := Blk.new (w7) 34 #[.int .i64 m1, .int .i64 r1]; simpa using h)) hb
        replace old := Lib.hid (grown_again old.out b_w8)
        clear hb b_w8
        have O_v5 := Lib.hid o_v5
        clear o_v5
        clear e2 e3
        clear c_r_0 c_r_1 l_r c_s_0 c_s_1 l_s c_x_0 c_x_1 l_x c_y_0 c_y_1 l_y
        have c_r_0 := B_r.out.cell 0 rfl
        have c_r_1 := B_r.out.cell 1 rfl
        have l_r := B_r.out.lt
        have c_s_0 := B_s.out.cell 0 rfl
        have c_s_1 := B_s.out.cell 1 rfl
        have l_s := B_s.out.lt
        have c_x_0 := B_x.out.cell 0 rfl
        have c_x_1 := B_x.out.cell 1 rfl
        have l_x := B_x.out.lt
        have c_y_0 := B_y.out.cell 0 rfl
        have c_y_1 := B_y.out.cell 1 rfl
        have l_y := B_y.out.lt
        have c_p_0 := B_p.out.cell 0 rfl
        have c_p_1 := B_p.out.cell 1 rfl
        have l_p := B_p.out.lt
        have HLQ2 := HLQ.out
        have dz : Below w8.heap.size w8 ((w8.alloc (.cells #[.int .i64 mm, .int .i64 rr] 34)).alloc (.cells #[] 2)) := by go_grown
        have DZ := Lib.hid dz
        have SL4 := Lib.hid ((Sl.of_own O_v4.out).below dz)
        have zq1 : True := trivial
        have OL : Hid (((w8.alloc (.cells #[.int .i64 mm, .int .i64 rr] 34)).alloc (.cells #[] 2)).ownsRow (w8.heap.size + 1) 2 1 (.slice (some ⟨w8.heap.size + 1, 0, none⟩) 0 0) ([] : List Int).length (I64 [])) := own_lit _ _ (by simp) (Nat.le_refl _) _
        clear dz HLQ2
        go_wp2_with (first
          | (at_builtin; refine wpList_appG (by first | rfl | (simp [Region.wanted, yielded]; done)) _ _ rfl (w8.heap.size + 1) _ [] rfl OL.out _ rfl L1 SL4.out L1 rfl (by decide) (by omega) (by first | (simp; done) | (simp; omega)) ?_; intro v6 wa h6 hb6 hg6; obtain ⟨A6, C6, rfl⟩ := own_form h6; have HA := Lib.hid (Below.trans DZ.out (hb6.mono (Nat.le_succ _))); have H6 := Lib.hid h6; have SL5 := Lib.hid ((Sl.of_own O_v5.out).below HA.out); have za := hb6.size; clear h6 hb6 hg6)
          | (at_builtin; refine wpList_appG (by first | rfl | (simp [Region.wanted, yielded]; done)) _ _ rfl (w8.heap.size + 1) _ L1 rfl H6.out _ rfl L2 SL5.out LL HLQ.out (by omega) (by omega) (by first | omega | (simp at za; omega)) ?_; intro v7 wb h7 hb7 hg7; obtain ⟨A7, C7, rfl⟩ := own_form h7; have HB := Lib.hid (HA.out.trans (hb7.mono (Nat.le_succ _))); have H7 := Lib.hid h7; clear h7 hb7 hg7))
        refine (f6same_b _ _ LL _ (Sl.of_own H7.out) ((Sl.of_own O_v2.out).below HB.out)).mono ?_
        rintro e wd ⟨rfl, hb⟩
        have BD : Below w8.heap.size w8 wd := grown_again HB.out hb
        clear c_r_0 c_r_1 l_r c_s_0 c_s_1 l_s c_x_0 c_x_1 l_x c_y_0 c_y_1 l_y c_p_0 c_p_1 l_p
        clear hb DZ SL4 zq1 OL HA H6 SL5 za HB H7
        replace B_r := Lib.hid (B_r.out.below BD)
        replace B_s := Lib.hid (B_s.out.below BD)
        replace B_x := Lib.hid (B_x.out.below BD)
        replace B_y := Lib.hid (B_y.out.below BD)
        replace B_p := Lib.hid (B_p.out.below BD)
        replace O_v := Lib.hid (own_below O_v.out BD)
        replace O_v2 := Lib.hid (own_below O_v2.out BD)
        replace O_v4 := Lib.hid (own_below O_v4.out BD)
        replace O_v5 := Lib.hid (own_below O_v5.out BD)
        replace old := Lib.hid (grown_again old.out BD)
        clear BD
        have hsbN : stB ds wn mm rr = true := by rw [HMM.out, HRR.out]; exact stB_iff.2 ⟨HRK.out, stOk_it HRK.out HST.out N⟩
        have HSBN := Lib.hid hsbN
        clear hsbN
        have c_r_0 := B_r.out.cell 0 rfl
        have c_r_1 := B_r.out.cell 1 rfl
        have l_r := B_r.out.lt
        have c_s_0 := B_s.out.cell 0 rfl
        have c_s_1 := B_s.out.cell 1 rfl
        have l_s := B_s.out.lt
        have c_x_0 := B_x.out.cell 0 rfl
        have c_x_1 := B_x.out.cell 1 rfl
        have l_x := B_x.out.lt
        have c_y_0 := B_y.out.cell 0 rfl
        have c_y_1 := B_y.out.cell 1 rfl
        have l_y := B_y.out.lt
        have c_p_0 := B_p.out.cell 0 rfl
        have c_p_1 := B_p.out.cell 1 rfl
        have l_p := B_p.out.lt
        go_wp2_with fail
        refine (ValidRackState_r _ ds wn mm rr _ HSBN.out _ (Sl.of_own (own_below O_v.out (by first | (with_reducible exact Below.refl _ _) | go_grown)))).mono ?_
        rintro e w9 ⟨rfl, hb⟩
        have b_w9 : Below wd.heap.size wd w9 := Below.trans (by first | (with_reducible exact Below.refl _ _) | go_grown) (hb.mono (by first | (with_reducible exact Nat.le_refl _) | (with_reducible assumption) | (simp [go_sem]; done) | (simp [go_sem]; omega) | omega))
        replace B_r := Lib.hid (B_r.out.below b_w9)
        replace B_s := Lib.hid (B_s.out.below b_w9)
        replace B_x := Lib.hid (B_x.out.below b_w9)
        replace B_y := Lib.hid (B_y.out.below b_w9)
        replace B_p := Lib.hid (B_p.out.below b_w9)
        replace O_v := Lib.hid (own_below O_v.out b_w9)
        replace O_v2 := Lib.hid (own_below O_v2.out b_w9)
        replace O_v4 := Lib.hid (own_below O_v4.out b_w9)
        replace O_v5 := Lib.hid (own_below O_v5.out b_w9)
        replace old := Lib.hid (grown_again old.out b_w9)
        clear hb b_w9
        clear c_r_0 c_r_1 l_r c_s_0 c_s_1 l_s c_x_0 c_x_1 l_x c_y_0 c_y_1 l_y c_p_0 c_p_1 l_p
        have c_r_0 := B_r.out.cell 0 rfl
        have c_r_1 := B_r.out.cell 1 rfl
        have l_r := B_r.out.lt
        have c_s_0 := B_s.out.cell 0 rfl
        have c_s_1 := B_s.out.cell 1 rfl
        have l_s := B_s.out.lt
        have c_x_0 := B_x.out.cell 0 rfl
        have c_x_1 := B_x.out.cell 1 rfl
        have l_x := B_x.out.lt
        have c_y_0 := B_y.out.cell 0 rfl
        have c_y_1 := B_y.out.cell 1 rfl
        have l_y := B_y.out.lt
        have c_p_0 := B_p.out.cell 0 rfl
        have c_p_1 := B_p.out.cell 1 rfl
        have l_p := B_p.out.lt
        go_wp2_with fail
        refine (RackWheel_i0 _ ds wn _ (Sl.of_own (own_below O_v.out (by first | (with_reducible exact Below.refl _ _) | go_grown))) HRB.out).mono ?_
        rintro e w10 ⟨vw, rfl, o_vw, hb⟩
        obtain ⟨A_vw, C_vw, rfl⟩ := own_form o_vw
        have b_w10 : Below w9.heap.size w9 w10 := Below.trans (by first | (with_reducible exact Below.refl _ _) | go_grown) (hb.mono (by first | (with_reducible exact Nat.le_refl _) | (with_reducible assumption) | (simp [go_sem]; done) | (simp [go_sem]; omega) | omega))
        replace B_r := Lib.hid (B_r.out.below b_w10)
        replace B_s := Lib.hid (B_s.out.below b_w10)
        replace B_x := Lib.hid (B_x.out.below b_w10)
        replace B_y := Lib.hid (B_y.out.below b_w10)
        replace B_p := Lib.hid (B_p.out.below b_w10)
        replace O_v := Lib.hid (own_below O_v.out b_w10)
        replace O_v2 := Lib.hid (own_below O_v2.out b_w10)
        replace O_v4 := Lib.hid (own_below O_v4.out b_w10)
        replace O_v5 := Lib.hid (own_below O_v5.out b_w10)
        replace old := Lib.hid (grown_again old.out b_w10)
        clear hb b_w10
        have O_vw := Lib.hid o_vw
        clear o_vw
        have hrw : (rwM ds 12).length = 12 := rwM_length ds 12
        clear hrw
        clear c_r_0 c_r_1 l_r c_s_0 c_s_1 l_s c_x_0 c_x_1 l_x c_y_0 c_y_1 l_y c_p_0 c_p_1 l_p
        have c_r_0 := B_r.out.cell 0 rfl
        have c_r_1 := B_r.out.cell 1 rfl
        have l_r := B_r.out.lt
        have c_s_0 := B_s.out.cell 0 rfl
        have c_s_1 := B_s.out.cell 1 rfl
        have l_s := B_s.out.lt
        have c_x_0 := B_x.out.cell 0 rfl
        have c_x_1 := B_x.out.cell 1 rfl
        have l_x := B_x.out.lt
        have c_y_0 := B_y.out.cell 0 rfl
        have c_y_1 := B_y.out.cell 1 rfl
        have l_y := B_y.out.lt
        have c_p_0 := B_p.out.cell 0 rfl
        have c_p_1 := B_p.out.cell 1 rfl
        have l_p := B_p.out.lt
        go_wp2_with fail
        refine (day_run _ ds wn _ (Sl.of_own (own_below O_v.out (by first | (with_reducible exact Below.refl _ _) | go_grown))) HRK.out).mono ?_
        rintro e w11 ⟨vd, rfl, o_vd, hb⟩
        obtain ⟨A_vd, C_vd, rfl⟩ := own_form o_vd
        have b_w11 : Below w10.heap.size w10 w11 := Below.trans (by first | (with_reducible exact Below.refl _ _) | go_grown) (hb.mono (by first | (with_reducible exact Nat.le_refl _) | (with_reducible assumption) | (simp [go_sem]; done) | (simp [go_sem]; omega) | omega))
        replace B_r := Lib.hid (B_r.out.below b_w11)
        replace B_s := Lib.hid (B_s.out.below b_w11)
        replace B_x := Lib.hid (B_x.out.below b_w11)
        replace B_y := Lib.hid (B_y.out.below b_w11)
        replace B_p := Lib.hid (B_p.out.below b_w11)
        replace O_v := Lib.hid (own_below O_v.out b_w11)
        replace O_v2 := Lib.hid (own_below O_v2.out b_w11)
        replace O_v4 := Lib.hid (own_below O_v4.out b_w11)
        replace O_v5 := Lib.hid (own_below O_v5.out b_w11)
        replace O_vw := Lib.hid (own_below O_vw.out b_w11)
        have B_k : Hid (Blk w11 (w10.heap.size) 62 #[.slice A_vw (rwM ds 12).length C_vw]) := Blk.below (by first | exact Blk.new _ _ _ | exact (Blk.new _ _ _).alloc _ | (have h := Blk.new (w10) 62 #[.slice A_vw (rwM ds 12).length C_vw]; simpa using h)) hb
        replace old := Lib.hid (grown_again old.out b_w11)
        clear hb b_w11
        have O_vd := Lib.hid o_vd
        clear o_vd
        clear c_r_0 c_r_1 l_r c_s_0 c_s_1 l_s c_x_0 c_x_1 l_x c_y_0 c_y_1 l_y c_p_0 c_p_1 l_p
        have c_r_0 := B_r.out.cell 0 rfl
        have c_r_1 := B_r.out.cell 1 rfl
        have l_r := B_r.out.lt
        have c_s_0 := B_s.out.cell 0 rfl
        have c_s_1 := B_s.out.cell 1 rfl
        have l_s := B_s.out.lt
        have c_x_0 := B_x.out.cell 0 rfl
        have c_x_1 := B_x.out.cell 1 rfl
        have l_x := B_x.out.lt
        have c_y_0 := B_y.out.cell 0 rfl
        have c_y_1 := B_y.out.cell 1 rfl
        have l_y := B_y.out.lt
        have c_p_0 := B_p.out.cell 0 rfl
        have c_p_1 := B_p.out.cell 1 rfl
        have l_p := B_p.out.lt
        have c_k_0 := B_k.out.cell 0 rfl
        have l_k := B_k.out.lt
        go_wp2_with fail
        refine (day_wheel _ ds wn _ (Sl.of_own (own_below O_vw.out (by first | (with_reducible exact Below.refl _ _) | go_grown))) HRK.out).mono ?_
        rintro e w12 ⟨vg, zz, rfl, o_vg, hb⟩
        obtain ⟨A_vg, C_vg, rfl⟩ := own_form o_vg
        have b_w12 : Below w11.heap.size w11 w12 := Below.trans (by first | (with_reducible exact Below.refl _ _) | go_grown) (hb.mono (by first | (with_reducible exact Nat.le_refl _) | (with_reducible assumption) | (simp [go_sem]; done) | (simp [go_sem]; omega) | omega))
        replace B_r := Lib.hid (B_r.out.below b_w12)
        replace B_s := Lib.hid (B_s.out.below b_w12)
        replace B_x := Lib.hid (B_x.out.below b_w12)
        replace B_y := Lib.hid (B_y.out.below b_w12)
        replace B_p := Lib.hid (B_p.out.below b_w12)
        replace B_k := Lib.hid (B_k.out.below b_w12)
        replace O_v := Lib.hid (own_below O_v.out b_w12)
        replace O_v2 := Lib.hid (own_below O_v2.out b_w12)
        replace O_v4 := Lib.hid (own_below O_v4.out b_w12)
        replace O_v5 := Lib.hid (own_below O_v5.out b_w12)
        replace O_vw := Lib.hid (own_below O_vw.out b_w12)
        replace O_vd := Lib.hid (own_below O_vd.out b_w12)
        have B_d : Hid (Blk w12 (w11.heap.size) 34 #[.int .i64 0, .int .i64 0]) := Blk.below (by first | exact Blk.new _ _ _ | exact (Blk.new _ _ _).alloc _ | (have h := Blk.new (w11) 34 #[.int .i64 0, .int .i64 0]; simpa using h)) hb
        replace old := Lib.hid (grown_again old.out b_w12)
        clear hb b_w12
        have O_vg := Lib.hid o_vg
        clear o_vg
        clear c_r_0 c_r_1 l_r c_s_0 c_s_1 l_s c_x_0 c_x_1 l_x c_y_0 c_y_1 l_y c_p_0 c_p_1 l_p c_k_0 l_k
        have c_r_0 := B_r.out.cell 0 rfl
        have c_r_1 := B_r.out.cell 1 rfl
        have l_r := B_r.out.lt
        have c_s_0 := B_s.out.cell 0 rfl
        have c_s_1 := B_s.out.cell 1 rfl
        have l_s := B_s.out.lt
        have c_x_0 := B_x.out.cell 0 rfl
        have c_x_1 := B_x.out.cell 1 rfl
        have l_x := B_x.out.lt
        have c_y_0 := B_y.out.cell 0 rfl
        have c_y_1 := B_y.out.cell 1 rfl
        have l_y := B_y.out.lt
        have c_p_0 := B_p.out.cell 0 rfl
        have c_p_1 := B_p.out.cell 1 rfl
        have l_p := B_p.out.lt
        have c_k_0 := B_k.out.cell 0 rfl
        have l_k := B_k.out.lt
        have c_d_0 := B_d.out.cell 0 rfl
        have c_d_1 := B_d.out.cell 1 rfl
        have l_d := B_d.out.lt
        go_wp2_with fail
        refine (f6same_b _ _ (rwM ds 12) _ (Sl.of_own O_vd.out) (Sl.of_own O_vg.out)).mono ?_
        rintro e wz ⟨rfl, hb⟩
        replace old := Lib.hid (grown_again old.out hb)
        clear hb
        clear c_r_0 c_r_1 l_r c_s_0 c_s_1 l_s c_x_0 c_x_1 l_x c_y_0 c_y_1 l_y c_p_0 c_p_1 l_p c_k_0 l_k c_d_0 c_d_1 l_d
        go_wp2
        go_ret
        exact ⟨rfl, old.out⟩

set_option maxRecDepth 100000 in
theorem fnRackRuns_lifted (os : Os) (started : os.Started) (H : Type) (enc : TypeId × Value → H) :
    ReturnsInHanded {} Try.checked os 18 .any (Rows.fnRackRunsSpec.pre6 enc Try.prog Try.f18 Rows.fnRackRunsRow.domain false) (Rows.fnRackRunsSpec.post enc Try.prog Try.f18 false true false false) := by
  refine returnsInHanded_of_change (C := Try.checked) Try.own started (by kernel_rfl) Try.func18
    (ChangeSpec.witness6 (enc := enc) (C := Try.checked) false ⟨#[], #[.slice none 0 0], []⟩ 8 (by kernel_rfl) (by kernel_rfl) (by kernel_rfl) (by kernel_rfl)) ?_
  intro W base args ds gs before hval0 hW hcnd _
  have hval : ∀ (j : Nat) t v, Try.f18.params[j]? = some t → args[j]? = some v → Value.okWide Try.prog W .any base t v := hval0
  have hW' := hW
  have hltB : ∀ x ∈ before, x.block < W.heap.size := fun x hx => hW.lt x hx
  obtain ⟨p, q, hA0, hV, rfl, hfz, hnd⟩ := hW
  have hA : DataW.TrodAll enc Try.prog W 0 (fun _ => true) true Try.f18.params.toList args.toList ds p := hA0
  rw [Try.params18] at hA hval
  obtain ⟨v0, vs0, d0, ds0, p0, q0, hargs, rfl, rfl, h0, r0⟩ := trodAll_cons hA
  obtain ⟨rfl, rfl, rfl⟩ := trodAll_nil r0
  obtain rfl : args = #[v0] := by cases args; simp_all
  clear hA0 hval0 hA hcnd hfz hnd
  have hlt0 : ∀ x ∈ p0, x.block < W.heap.size := fun x hx => hltB x (by simp [hx])
  obtain ⟨a0, n0, c0, rfl⟩ := okWide_slice Try.underlying31 (hval 0 31 v0 rfl rfl)
  obtain ⟨fu0, hf0⟩ := h0
  obtain ⟨bs, hbs, _⟩ := trod_bytes Try.underlying31 Try.underlying5 (by kernel_rfl) hf0 hlt0
  refine (rackRuns_walk _ bs W hbs).mono fun e W' ⟨he, hb⟩ => ?_
  subst he
  exact ⟨_, rfl, post_law Try.laidOut hW' rfl rfl (by kernel_rfl) (by kernel_rfl) Try.underlying4 hb⟩

set_option maxHeartbeats 2000000 in
theorem fnRackRuns_facts : joinedFacts Try.prog 18 Try.f18 Rows.fnRackRunsSpec Rows.fnRackRunsRow = true := by
  unfold joinedFacts
  simp only [Bool.and_eq_true]
  repeat' apply And.intro
  all_goals first | with_reducible exact Try.laidOut | with_reducible exact Try.g2 | with_reducible exact Try.g24 | with_reducible exact Try.g25 | (rw [Try.g26]; rfl) | (rw [Try.g27]; rfl) | as_aux_lemma => kernel_rfl
/-- The statement. -/
theorem fnRackRuns_holds : Rows.FnRackRunsSaid :=
  OpenClaim.holds_of_wide 18 Try.f18 rfl rfl rfl rfl rfl rfl rfl ⟨rfl, rfl, rfl, rfl, rfl⟩ rfl rfl rfl rfl rfl (by as_aux_lemma => kernel_rfl) Try.func18 fnRackRuns_facts
    (by as_aux_lemma => exact of_decide_eq_true (by kernel_rfl)) (by as_aux_lemma => unfold Func.isWrapper; rw [if_neg (of_decide_eq_false (by kernel_rfl))]; exact ⟨rfl, rfl⟩)
    (fun os started H enc _ => fnRackRuns_lifted os started H enc)
#print axioms fnRackRuns_holds
end Go.Proofs.Ytipakagmbppagaa
