/- FnNextStrikes is proved: the next strike comes after the minutes that are returned, with its number, and not earlier; the answers are the reference's. No condition. -/
import Derived.Test.YtipakagmbppagaaDrW
import Derived.Test.YtipakagmbppagaaRkR
import Derived.Test.YtipakagmbppagaaRkQ
import Derived.Test.YtipakagmbppagaaSeRackState
import Derived.Test.YtipakagmbppagaaF6
import Derived.Test.YtipakagmbppagaaRow3
import Derived.Test.YtipakagmbppagaaRowF
import Derived.Deep.RegionHeld3
namespace Go.Proofs.Ytipakagmbppagaa
open Go.ChangeShapes Go.WideShapes Go.ChangeAt Go.RowKit
attribute [local go_sem ↓] Go.wp_at_zero Go.wp_at_succ
attribute [local go_sem ↓] eql_RackState neq_RackState eqGuard_RackState

theorem itL_none {ds : List Int} {wn m rd : Int} {K : Nat} (h : ∀ j, j < K → ¬ 0 < itB ds wn m rd j) : itL ds wn m rd K = [] := by
  induction K with
  | zero => rfl
  | succ K ih => rw [itL_non (h K (by omega))]; exact ih fun j hj => h j (by omega)
theorem run_none (v : Value) (ds : List Int) (wn m rd : Int) (K : Nat) (w : World) (hv : Sl w v ds) (hs : stB ds wn m rd = true) (hK : K < 120) (h : ∀ j, j < K → ¬ 0 < itB ds wn m rd j) :
    Calls Try.prog 43 #[.agg #[v, .int .i64 wn], .agg #[.int .i64 m, .int .i64 rd], .int .i64 K] w fun e w' => ∃ v', e = .returned (.tuple #[.agg #[.int .i64 (itM m K), .int .i64 (itR ds wn m rd K)], v', .int .i64 0]) ∧ w'.ownsRow w.heap.size 2 1 v' ([] : List Int).length (I64 []) ∧ Below w.heap.size w w' := by
  have := RunRack_i0 v ds wn m rd K w hv hs (by omega)
  rwa [itL_none h] at this
theorem tick_at (v : Value) (ds : List Int) (wn m rd : Int) (K : Nat) (w : World) (hv : Sl w v ds) (hs : stB ds wn m rd = true) :
    Calls Try.prog 38 #[.agg #[v, .int .i64 wn], .agg #[.int .i64 (itM m K), .int .i64 (itR ds wn m rd K)]] w fun e w' => e = .returned (.tuple #[.agg #[.int .i64 (itM m (K + 1)), .int .i64 (itR ds wn m rd (K + 1))], .int .i64 (itB ds wn m rd K), .int .i64 0]) ∧ Below w.heap.size w w' := by
  have h := TickRack_i v ds wn (itM m K) (itR ds wn m rd K) w hv
  have hh := stB_iff.1 hs
  have hb : stB ds wn (itM m K) (itR ds wn m rd K) = true := stB_iff.2 ⟨hh.1, stOk_it hh.1 hh.2 K⟩
  simp only [onS, hb, if_true, itM_succ] at h
  exact h

set_option maxRecDepth 100000 in
set_option maxHeartbeats 16000000 in
theorem nextStrikes_walk (vb : Value) (bs : List Int) (W : World) (hv : SlB W vb bs) :
    Calls Try.prog 16 #[vb] W fun e W' => e = .returned (.bool true) ∧ Below W.heap.size W W' := by
  have HV := Lib.hid hv
  clear hv
  cases hbig : decide (4096 < bs.length) with
  | true =>
    go_enter Try.func16, Try.ntmps16
    go_wp2_with fail
    refine (f6big_any vb bs _ HV.out _ hbig).mono ?_
    rintro e w' ⟨rfl, rfl⟩
    go_wp2
    go_ret
    exact ⟨rfl, Below.refl _ _⟩
  | false =>
    have HBG := Lib.hid hbig
    clear hbig
    go_enter Try.func16, Try.ntmps16
    go_wp2_with fail
    refine (f6big_any vb bs _ HV.out _ HBG.out).mono ?_
    rintro e w' ⟨rfl, rfl⟩
    go_wp2_with fail
    refine (DrawNextStrike_any vb bs _ HV.out).mono ?_
    rintro e w1 ⟨v, ds, wn, m, rd, rfl, o_v, hl, hb⟩
    obtain ⟨A_v, C_v, rfl⟩ := own_form o_v
    have old := Lib.hid hb
    have O_v := Lib.hid o_v
    have HL := Lib.hid hl
    clear hb o_v hl HBG
    cases hs : stB ds wn m rd with
    | false =>
      have HSB := Lib.hid hs
      clear hs
      go_wp2_with fail
      refine (NextStrike_i1 _ ds wn m rd _ (Sl.of_own (own_below O_v.out (by first | (with_reducible exact Below.refl _ _) | go_grown))) HSB.out).mono ?_
      rintro e w2 ⟨rfl, hb⟩
      have b_w2 : Below w1.heap.size w1 w2 := Below.trans (by first | (with_reducible exact Below.refl _ _) | go_grown) (hb.mono (by first | (with_reducible exact Nat.le_refl _) | (with_reducible assumption) | (simp [go_sem]; done) | (simp [go_sem]; omega) | omega))
      replace O_v := Lib.hid (own_below O_v.out b_w2)
      have B_r : Hid (Blk w2 (w1.heap.size) 27 #[.slice A_v ds.length C_v, .int .i64 wn]) := Blk.below (by first | exact Blk.new _ _ _ | exact (Blk.new _ _ _).alloc _ | (have h := Blk.new (w1) 27 #[.slice A_v ds.length C_v, .int .i64 wn]; simpa using h)) hb
      have B_s : Hid (Blk w2 (w1.heap.size + 1) 34 #[.int .i64 m, .int .i64 rd]) := Blk.below (by first | exact Blk.new _ _ _ | exact (Blk.new _ _ _).alloc _ | (have h := Blk.new (w1.alloc (.cells #[.slice A_v ds.length C_v, .int .i64 wn] 27)) 34 #[.int .i64 m, .int .i64 rd]; simpa using h)) hb
      replace old := Lib.hid (grown_again old.out b_w2)
      clear hb b_w2
      have c_r_0 := B_r.out.cell 0 rfl
      have c_r_1 := B_r.out.cell 1 rfl
      have l_r := B_r.out.lt
      have c_s_0 := B_s.out.cell 0 rfl
      have c_s_1 := B_s.out.cell 1 rfl
      have l_s := B_s.out.lt
      go_wp2_with fail
      refine (NextStrike_s1 _ ds wn m rd _ (Sl.of_own (own_below O_v.out (by first | (with_reducible exact Below.refl _ _) | go_grown))) HSB.out).mono ?_
      rintro e w3 ⟨rfl, hb⟩
      have b_w3 : Below w2.heap.size w2 w3 := Below.trans (by first | (with_reducible exact Below.refl _ _) | go_grown) (hb.mono (by first | (with_reducible exact Nat.le_refl _) | (with_reducible assumption) | (simp [go_sem]; done) | (simp [go_sem]; omega) | omega))
      replace B_r := Lib.hid (B_r.out.below b_w3)
      replace B_s := Lib.hid (B_s.out.below b_w3)
      replace O_v := Lib.hid (own_below O_v.out b_w3)
      replace old := Lib.hid (grown_again old.out b_w3)
      clear hb b_w3
      clear c_r_0 c_r_1 l_r c_s_0 c_s_1 l_s
      have c_r_0 := B_r.out.cell 0 rfl
      have c_r_1 := B_r.out.cell 1 rfl
      have l_r := B_r.out.lt
      have c_s_0 := B_s.out.cell 0 rfl
      have c_s_1 := B_s.out.cell 1 rfl
      have l_s := B_s.out.lt
      go_wp2_with fail
      refine (PullCord_i _ ds wn m rd _ (Sl.of_own (own_below O_v.out (by first | (with_reducible exact Below.refl _ _) | go_grown)))).mono ?_
      rintro e w4 ⟨rfl, hb⟩
      have b_w4 : Below w3.heap.size w3 w4 := Below.trans (by first | (with_reducible exact Below.refl _ _) | go_grown) (hb.mono (by first | (with_reducible exact Nat.le_refl _) | (with_reducible assumption) | (simp [go_sem]; done) | (simp [go_sem]; omega) | omega))
      replace B_r := Lib.hid (B_r.out.below b_w4)
      replace B_s := Lib.hid (B_s.out.below b_w4)
      replace O_v := Lib.hid (own_below O_v.out b_w4)
      replace old := Lib.hid (grown_again old.out b_w4)
      clear hb b_w4
      clear c_r_0 c_r_1 l_r c_s_0 c_s_1 l_s
      have c_r_0 := B_r.out.cell 0 rfl
      have c_r_1 := B_r.out.cell 1 rfl
      have l_r := B_r.out.lt
      have c_s_0 := B_s.out.cell 0 rfl
      have c_s_1 := B_s.out.cell 1 rfl
      have l_s := B_s.out.lt
      go_wp2_with fail
      refine (PullCord_s _ ds wn m rd _ (Sl.of_own (own_below O_v.out (by first | (with_reducible exact Below.refl _ _) | go_grown)))).mono ?_
      rintro e w5 ⟨rfl, hb⟩
      have b_w5 : Below w4.heap.size w4 w5 := Below.trans (by first | (with_reducible exact Below.refl _ _) | go_grown) (hb.mono (by first | (with_reducible exact Nat.le_refl _) | (with_reducible assumption) | (simp [go_sem]; done) | (simp [go_sem]; omega) | omega))
      replace B_r := Lib.hid (B_r.out.below b_w5)
      replace B_s := Lib.hid (B_s.out.below b_w5)
      replace O_v := Lib.hid (own_below O_v.out b_w5)
      have B_x : Hid (Blk w5 (w4.heap.size) 34 #[.int .i64 (onS ds wn m rd m 0), .int .i64 (onS ds wn m rd rd 0)]) := Blk.below (by first | exact Blk.new _ _ _ | exact (Blk.new _ _ _).alloc _ | (have h := Blk.new (w4) 34 #[.int .i64 (onS ds wn m rd m 0), .int .i64 (onS ds wn m rd rd 0)]; simpa using h)) hb
      replace old := Lib.hid (grown_again old.out b_w5)
      clear hb b_w5
      clear c_r_0 c_r_1 l_r c_s_0 c_s_1 l_s
      have c_r_0 := B_r.out.cell 0 rfl
      have c_r_1 := B_r.out.cell 1 rfl
      have l_r := B_r.out.lt
      have c_s_0 := B_s.out.cell 0 rfl
      have c_s_1 := B_s.out.cell 1 rfl
      have l_s := B_s.out.lt
      have c_x_0 := B_x.out.cell 0 rfl
      have c_x_1 := B_x.out.cell 1 rfl
      have l_x := B_x.out.lt
      go_wp2
      go_ret
      exact ⟨rfl, grown_again old.out (by go_grown)⟩
    | true =>
      obtain ⟨K, hK, hp, hn⟩ := first_strike (m := m) (rd := rd) (stB_iff.1 hs).1
      have HSB := Lib.hid hs
      have HP := Lib.hid hp
      have HN := Lib.hid hn
      clear hs hp hn
      have hk1 : (K : Int) + 1 ≤ 120 := by omega
      go_wp2_with fail
      refine (NextStrike_i _ ds wn m rd _ (Sl.of_own (own_below O_v.out (by first | (with_reducible exact Below.refl _ _) | go_grown))) HSB.out K hK HP.out (fun j hj => by have := HN.out j hj; omega)).mono ?_
      rintro e w2 ⟨rfl, hb⟩
      have b_w2 : Below w1.heap.size w1 w2 := Below.trans (by first | (with_reducible exact Below.refl _ _) | go_grown) (hb.mono (by first | (with_reducible exact Nat.le_refl _) | (with_reducible assumption) | (simp [go_sem]; done) | (simp [go_sem]; omega) | omega))
      replace O_v := Lib.hid (own_below O_v.out b_w2)
      have B_r : Hid (Blk w2 (w1.heap.size) 27 #[.slice A_v ds.length C_v, .int .i64 wn]) := Blk.below (by first | exact Blk.new _ _ _ | exact (Blk.new _ _ _).alloc _ | (have h := Blk.new (w1) 27 #[.slice A_v ds.length C_v, .int .i64 wn]; simpa using h)) hb
      have B_s : Hid (Blk w2 (w1.heap.size + 1) 34 #[.int .i64 m, .int .i64 rd]) := Blk.below (by first | exact Blk.new _ _ _ | exact (Blk.new _ _ _).alloc _ | (have h := Blk.new (w1.alloc (.cells #[.slice A_v ds.length C_v, .int .i64 wn] 27)) 34 #[.int .i64 m, .int .i64 rd]; simpa using h)) hb
      replace old := Lib.hid (grown_again old.out b_w2)
      clear hb b_w2
      have c_r_0 := B_r.out.cell 0 rfl
      have c_r_1 := B_r.out.cell 1 rfl
      have l_r := B_r.out.lt
      have c_s_0 := B_s.out.cell 0 rfl
      have c_s_1 := B_s.out.cell 1 rfl
      have l_s := B_s.out.lt
      go_wp2_with fail
      refine (NextStrike_s _ ds wn m rd _ (Sl.of_own (own_below O_v.out (by first | (with_reducible exact Below.refl _ _) | go_grown))) HSB.out K hK HP.out (fun j hj => by have := HN.out j hj; omega)).mono ?_
      rintro e w3 ⟨rfl, hb⟩
      have b_w3 : Below w2.heap.size w2 w3 := Below.trans (by first | (with_reducible exact Below.refl _ _) | go_grown) (hb.mono (by first | (with_reducible exact Nat.le_refl _) | (with_reducible assumption) | (simp [go_sem]; done) | (simp [go_sem]; omega) | omega))
      replace B_r := Lib.hid (B_r.out.below b_w3)
      replace B_s := Lib.hid (B_s.out.below b_w3)
      replace O_v := Lib.hid (own_below O_v.out b_w3)
      replace old := Lib.hid (grown_again old.out b_w3)
      clear hb b_w3
      clear c_r_0 c_r_1 l_r c_s_0 c_s_1 l_s
      have c_r_0 := B_r.out.cell 0 rfl
      have c_r_1 := B_r.out.cell 1 rfl
      have l_r := B_r.out.lt
      have c_s_0 := B_s.out.cell 0 rfl
      have c_s_1 := B_s.out.cell 1 rfl
      have l_s := B_s.out.lt
      go_wp2_with fail
      refine (PullCord_i _ ds wn m rd _ (Sl.of_own (own_below O_v.out (by first | (with_reducible exact Below.refl _ _) | go_grown)))).mono ?_
      rintro e w4 ⟨rfl, hb⟩
      have b_w4 : Below w3.heap.size w3 w4 := Below.trans (by first | (with_reducible exact Below.refl _ _) | go_grown) (hb.mono (by first | (with_reducible exact Nat.le_refl _) | (with_reducible assumption) | (simp [go_sem]; done) | (simp [go_sem]; omega) | omega))
      replace B_r := Lib.hid (B_r.out.below b_w4)
      replace B_s := Lib.hid (B_s.out.below b_w4)
      replace O_v := Lib.hid (own_below O_v.out b_w4)
      replace old := Lib.hid (grown_again old.out b_w4)
      clear hb b_w4
      clear c_r_0 c_r_1 l_r c_s_0 c_s_1 l_s
      have c_r_0 := B_r.out.cell 0 rfl
      have c_r_1 := B_r.out.cell 1 rfl
      have l_r := B_r.out.lt
      have c_s_0 := B_s.out.cell 0 rfl
      have c_s_1 := B_s.out.cell 1 rfl
      have l_s := B_s.out.lt
      go_wp2_with fail
      refine (PullCord_s _ ds wn m rd _ (Sl.of_own (own_below O_v.out (by first | (with_reducible exact Below.refl _ _) | go_grown)))).mono ?_
      rintro e w5 ⟨rfl, hb⟩
      have b_w5 : Below w4.heap.size w4 w5 := Below.trans (by first | (with_reducible exact Below.refl _ _) | go_grown) (hb.mono (by first | (with_reducible exact Nat.le_refl _) | (with_reducible assumption) | (simp [go_sem]; done) | (simp [go_sem]; omega) | omega))
      replace B_r := Lib.hid (B_r.out.below b_w5)
      replace B_s := Lib.hid (B_s.out.below b_w5)
      replace O_v := Lib.hid (own_below O_v.out b_w5)
      have B_x : Hid (Blk w5 (w4.heap.size) 34 #[.int .i64 (onS ds wn m rd m 0), .int .i64 (onS ds wn m rd rd 0)]) := Blk.below (by first | exact Blk.new _ _ _ | exact (Blk.new _ _ _).alloc _ | (have h := Blk.new (w4) 34 #[.int .i64 (onS ds wn m rd m 0), .int .i64 (onS ds wn m rd rd 0)]; simpa using h)) hb
      replace old := Lib.hid (grown_again old.out b_w5)
      clear hb b_w5
      clear c_r_0 c_r_1 l_r c_s_0 c_s_1 l_s
      have c_r_0 := B_r.out.cell 0 rfl
      have c_r_1 := B_r.out.cell 1 rfl
      have l_r := B_r.out.lt
      have c_s_0 := B_s.out.cell 0 rfl
      have c_s_1 := B_s.out.cell 1 rfl
      have l_s := B_s.out.lt
      have c_x_0 := B_x.out.cell 0 rfl
      have c_x_1 := B_x.out.cell 1 rfl
      have l_x := B_x.out.lt
      go_wp2_with fail
      refine (run_none _ ds wn m rd K _ (Sl.of_own (own_below O_v.out (by first | (with_reducible exact Below.refl _ _) | go_grown))) HSB.out hK (fun j hj => by have := HN.out j hj; omega)).mono ?_
      rintro e w6 ⟨v3, rfl, o_v3, hb⟩
      obtain ⟨A_v3, C_v3, rfl⟩ := own_form o_v3
      have b_w6 : Below w5.heap.size w5 w6 := Below.trans (by first | (with_reducible exact Below.refl _ _) | go_grown) (hb.mono (by first | (with_reducible exact Nat.le_refl _) | (with_reducible assumption) | (simp [go_sem]; done) | (simp [go_sem]; omega) | omega))
      replace B_r := Lib.hid (B_r.out.below b_w6)
      replace B_s := Lib.hid (B_s.out.below b_w6)
      replace B_x := Lib.hid (B_x.out.below b_w6)
      replace O_v := Lib.hid (own_below O_v.out b_w6)
      have B_y : Hid (Blk w6 (w5.heap.size) 34 #[.int .i64 (onS ds wn m rd m 0), .int .i64 (onS ds wn m rd rd 0)]) := Blk.below (by first | exact Blk.new _ _ _ | exact (Blk.new _ _ _).alloc _ | (have h := Blk.new (w5) 34 #[.int .i64 (onS ds wn m rd m 0), .int .i64 (onS ds wn m rd rd 0)]; simpa using h)) hb
      replace old := Lib.hid (grown_again old.out b_w6)
      clear hb b_w6
      have O_v3 := Lib.hid o_v3
      clear o_v3
      clear c_r_0 c_r_1 l_r c_s_0 c_s_1 l_s c_x_0 c_x_1 l_x
      have c_r_0 := B_r.out.cell 0 rfl
      have c_r_1 := B_r.out.cell 1 rfl
      have l_r := B_r.out.lt
      have c_s_0 := B_s.out.cell 0 rfl
      have c_s_1 := B_s.out.cell 1 rfl
      have l_s := B_s.out.lt
      have c_x_0 := B_x.out.cell 0 rfl
      have c_x_1 := B_x.out.cell 1 rfl
      have l_x := B_x.out.lt
      have c_y_0 := B_y.out.cell 0 rfl
      have c_y_1 := B_y.out.cell 1 rfl
      have l_y := B_y.out.lt
      go_wp2_with fail
      refine (tick_at _ ds wn m rd K _ (Sl.of_own (own_below O_v.out (by first | (with_reducible exact Below.refl _ _) | go_grown))) HSB.out).mono ?_
      rintro e w7 ⟨rfl, hb⟩
      have b_w7 : Below w6.heap.size w6 w7 := Below.trans (by first | (with_reducible exact Below.refl _ _) | go_grown) (hb.mono (by first | (with_reducible exact Nat.le_refl _) | (with_reducible assumption) | (simp [go_sem]; done) | (simp [go_sem]; omega) | omega))
      replace B_r := Lib.hid (B_r.out.below b_w7)
      replace B_s := Lib.hid (B_s.out.below b_w7)
      replace B_x := Lib.hid (B_x.out.below b_w7)
      replace B_y := Lib.hid (B_y.out.below b_w7)
      replace O_v := Lib.hid (own_below O_v.out b_w7)
      replace O_v3 := Lib.hid (own_below O_v3.out b_w7)
      have B_q : Hid (Blk w7 (w6.heap.size) 34 #[.int .i64 (itM m K), .int .i64 (itR ds wn m rd K)]) := Blk.below (by first | exact Blk.new _ _ _ | exact (Blk.new _ _ _).alloc _ | (have h := Blk.new (w6) 34 #[.int .i64 (itM m K), .int .i64 (itR ds wn m rd K)]; simpa using h)) hb
      replace old := Lib.hid (grown_again old.out b_w7)
      clear hb b_w7
      clear c_r_0 c_r_1 l_r c_s_0 c_s_1 l_s c_x_0 c_x_1 l_x c_y_0 c_y_1 l_y
      have c_r_0 := B_r.out.cell 0 rfl
      have c_r_1 := B_r.out.cell 1 rfl
      have l_r := B_r.out.lt
      have c_s_0 := B_s.out.cell 0 rfl
      have c_s_1 := B_s.out.cell 1 rfl
      have l_s := B_s.out.lt
      have c_x_0 := B_x.out.cell 0 rfl
      have c_x_1 := B_x.out.cell 1 rfl
      have l_x := B_x.out.lt
      have c_y_0 := B_y.out.cell 0 rfl
      have c_y_1 := B_y.out.cell 1 rfl
      have l_y := B_y.out.lt
      have c_q_0 := B_q.out.cell 0 rfl
      have c_q_1 := B_q.out.cell 1 rfl
      have l_q := B_q.out.lt
      go_wp2
      go_ret
      exact ⟨by simp, grown_again old.out (by go_grown)⟩

set_option maxRecDepth 100000 in
theorem fnNextStrikes_lifted (os : Os) (started : os.Started) (H : Type) (enc : TypeId × Value → H) :
    ReturnsInHanded {} Try.checked os 16 .any (Rows.fnNextStrikesSpec.pre6 enc Try.prog Try.f16 Rows.fnNextStrikesRow.domain false) (Rows.fnNextStrikesSpec.post enc Try.prog Try.f16 false true false false) := by
  refine returnsInHanded_of_change (C := Try.checked) Try.own started (by kernel_rfl) Try.func16
    (ChangeSpec.witness6 (enc := enc) (C := Try.checked) false ⟨#[], #[.slice none 0 0], []⟩ 8 (by kernel_rfl) (by kernel_rfl) (by kernel_rfl) (by kernel_rfl)) ?_
  intro W base args ds gs before hval0 hW hcnd _
  have hval : ∀ (j : Nat) t v, Try.f16.params[j]? = some t → args[j]? = some v → Value.okWide Try.prog W .any base t v := hval0
  have hW' := hW
  have hltB : ∀ x ∈ before, x.block < W.heap.size := fun x hx => hW.lt x hx
  obtain ⟨p, q, hA0, hV, rfl, hfz, hnd⟩ := hW
  have hA : DataW.TrodAll enc Try.prog W 0 (fun _ => true) true Try.f16.params.toList args.toList ds p := hA0
  rw [Try.params16] at hA hval
  obtain ⟨v0, vs0, d0, ds0, p0, q0, hargs, rfl, rfl, h0, r0⟩ := trodAll_cons hA
  obtain ⟨rfl, rfl, rfl⟩ := trodAll_nil r0
  obtain rfl : args = #[v0] := by cases args; simp_all
  clear hA0 hval0 hA hcnd hfz hnd
  have hlt0 : ∀ x ∈ p0, x.block < W.heap.size := fun x hx => hltB x (by simp [hx])
  obtain ⟨a0, n0, c0, rfl⟩ := okWide_slice Try.underlying31 (hval 0 31 v0 rfl rfl)
  obtain ⟨fu0, hf0⟩ := h0
  obtain ⟨bs, hbs, _⟩ := trod_bytes Try.underlying31 Try.underlying5 (by kernel_rfl) hf0 hlt0
  refine (nextStrikes_walk _ bs W hbs).mono fun e W' ⟨he, hb⟩ => ?_
  subst he
  exact ⟨_, rfl, post_law Try.laidOut hW' rfl rfl (by kernel_rfl) (by kernel_rfl) Try.underlying4 hb⟩

set_option maxHeartbeats 2000000 in
theorem fnNextStrikes_facts : joinedFacts Try.prog 16 Try.f16 Rows.fnNextStrikesSpec Rows.fnNextStrikesRow = true := by
  unfold joinedFacts
  simp only [Bool.and_eq_true]
  repeat' apply And.intro
  all_goals first | with_reducible exact Try.laidOut | with_reducible exact Try.g2 | with_reducible exact Try.g24 | with_reducible exact Try.g25 | (rw [Try.g26]; rfl) | (rw [Try.g27]; rfl) | as_aux_lemma => kernel_rfl
/-- The statement. -/
theorem fnNextStrikes_holds : Rows.FnNextStrikesSaid :=
  OpenClaim.holds_of_wide 16 Try.f16 rfl rfl rfl rfl rfl rfl rfl ⟨rfl, rfl, rfl, rfl, rfl⟩ rfl rfl rfl rfl rfl (by as_aux_lemma => kernel_rfl) Try.func16 fnNextStrikes_facts
    (by as_aux_lemma => exact of_decide_eq_true (by kernel_rfl)) (by as_aux_lemma => unfold Func.isWrapper; rw [if_neg (of_decide_eq_false (by kernel_rfl))]; exact ⟨rfl, rfl⟩)
    (fun os started H enc _ => fnNextStrikes_lifted os started H enc)
#print axioms fnNextStrikes_holds
end Go.Proofs.Ytipakagmbppagaa
