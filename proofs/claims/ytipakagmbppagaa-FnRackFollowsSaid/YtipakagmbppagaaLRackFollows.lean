/- FnRackFollows is proved: whatever is done with a clock, what a rack strikes at a full hour is the number of this hour, and its state stays valid; the answers are the reference's. No condition. -/
import Derived.Test.YtipakagmbppagaaDrW
import Derived.Test.YtipakagmbppagaaDi
import Derived.Test.YtipakagmbppagaaRkU
import Derived.Deep.DeepCutAuto
import Derived.Deep.CutBlock
import Derived.Test.YtipakagmbppagaaRkR
import Derived.Test.YtipakagmbppagaaRkQ
import Derived.Test.YtipakagmbppagaaSeRackState
import Derived.Test.YtipakagmbppagaaF6
import Derived.Test.YtipakagmbppagaaRow3
import Derived.Test.YtipakagmbppagaaRowF
import Derived.Deep.RegionHeld3
namespace Go.Proofs.Ytipakagmbppagaa
open Go.ChangeShapes Go.WideShapes Go.ChangeAt Go.RowKit
attribute [local go_sem ↓] Go.wp_at_zero Go.wp_at_succ
attribute [local go_sem ↓] eql_RackState neq_RackState eqGuard_RackState

theorem itL_none' {ds : List Int} {wn m rd : Int} {K : Nat} (h : ∀ j, j < K → itB ds wn m rd j = 0) : itL ds wn m rd K = [] := by
  induction K with
  | zero => rfl
  | succ K ih => rw [itL_non (by rw [h K (by omega)]; decide)]; exact ih fun j hj => h j (by omega)
/-- Until the next full hour: nothing is struck, or the number of this hour. -/
theorem hour_run {ds : List Int} {wn m rd : Int} (hr : RkOk ds wn) (h : StOk ds wn m rd) {K : Nat} (hK : (K : Int) = 60 - m % 60) :
    itL ds wn m rd K = [] ∨ itL ds wn m rd K = [ix ds (itM m K / 60).toNat] := by
  obtain ⟨J, rfl⟩ : ∃ J, K = J + 1 := ⟨K - 1, by omega⟩
  have h0 : itL ds wn m rd J = [] := itL_none' fun j hj => by
    rw [itB, tkB, if_neg]
    have := h.1
    unfold tkM itM; omega
  by_cases hp : 0 < itB ds wn m rd J
  · right
    rw [itL_pos hp, h0]
    have e1 : itB ds wn m rd J = itR ds wn m rd J := by
      rw [itB, tkB, if_pos]
      have := h.1
      unfold tkM itM; omega
    rw [e1] at hp ⊢
    have hst := stOk_it hr h J
    have g := hr.2.2
    have g1 := h.1
    rcases hst.2 with h2 | ⟨h2, h3⟩
    · omega
    · rw [h3, depthM]
      have : snail wn (itM m J) = itM m (J + 1) / 60 := by
        unfold snail itM; omega
      rw [this]; rfl
  · left; rw [itL_non hp, h0]
theorem back_at (v : Value) (ds : List Int) (wn m rd n : Int) (w : World) (hv : Sl w v ds) (hs : stB ds wn m rd = true) (h1 : 1 ≤ n) (h2 : n ≤ 720) :
    Calls Try.prog 42 #[.agg #[v, .int .i64 wn], .agg #[.int .i64 m, .int .i64 rd], .int .i64 n] w fun e w' => e = .returned (.tuple #[.agg #[.int .i64 ((m - n) % 720), .int .i64 0], .int .i64 0]) ∧ Below w.heap.size w w' := by
  have h := BackHands_i v ds wn m rd n w hv
  have hn : inB n 1 720 = true := inB_t h1 h2
  simp only [on2, hs, hn, if_true] at h
  exact h
theorem pull_at (v : Value) (ds : List Int) (wn m rd : Int) (w : World) (hv : Sl w v ds) (hs : stB ds wn m rd = true) (pl : Int) (hp : pl = if rd = 0 then depthM ds wn m else 0) :
    Calls Try.prog 35 #[.agg #[v, .int .i64 wn], .agg #[.int .i64 m, .int .i64 rd]] w fun e w' => e = .returned (.tuple #[.agg #[.int .i64 m, .int .i64 rd], .int .i64 pl, .int .i64 0]) ∧ Below w.heap.size w w' := by
  have h := PullCord_i v ds wn m rd w hv
  have e : on2 ds wn m rd (rd == 0) (depthM ds wn m) 0 0 = pl := by
    rw [hp, on2, if_pos hs]; by_cases h0 : rd = 0 <;> simp [h0]
  rw [e] at h
  simp only [onS, hs, if_true] at h
  exact h
theorem snail_at (v : Value) (ds : List Int) (wn m : Int) (w : World) (hv : Sl w v ds) (hr : RkOk ds wn) (hm : 0 ≤ m ∧ m ≤ 719) :
    Calls Try.prog 29 #[.agg #[v, .int .i64 wn], .int .i64 m] w fun e w' => e = .returned (.tuple #[.int .i64 (snail wn m), .int .i64 0]) ∧ Below w.heap.size w w' := by
  have h := SnailHour_i v ds wn m w hv
  have hn : inB m 0 719 = true := inB_t hm.1 hm.2
  simp only [shA, shC, hr, hn, and_self, if_true] at h
  exact h
theorem valid_at (v : Value) (ds : List Int) (wn m rd : Int) (w : World) (hv : Sl w v ds) (hs : stB ds wn m rd = true) :
    Calls Try.prog 31 #[.agg #[v, .int .i64 wn], .agg #[.int .i64 m, .int .i64 rd]] w fun e w' => e = .returned (.bool true) ∧ Below w.heap.size w w' := by
  have h := ValidRackState_s v ds wn m rd w hv
  rwa [hs] at h
/-- What stands while the law goes on. -/
def RfAt (W w1 : World) (g : Nat) (vb : Value) (bs : List Int) (v : Value) (ds : List Int) (wn m rd : Int) (wr : World) : Prop :=
  Blk wr w1.heap.size 27 #[v, .int .i64 wn] ∧ Blk wr (w1.heap.size + 1) 34 #[.int .i64 m, .int .i64 rd] ∧ wr.ownsRow W.heap.size 2 1 v ds.length (I64 ds) ∧ Dice W wr g vb bs ∧ Below W.heap.size W wr ∧ (∀ j, v.ownBlock = some j → j < w1.heap.size) ∧ w1.heap.size + 1 < g ∧ W.heap.size ≤ w1.heap.size
section
variable {W w1 wr wq : World} {g : Nat} {vb v : Value} {bs ds : List Int} {wn m rd m2 rd2 : Int}
theorem RfAt.below (h : RfAt W w1 g vb bs v ds wn m rd wr) (hb : Below wr.heap.size wr wq) : RfAt W w1 g vb bs v ds wn m rd wq := by
  obtain ⟨h1, h2, h3, h4, h5, h6, h7, h8⟩ := h
  exact ⟨h1.below hb, h2.below hb, own_below h3 hb, h4.below hb, grown_again h5 hb, h6, h7, h8⟩
theorem RfAt.draw (h : RfAt W w1 g vb bs v ds wn m rd wr) (hg : wr.grownBy wq (some g)) (hd : Dice W wq g vb bs) : RfAt W w1 g vb bs v ds wn m rd wq := by
  obtain ⟨h1, h2, h3, h4, h5, h6, h7, h8⟩ := h
  refine ⟨h1.grown hg (by simp; omega), h2.grown hg (by simp; omega), h3.kept hg ?_, hd, h5.grown hg h5.size (fun j hj => by cases hj; omega), h6, h7, h8⟩
  cases hv : v.ownBlock with
  | none => exact Or.inl rfl
  | some j => exact Or.inr fun e => by have := h6 j hv; cases e; omega
theorem RfAt.set_ (h : RfAt W w1 g vb bs v ds wn m rd wr) {p : Addr} (hp : w1.heap.size + 1 < p.block) (hn : g ≠ p.block) (u : Value) : RfAt W w1 g vb bs v ds wn m rd (wr.setCell p u) := by
  obtain ⟨h1, h2, h3, h4, h5, h6, h7, h8⟩ := h
  exact ⟨h1.far (by omega) _, h2.far (by omega) _, own_far h3 (fun e => by have := h6 _ e.symm; omega) _, h4.set_ (by omega) hn _, h5.setCell (by omega) _, h6, h7, h8⟩
theorem RfAt.put (h : RfAt W w1 g vb bs v ds wn m rd wr) (a b : Int) : RfAt W w1 g vb bs v ds wn a b ((wr.setCell ⟨w1.heap.size + 1, 0, none⟩ (.int .i64 a)).setCell ⟨w1.heap.size + 1, 1, none⟩ (.int .i64 b)) := by
  obtain ⟨h1, h2, h3, h4, h5, h6, h7, h8⟩ := h
  refine ⟨(h1.far (by simp) _).far (by simp) _, h2.put2 _ _, own_far (own_far h3 (fun e => ?_) _) (fun e => ?_) _, (h4.set_ (by simp; omega) (by simp; omega) _).set_ (by simp; omega) (by simp; omega) _, (h5.setCell (by simp; omega) _).setCell (by simp; omega) _, h6, h7, h8⟩
  · have := h6 _ e.symm; simp only at this; omega
  · have := h6 _ e.symm; simp only at this; omega
end

set_option maxRecDepth 100000 in
set_option maxHeartbeats 16000000 in
theorem rackFollows_walk (vb : Value) (bs : List Int) (W : World) (hv : SlB W vb bs) :
    Calls Try.prog 8 #[vb] W fun e W' => e = .returned (.bool true) ∧ Below W.heap.size W W' := by
  have HV := Lib.hid hv
  clear hv
  cases hbig : decide (4096 < bs.length) with
  | true =>
    go_enter Try.func8, Try.ntmps8
    go_wp2_with fail
    refine (f6big_any vb bs _ HV.out _ hbig).mono ?_
    rintro e w' ⟨rfl, rfl⟩
    go_wp2
    go_ret
    exact ⟨rfl, Below.refl _ _⟩
  | false =>
    have HBG := Lib.hid hbig
    clear hbig
    go_enter Try.func8, Try.ntmps8
    go_wp2_with fail
    refine (f6big_any vb bs _ HV.out _ HBG.out).mono ?_
    rintro e w' ⟨rfl, rfl⟩
    go_wp2_with fail
    refine (DrawTickRack_any vb bs _ HV.out).mono ?_
    rintro e w1 ⟨v, ds, wn, m, rd, rfl, o_v, hl, hb⟩
    obtain ⟨A_v, C_v, rfl⟩ := own_form o_v
    have old := Lib.hid hb
    have HVB : Hid (∀ j, (Value.slice A_v ds.length C_v).ownBlock = some j → j < w1.heap.size) := fun j hj => (o_v.lt j hj).2
    have HW1 := Lib.hid hb.size
    have O_v := Lib.hid o_v
    have HL := Lib.hid hl
    clear hb o_v hl HBG
    cases hs : stB ds wn m rd with
    | false =>
      have HSF := Lib.hid (onS_f (x := 0) (y := 1) hs)
      clear hs
      go_wp2_with fail
      refine (TickRack_i _ ds wn m rd _ (Sl.of_own (own_below O_v.out (by first | (with_reducible exact Below.refl _ _) | go_grown)))).mono ?_
      rintro e w2 ⟨rfl, hb⟩
      have b_w2 : Below w1.heap.size w1 w2 := Below.trans (by first | (with_reducible exact Below.refl _ _) | go_grown) (hb.mono (by first | (with_reducible exact Nat.le_refl _) | (with_reducible assumption) | (simp [go_sem]; done) | (simp [go_sem]; omega) | omega))
      replace O_v := Lib.hid (own_below O_v.out b_w2)
      have B_r : Hid (Blk w2 (w1.heap.size) 27 #[.slice A_v ds.length C_v, .int .i64 wn]) := Blk.below (by first | exact Blk.new _ _ _ | exact (Blk.new _ _ _).alloc _ | (have h := Blk.new (w1) 27 #[.slice A_v ds.length C_v, .int .i64 wn]; simpa using h)) hb
      have B_s : Hid (Blk w2 (w1.heap.size + 1) 34 #[.int .i64 m, .int .i64 rd]) := Blk.below (by first | exact Blk.new _ _ _ | exact (Blk.new _ _ _).alloc _ | (have h := Blk.new (w1.alloc (.cells #[.slice A_v ds.length C_v, .int .i64 wn] 27)) 34 #[.int .i64 m, .int .i64 rd]; simpa using h)) hb
      replace old := Lib.hid (grown_again old.out b_w2)
      clear hb b_w2
      have c_r_0 := B_r.out.cell 0 rfl
      have c_r_1 := B_r.out.cell 1 rfl
      have l_r := B_r.out.lt
      have c_s_0 := B_s.out.cell 0 rfl
      have c_s_1 := B_s.out.cell 1 rfl
      have l_s := B_s.out.lt
      go_wp2_with fail
      refine (TickRack_s _ ds wn m rd _ (Sl.of_own (own_below O_v.out (by first | (with_reducible exact Below.refl _ _) | go_grown)))).mono ?_
      rintro e w3 ⟨rfl, hb⟩
      have b_w3 : Below w2.heap.size w2 w3 := Below.trans (by first | (with_reducible exact Below.refl _ _) | go_grown) (hb.mono (by first | (with_reducible exact Nat.le_refl _) | (with_reducible assumption) | (simp [go_sem]; done) | (simp [go_sem]; omega) | omega))
      replace B_r := Lib.hid (B_r.out.below b_w3)
      replace B_s := Lib.hid (B_s.out.below b_w3)
      replace O_v := Lib.hid (own_below O_v.out b_w3)
      have B_x : Hid (Blk w3 (w2.heap.size) 34 #[.int .i64 (onS ds wn m rd (tkM m) 0), .int .i64 (onS ds wn m rd (tkR ds wn m rd) 0)]) := Blk.below (by first | exact Blk.new _ _ _ | exact (Blk.new _ _ _).alloc _ | (have h := Blk.new (w2) 34 #[.int .i64 (onS ds wn m rd (tkM m) 0), .int .i64 (onS ds wn m rd (tkR ds wn m rd) 0)]; simpa using h)) hb
      replace old := Lib.hid (grown_again old.out b_w3)
      clear hb b_w3
      clear c_r_0 c_r_1 l_r c_s_0 c_s_1 l_s
      have c_r_0 := B_r.out.cell 0 rfl
      have c_r_1 := B_r.out.cell 1 rfl
      have l_r := B_r.out.lt
      have c_s_0 := B_s.out.cell 0 rfl
      have c_s_1 := B_s.out.cell 1 rfl
      have l_s := B_s.out.lt
      have c_x_0 := B_x.out.cell 0 rfl
      have c_x_1 := B_x.out.cell 1 rfl
      have l_x := B_x.out.lt
      have e1 := HSF.out
      go_wp2
      go_ret
      exact ⟨rfl, grown_again old.out (by go_grown)⟩
    | true =>
      have HSF := Lib.hid (onS_t (x := 0) (y := 1) hs)
      obtain ⟨hrk, hst⟩ := stB_iff.1 hs
      have HRK := Lib.hid hrk
      have HST := Lib.hid hst
      have HL12 := Lib.hid hrk.1
      clear hs hrk hst
      go_wp2_with fail
      refine (TickRack_i _ ds wn m rd _ (Sl.of_own (own_below O_v.out (by first | (with_reducible exact Below.refl _ _) | go_grown)))).mono ?_
      rintro e w2 ⟨rfl, hb⟩
      have b_w2 : Below w1.heap.size w1 w2 := Below.trans (by first | (with_reducible exact Below.refl _ _) | go_grown) (hb.mono (by first | (with_reducible exact Nat.le_refl _) | (with_reducible assumption) | (simp [go_sem]; done) | (simp [go_sem]; omega) | omega))
      replace O_v := Lib.hid (own_below O_v.out b_w2)
      have B_r : Hid (Blk w2 (w1.heap.size) 27 #[.slice A_v ds.length C_v, .int .i64 wn]) := Blk.below (by first | exact Blk.new _ _ _ | exact (Blk.new _ _ _).alloc _ | (have h := Blk.new (w1) 27 #[.slice A_v ds.length C_v, .int .i64 wn]; simpa using h)) hb
      have B_s : Hid (Blk w2 (w1.heap.size + 1) 34 #[.int .i64 m, .int .i64 rd]) := Blk.below (by first | exact Blk.new _ _ _ | exact (Blk.new _ _ _).alloc _ | (have h := Blk.new (w1.alloc (.cells #[.slice A_v ds.length C_v, .int .i64 wn] 27)) 34 #[.int .i64 m, .int .i64 rd]; simpa using h)) hb
      replace old := Lib.hid (grown_again old.out b_w2)
      clear hb b_w2
      have c_r_0 := B_r.out.cell 0 rfl
      have c_r_1 := B_r.out.cell 1 rfl
      have l_r := B_r.out.lt
      have c_s_0 := B_s.out.cell 0 rfl
      have c_s_1 := B_s.out.cell 1 rfl
      have l_s := B_s.out.lt
      go_wp2_with fail
      refine (TickRack_s _ ds wn m rd _ (Sl.of_own (own_below O_v.out (by first | (with_reducible exact Below.refl _ _) | go_grown)))).mono ?_
      rintro e w3 ⟨rfl, hb⟩
      have b_w3 : Below w2.heap.size w2 w3 := Below.trans (by first | (with_reducible exact Below.refl _ _) | go_grown) (hb.mono (by first | (with_reducible exact Nat.le_refl _) | (with_reducible assumption) | (simp [go_sem]; done) | (simp [go_sem]; omega) | omega))
      replace B_r := Lib.hid (B_r.out.below b_w3)
      replace B_s := Lib.hid (B_s.out.below b_w3)
      replace O_v := Lib.hid (own_below O_v.out b_w3)
      have B_x : Hid (Blk w3 (w2.heap.size) 34 #[.int .i64 (onS ds wn m rd (tkM m) 0), .int .i64 (onS ds wn m rd (tkR ds wn m rd) 0)]) := Blk.below (by first | exact Blk.new _ _ _ | exact (Blk.new _ _ _).alloc _ | (have h := Blk.new (w2) 34 #[.int .i64 (onS ds wn m rd (tkM m) 0), .int .i64 (onS ds wn m rd (tkR ds wn m rd) 0)]; simpa using h)) hb
      replace old := Lib.hid (grown_again old.out b_w3)
      clear hb b_w3
      clear c_r_0 c_r_1 l_r c_s_0 c_s_1 l_s
      have c_r_0 := B_r.out.cell 0 rfl
      have c_r_1 := B_r.out.cell 1 rfl
      have l_r := B_r.out.lt
      have c_s_0 := B_s.out.cell 0 rfl
      have c_s_1 := B_s.out.cell 1 rfl
      have l_s := B_s.out.lt
      have c_x_0 := B_x.out.cell 0 rfl
      have c_x_1 := B_x.out.cell 1 rfl
      have l_x := B_x.out.lt
      have e1 := HSF.out
      go_wp2_with fail
      refine (f6roll_any vb bs W _ HV.out (grown_again old.out (by first | (with_reducible exact Below.refl _ _) | go_grown)) (w3.heap.size + 1) (by simp) _ (by decide) (by decide)).mono ?_
      rintro e w4 ⟨rfl, hd, hb⟩
      have hgz : w3.heap.size + 1 < w4.heap.size := hd.lt
      have HD := Lib.hid hd
      clear hd
      have s_w3 := B_s.out.lt
      have b_w4 : Below w3.heap.size w3 w4 := Below.trans (by first | (with_reducible exact Below.refl _ _) | go_grown) (hb.mono (by first | (with_reducible exact Nat.le_refl _) | (with_reducible assumption) | (simp [go_sem]; done) | (simp [go_sem]; omega) | omega))
      replace B_r := Lib.hid (B_r.out.below b_w4)
      replace B_s := Lib.hid (B_s.out.below b_w4)
      replace B_x := Lib.hid (B_x.out.below b_w4)
      replace O_v := Lib.hid (own_below O_v.out b_w4)
      have B_y : Hid (Blk w4 (w3.heap.size) 34 #[.int .i64 (onS ds wn m rd (tkM m) 0), .int .i64 (onS ds wn m rd (tkR ds wn m rd) 0)]) := Blk.below (by first | exact Blk.new _ _ _ | exact (Blk.new _ _ _).alloc _ | (have h := Blk.new (w3) 34 #[.int .i64 (onS ds wn m rd (tkM m) 0), .int .i64 (onS ds wn m rd (tkR ds wn m rd) 0)]; simpa using h)) hb
      replace old := Lib.hid (grown_again old.out b_w4)
      clear hb b_w4
      clear c_r_0 c_r_1 l_r c_s_0 c_s_1 l_s c_x_0 c_x_1 l_x e1
      obtain ⟨gd, hgd⟩ : ∃ gd, gd = w3.heap.size + 1 := ⟨_, rfl⟩
      have HR0 : Hid (RfAt W w1 gd vb bs (.slice A_v ds.length C_v) ds wn m rd w4) := by rw [hgd]; exact ⟨B_r.out, B_s.out, O_v.out, HD.out, old.out, HVB.out, by omega, HW1.out⟩
      rw [← hgd] at hgz
      simp only [← hgd]
      have hgg : w1.heap.size + 1 < gd := by omega
      clear HD s_w3 B_r B_s B_x B_y O_v hgd
      go_wp2_with fail
      go_loopw [12] (fun i wr => ∃ (j : Nat) (m2 rd2 : Int), j ≤ 40 ∧ i = .int .i64 j ∧ Hid (StOk ds wn m2 rd2) ∧ RfAt W w1 gd vb bs (.slice A_v ds.length C_v) ds wn m2 rd2 wr) (fun i _ => 40 - (intOf i).toNat)
      case atStart => exact ⟨0, m, rd, by omega, rfl, HST, HR0.out⟩
      case round =>
        clear HR0 HST
        obtain ⟨j, m2, rd2, hj, rfl, HSO, hR⟩ := hrel
        have HR := Lib.hid hR
        clear hR
        by_cases hlt : j < 40
        · skip
          have c0 := HR.out.1.cell 0 rfl
          have c1 := HR.out.1.cell 1 rfl
          have c2 := HR.out.2.1.cell 0 rfl
          have c3 := HR.out.2.1.cell 1 rfl
          have lz := HR.out.2.1.lt
          have lr := HR.out.1.lt
          obtain ⟨sm0, sm1⟩ := HSO.out.1
          have HSB := Lib.hid (stB_iff.2 ⟨HRK.out, HSO.out⟩)
          have gl := HR.out.2.2.2.1.lt
          go_wp2_with fail
          refine (below_any W _ gd vb bs (HR.out.2.2.2.1.below (by first | (with_reducible exact Below.refl _ _) | go_grown)) _ (by decide) (by decide)).mono ?_
          rintro e wa ⟨x, ⟨x0, x1⟩, rfl, hd, hga⟩
          have HRa := Lib.hid ((HR.out.below (wq := wr.alloc (.cells #[.int .i64 m2, .int .i64 rd2] 34)) (by go_grown)).draw hga hd)
          have HNa : Hid (Blk wa wr.heap.size 34 #[.int .i64 m2, .int .i64 rd2]) := (Blk.new wr 34 #[.int .i64 m2, .int .i64 rd2]).grown hga (by simp; omega)
          have hnx : ∃ nx, nx = wr.heap.size := ⟨_, rfl⟩
          obtain ⟨nx, hnx⟩ := hnx
          rw [← hnx] at HNa gl
          have hnw : w1.heap.size + 1 < nx := by omega
          clear hd hga HR c0 c1 c2 c3 lz lr
          simp only [← hnx]
          clear hnx
          go_upto_block 2 with fail
          go_cut [14, 15, 16] (fun a14 a15 a16 wr => ∃ (st hr m3 rd3 : Int), .int .i64 st = a14 ∧ .int .i64 0 = a15 ∧ .int .i64 hr = a16 ∧ (0 ≤ hr ∧ hr < 12) ∧ (st = 0 ∨ st = ix ds hr.toNat) ∧ StOk ds wn m3 rd3 ∧ Blk wr nx 34 #[.int .i64 m3, .int .i64 rd3] ∧ RfAt W w1 gd vb bs (.slice A_v ds.length C_v) ds wn m2 rd2 wr)
          case first =>
            have c0 := HRa.out.1.cell 0 rfl
            have c1 := HRa.out.1.cell 1 rfl
            have c2 := HRa.out.2.1.cell 0 rfl
            have c3 := HRa.out.2.1.cell 1 rfl
            have lz := HRa.out.2.1.lt
            have lr := HRa.out.1.lt
            have n0 := HNa.out.cell 0 rfl
            have n1 := HNa.out.cell 1 rfl
            have nf0 := HNa.out.frozen 0
            have nf1 := HNa.out.frozen 1
            have nl := HNa.out.lt
            have n2 : ¬ nx = w1.heap.size := by omega
            have n3 : ¬ nx = w1.heap.size + 1 := by omega
            have n4 : ¬ w1.heap.size = nx := by omega
            have n5 : ¬ w1.heap.size + 1 = nx := by omega
            by_cases h0 : x = 0
            · subst h0
              go_wp2_with fail
              go_region_held3 (fun w' => w'.cell? ⟨w1.heap.size, 0, none⟩ = some (.slice A_v ds.length C_v) ∧ w'.cell? ⟨w1.heap.size, 1, none⟩ = some (.int .i64 wn) ∧ w'.cell? ⟨w1.heap.size + 1, 0, none⟩ = some (.int .i64 m2) ∧ w'.cell? ⟨w1.heap.size + 1, 1, none⟩ = some (.int .i64 rd2)) (first | (with_reducible exact ⟨c0, c1, c2, c3⟩) | ((try dsimp only); refine ⟨?_, ?_, ?_, ?_⟩ <;> (first | (simp [go_sem, *]; done))))
                (first
                  | (go_at_call 41; refine (below_any W _ gd vb bs (HRa.out.2.2.2.1.below (by first | (with_reducible exact Below.refl _ _) | go_grown)) _ (by decide) (by decide)).mono ?_; rintro e wb ⟨y, ⟨y0, y1⟩, rfl, hd, hgb⟩; have HGb : Hid (wa.grownBy wb (some gd)) := (grown_trans (grown_of_below (by first | (with_reducible exact Below.refl _ _) | go_grown) _) hgb); have HRb := Lib.hid (HRa.out.draw HGb.out hd); have HNb := Lib.hid (HNa.out.grown HGb.out (by simp; omega)); have c0 := HRb.out.1.cell 0 rfl; have c1 := HRb.out.1.cell 1 rfl; have c2 := HRb.out.2.1.cell 0 rfl; have c3 := HRb.out.2.1.cell 1 rfl; have ey : IntKind.i64.wrap (1 + y) = 1 + y := (IntWalk.i64_in _ (by omega)); clear hd hgb)
                  | (go_at_call 42; refine (back_at _ ds wn m2 rd2 (1 + y) _ (Sl.of_own (own_below HRb.out.2.2.1 (by first | (with_reducible exact Below.refl _ _) | go_grown))) HSB.out (by omega) (by omega)).mono ?_; rintro e wd ⟨rfl, hb⟩; have Bd : Below wb.heap.size wb wd := (Below.trans (by first | (with_reducible exact Below.refl _ _) | go_grown) (hb.mono (by first | (with_reducible exact Nat.le_refl _) | (with_reducible assumption) | (simp [go_sem]; done) | (simp [go_sem]; omega) | omega))); have HRd := Lib.hid (HRb.out.below Bd); have HNd := Lib.hid (HNb.out.below Bd); have c0 := HRd.out.1.cell 0 rfl; have c1 := HRd.out.1.cell 1 rfl; have c2 := HRd.out.2.1.cell 0 rfl; have c3 := HRd.out.2.1.cell 1 rfl; have n0 := HNd.out.cell 0 rfl; have n1 := HNd.out.cell 1 rfl; have nf0 := HNd.out.frozen 0; have nf1 := HNd.out.frozen 1; have nl := HNd.out.lt; clear hb Bd))
              all_goals
                go_wp2_with fail
                go_meet
                refine ⟨0, 0, (m2 - (1 + y)) % 720, 0, rfl, rfl, rfl, ⟨Int.le_refl 0, by decide⟩, Or.inl rfl, ⟨⟨by omega, by omega⟩, Or.inl rfl⟩, HNd.out.put2 _ _, ?_⟩
                exact (HRd.out.set_ (by first | (simp; done) | (simp; omega)) (by first | (simp; done) | (simp; omega)) _).set_ (by first | (simp; done) | (simp; omega)) (by first | (simp; done) | (simp; omega)) _
            · have hq0 : (x == 0) = false := by simpa using h0
              by_cases h1 : x = 1
              · subst h1
                obtain ⟨pl, hpl⟩ : ∃ pl, pl = if rd2 = 0 then depthM ds wn m2 else 0 := ⟨_, rfl⟩
                have HPL := Lib.hid hpl
                clear hpl
                go_wp2_with fail
                refine (pull_at _ ds wn m2 rd2 _ (Sl.of_own (own_below HRa.out.2.2.1 (by first | (with_reducible exact Below.refl _ _) | go_grown))) HSB.out pl HPL.out).mono ?_
                rintro e wb ⟨rfl, hb⟩
                have Bb : Below wa.heap.size wa wb := Below.trans (by first | (with_reducible exact Below.refl _ _) | go_grown) (hb.mono (by first | (with_reducible exact Nat.le_refl _) | (with_reducible assumption) | (simp [go_sem]; done) | (simp [go_sem]; omega) | omega))
                have HRb := Lib.hid (HRa.out.below Bb)
                have HNb := Lib.hid (HNa.out.below Bb)
                clear hb Bb c0 c1 c2 c3 lz lr n0 n1 nf0 nf1 nl
                have HRc : Hid (RfAt W w1 gd vb bs (.slice A_v ds.length C_v) ds wn m2 rd2 ((wb.setCell ⟨nx, 0, none⟩ (.int .i64 m2)).setCell ⟨nx, 1, none⟩ (.int .i64 rd2))) := (HRb.out.set_ (by first | (simp; done) | (simp; omega)) (by first | (simp; done) | (simp; omega)) _).set_ (by first | (simp; done) | (simp; omega)) (by first | (simp; done) | (simp; omega)) _
                have HNc := Lib.hid (HNb.out.put2 (.int .i64 m2) (.int .i64 rd2))
                have c0 := HRb.out.1.cell 0 rfl
                have c1 := HRb.out.1.cell 1 rfl
                have c2 := HRb.out.2.1.cell 0 rfl
                have c3 := HRb.out.2.1.cell 1 rfl
                have lz := HRb.out.2.1.lt
                have lr := HRb.out.1.lt
                have n0 := HNb.out.cell 0 rfl
                have n1 := HNb.out.cell 1 rfl
                have nf0 := HNb.out.frozen 0
                have nf1 := HNb.out.frozen 1
                have nl := HNb.out.lt
                go_wp2_with fail
                refine (snail_at _ ds wn m2 _ (Sl.of_own HRc.out.2.2.1) HRK.out ⟨sm0, sm1⟩).mono ?_
                rintro e wd ⟨rfl, hb⟩
                have HRd := Lib.hid (HRc.out.below hb)
                have HNd := Lib.hid (HNc.out.below hb)
                clear hb c0 c1 c2 c3 lz lr n0 n1 nf0 nf1 nl
                go_wp2_with fail
                go_meet
                refine ⟨pl, snail wn m2, m2, rd2, rfl, rfl, rfl, snail_in wn m2, ?_, HSO.out, HNd.out, HRd.out⟩
                rw [HPL.out]
                by_cases h : rd2 = 0
                · right; rw [if_pos h]; rfl
                · left; rw [if_neg h]
              · have hq1 : (x == 1) = false := by simpa using h1
                obtain ⟨K, hK⟩ : ∃ K : Nat, (K : Int) = 60 - m2 % 60 := ⟨(60 - m2 % 60).toNat, by omega⟩
                have hrun := hour_run HRK.out HSO.out hK
                have HRUN := Lib.hid hrun
                have HKK := Lib.hid hK
                have e5 : IntKind.i64.wrap (60 - m2 % 60) = (K : Int) := by rw [hK]; exact IntWalk.i64_in _ (by omega)
                have e6 : m2.tmod 60 = m2 % 60 := Int.tmod_eq_emod_of_nonneg sm0
                have e7 : 60 - m2 % 60 = (K : Int) := hK.symm
                clear hrun hK
                go_wp2_with fail
                refine (RunRack_i0 _ ds wn m2 rd2 K _ (Sl.of_own (own_below HRa.out.2.2.1 (by first | (with_reducible exact Below.refl _ _) | go_grown))) HSB.out (by have := HKK.out; omega)).mono ?_
                rintro e wb ⟨v2, rfl, o2, hb⟩
                have Bb : Below wa.heap.size wa wb := Below.trans (by first | (with_reducible exact Below.refl _ _) | go_grown) (hb.mono (by first | (with_reducible exact Nat.le_refl _) | (with_reducible assumption) | (simp [go_sem]; done) | (simp [go_sem]; omega) | omega))
                have HRb := Lib.hid (HRa.out.below Bb)
                have HNb := Lib.hid (HNa.out.below Bb)
                have HR1 := Lib.hid (itM_in m2 K)
                have hit := stOk_it HRK.out HSO.out K
                have HIT := Lib.hid hit
                have hz2 : wa.heap.size < wb.heap.size ∨ True := Or.inr trivial
                clear hb Bb c0 c1 c2 c3 lz lr n0 n1 nf0 nf1 nl e5 e6 e7 hit hz2
                have hh : 0 ≤ itM m2 K / 60 ∧ itM m2 K / 60 < 12 := by have := HR1.out; omega
                obtain ⟨hh0, hh1⟩ := hh
                have e8 : (itM m2 K).tdiv 60 = itM m2 K / 60 := Int.tdiv_eq_ediv_of_nonneg HR1.out.1
                have e9 : IntKind.i64.wrap (itM m2 K / 60) = itM m2 K / 60 := IntWalk.i64_in _ (by omega)
                have HRc : Hid (RfAt W w1 gd vb bs (.slice A_v ds.length C_v) ds wn m2 rd2 ((wb.setCell ⟨nx, 0, none⟩ (.int .i64 (itM m2 K))).setCell ⟨nx, 1, none⟩ (.int .i64 (itR ds wn m2 rd2 K)))) := (HRb.out.set_ (by first | (simp; done) | (simp; omega)) (by first | (simp; done) | (simp; omega)) _).set_ (by first | (simp; done) | (simp; omega)) (by first | (simp; done) | (simp; omega)) _
                have HNc := Lib.hid (HNb.out.put2 (.int .i64 (itM m2 K)) (.int .i64 (itR ds wn m2 rd2 K)))
                have hlen12 : (itM m2 K / 60).toNat < ds.length := by have := HL12.out; omega
                have hdb := HRK.out.2.1 _ (ix_mem hlen12)
                obtain ⟨hd1, hd2⟩ := hdb
                rcases HRUN.out with hL | hL
                · rw [hL] at o2
                  obtain ⟨A2, C2, rfl⟩ := own_form o2
                  clear hL o2 HRUN
                  have c0 := HRb.out.1.cell 0 rfl
                  have c1 := HRb.out.1.cell 1 rfl
                  have c2 := HRb.out.2.1.cell 0 rfl
                  have c3 := HRb.out.2.1.cell 1 rfl
                  have lz := HRb.out.2.1.lt
                  have lr := HRb.out.1.lt
                  have n0 := HNb.out.cell 0 rfl
                  have n1 := HNb.out.cell 1 rfl
                  have nf0 := HNb.out.frozen 0
                  have nf1 := HNb.out.frozen 1
                  have nl := HNb.out.lt
                  go_wp2_with fail
                  go_rounds 1
                  go_meet
                  exact ⟨0, itM m2 K / 60, _, _, rfl, rfl, rfl, ⟨hh0, hh1⟩, Or.inl rfl, HIT.out, HNc.out, HRc.out⟩
                · rw [hL] at o2
                  obtain ⟨b2, C2, rfl, _⟩ := o2.form (by simp)
                  have a2 := o2.cellAt 0 (by simp)
                  have zb2 := (o2.lt b2 rfl).2
                  have hb2 := (o2.lt b2 rfl).1
                  (try simp only [World.size_alloc] at hb2)
                  have nb2 : ¬ b2 = nx := by have := HNa.out.lt; omega
                  have nb3 : ¬ nx = b2 := by omega
                  simp [I64] at a2
                  clear hL o2 HRUN
                  have c0 := HRb.out.1.cell 0 rfl
                  have c1 := HRb.out.1.cell 1 rfl
                  have c2 := HRb.out.2.1.cell 0 rfl
                  have c3 := HRb.out.2.1.cell 1 rfl
                  have lz := HRb.out.2.1.lt
                  have lr := HRb.out.1.lt
                  have n0 := HNb.out.cell 0 rfl
                  have n1 := HNb.out.cell 1 rfl
                  have nf0 := HNb.out.frozen 0
                  have nf1 := HNb.out.frozen 1
                  have nl := HNb.out.lt
                  go_wp2_with fail
                  go_rounds 2
                  go_meet
                  exact ⟨ix ds (itM m2 K / 60).toNat, itM m2 K / 60, _, _, by simp, rfl, rfl, ⟨hh0, hh1⟩, Or.inr rfl, HIT.out, HNc.out, HRc.out⟩
          case rest =>
            obtain ⟨wc2, rfl⟩ : ∃ x : World, x = wc := ⟨_, rfl⟩
            obtain ⟨st, hr, m3, rd3, rfl, rfl, rfl, ⟨hr0, hr1⟩, hst, hso3, hn3, hR3⟩ := hcut
            have HR3 := Lib.hid hR3
            have HN3 := Lib.hid hn3
            have HSO3 := Lib.hid hso3
            have HSB3 := Lib.hid (stB_iff.2 ⟨HRK.out, hso3⟩)
            clear hR3 hn3 hso3 HRa HNa
            have c0 := HR3.out.1.cell 0 rfl
            have c1 := HR3.out.1.cell 1 rfl
            have c2 := HR3.out.2.1.cell 0 rfl
            have c3 := HR3.out.2.1.cell 1 rfl
            have lz := HR3.out.2.1.lt
            have lr := HR3.out.1.lt
            have n0 := HN3.out.cell 0 rfl
            have n1 := HN3.out.cell 1 rfl
            have nf0 := HN3.out.frozen 0
            have nf1 := HN3.out.frozen 1
            have nl := HN3.out.lt
            go_wp2_with fail
            refine (valid_at _ ds wn m3 rd3 _ (Sl.of_own (own_below HR3.out.2.2.1 (by first | (with_reducible exact Below.refl _ _) | go_grown))) HSB3.out).mono ?_
            rintro e we ⟨rfl, hb⟩
            have Be : Below wc2.heap.size wc2 we := Below.trans (by first | (with_reducible exact Below.refl _ _) | go_grown) (hb.mono (by first | (with_reducible exact Nat.le_refl _) | (with_reducible assumption) | (simp [go_sem]; done) | (simp [go_sem]; omega) | omega))
            have HR4 := Lib.hid (HR3.out.below Be)
            have HN4 := Lib.hid (HN3.out.below Be)
            clear hb Be c0 c1 c2 c3 lz lr n0 n1 nf0 nf1 nl HR3 HN3
            have hlen : hr.toNat < ds.length := by have := HL12.out; omega
            have hli : hr < (ds.length : Int) := by have := HL12.out; omega
            obtain ⟨bv, cv', hA, _⟩ := HR4.out.2.2.1.form (by omega)
            injection hA with hA1 hA2 hA3
            subst hA1 hA3
            have av := (HR4.out.2.2.1.cellAt hr.toNat (by rw [Nat.mul_one]; exact hlen)).trans (I64_get hlen)
            have zv := (HR4.out.2.2.1.lt bv rfl).2
            have c0 := HR4.out.1.cell 0 rfl
            have c1 := HR4.out.1.cell 1 rfl
            have c2 := HR4.out.2.1.cell 0 rfl
            have c3 := HR4.out.2.1.cell 1 rfl
            have lz := HR4.out.2.1.lt
            have lr := HR4.out.1.lt
            have n0 := HN4.out.cell 0 rfl
            have n1 := HN4.out.cell 1 rfl
            have nf0 := HN4.out.frozen 0
            have nf1 := HN4.out.frozen 1
            have nl := HN4.out.lt
            have cf2 := HR4.out.2.1.frozen 0
            have cf3 := HR4.out.2.1.frozen 1
            have HF := Lib.hid (HR4.out.put m3 rd3)
            rcases hst with rfl | rfl
            · go_wp2_with fail
              go_roundw
              case rel => exact ⟨j + 1, m3, rd3, by omega, by go_num, HSO3, HF.out⟩
              case measure => simp [intOf]; omega
            · by_cases hz : ix ds hr.toNat = 0
              · have hzq : (ix ds hr.toNat != 0) = false := by simp [hz]
                clear hz
                go_wp2_with fail
                go_roundw
                case rel => exact ⟨j + 1, m3, rd3, by omega, by go_num, HSO3, HF.out⟩
                case measure => simp [intOf]; omega
              · have hzq : (ix ds hr.toNat != 0) = true := by simp [hz]
                clear hz
                go_wp2_with fail
                go_roundw
                case rel => exact ⟨j + 1, m3, rd3, by omega, by go_num, HSO3, HF.out⟩
                case measure => simp [intOf]; omega
        · have HO := Lib.hid HR.out.2.2.2.2.1
          go_wp2
          go_ret
          exact ⟨rfl, HO.out⟩

set_option maxRecDepth 100000 in
theorem fnRackFollows_lifted (os : Os) (started : os.Started) (H : Type) (enc : TypeId × Value → H) :
    ReturnsInHanded {} Try.checked os 8 .any (Rows.fnRackFollowsSpec.pre6 enc Try.prog Try.f8 Rows.fnRackFollowsRow.domain false) (Rows.fnRackFollowsSpec.post enc Try.prog Try.f8 false true false false) := by
  refine returnsInHanded_of_change (C := Try.checked) Try.own started (by kernel_rfl) Try.func8
    (ChangeSpec.witness6 (enc := enc) (C := Try.checked) false ⟨#[], #[.slice none 0 0], []⟩ 8 (by kernel_rfl) (by kernel_rfl) (by kernel_rfl) (by kernel_rfl)) ?_
  intro W base args ds gs before hval0 hW hcnd _
  have hval : ∀ (j : Nat) t v, Try.f8.params[j]? = some t → args[j]? = some v → Value.okWide Try.prog W .any base t v := hval0
  have hW' := hW
  have hltB : ∀ x ∈ before, x.block < W.heap.size := fun x hx => hW.lt x hx
  obtain ⟨p, q, hA0, hV, rfl, hfz, hnd⟩ := hW
  have hA : DataW.TrodAll enc Try.prog W 0 (fun _ => true) true Try.f8.params.toList args.toList ds p := hA0
  rw [Try.params8] at hA hval
  obtain ⟨v0, vs0, d0, ds0, p0, q0, hargs, rfl, rfl, h0, r0⟩ := trodAll_cons hA
  obtain ⟨rfl, rfl, rfl⟩ := trodAll_nil r0
  obtain rfl : args = #[v0] := by cases args; simp_all
  clear hA0 hval0 hA hcnd hfz hnd
  have hlt0 : ∀ x ∈ p0, x.block < W.heap.size := fun x hx => hltB x (by simp [hx])
  obtain ⟨a0, n0, c0, rfl⟩ := okWide_slice Try.underlying31 (hval 0 31 v0 rfl rfl)
  obtain ⟨fu0, hf0⟩ := h0
  obtain ⟨bs, hbs, _⟩ := trod_bytes Try.underlying31 Try.underlying5 (by kernel_rfl) hf0 hlt0
  refine (rackFollows_walk _ bs W hbs).mono fun e W' ⟨he, hb⟩ => ?_
  subst he
  exact ⟨_, rfl, post_law Try.laidOut hW' rfl rfl (by kernel_rfl) (by kernel_rfl) Try.underlying4 hb⟩

set_option maxHeartbeats 2000000 in
theorem fnRackFollows_facts : joinedFacts Try.prog 8 Try.f8 Rows.fnRackFollowsSpec Rows.fnRackFollowsRow = true := by
  unfold joinedFacts
  simp only [Bool.and_eq_true]
  repeat' apply And.intro
  all_goals first | with_reducible exact Try.laidOut | with_reducible exact Try.g2 | with_reducible exact Try.g24 | with_reducible exact Try.g25 | (rw [Try.g26]; rfl) | (rw [Try.g27]; rfl) | as_aux_lemma => kernel_rfl
/-- The statement. -/
theorem fnRackFollows_holds : Rows.FnRackFollowsSaid :=
  OpenClaim.holds_of_wide 8 Try.f8 rfl rfl rfl rfl rfl rfl rfl ⟨rfl, rfl, rfl, rfl, rfl⟩ rfl rfl rfl rfl rfl (by as_aux_lemma => kernel_rfl) Try.func8 fnRackFollows_facts
    (by as_aux_lemma => exact of_decide_eq_true (by kernel_rfl)) (by as_aux_lemma => unfold Func.isWrapper; rw [if_neg (of_decide_eq_false (by kernel_rfl))]; exact ⟨rfl, rfl⟩)
    (fun os started H enc _ => fnRackFollows_lifted os started H enc)
#print axioms fnRackFollows_holds
end Go.Proofs.Ytipakagmbppagaa
