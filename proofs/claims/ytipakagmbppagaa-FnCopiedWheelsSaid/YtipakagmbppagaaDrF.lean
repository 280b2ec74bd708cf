/- Count wheels: what DrawCopyWheel draws: some wheel, notch and warning. -/
import Derived.Test.YtipakagmbppagaaDrE
import Derived.Test.YtipakagmbppagaaDrX
import Derived.Deep.RegionLaw
namespace Go.Proofs.Ytipakagmbppagaa
open Go.RowKit
attribute [local go_sem ↓] Go.wp_at_zero Go.wp_at_succ

def LxAt (W : World) (r0 g : Nat) (vb : Value) (bs : List Int) (k b : Nat) (vv : Value) (gs : List Int) (wr : World) : Prop :=
  Blk wr r0 62 #[.slice none 0 0] ∧ Blk wr b 62 #[vv] ∧ wr.ownsRow (b + 1) 2 1 vv gs.length (I64 gs) ∧ Src W wr g vb bs k
section
variable {W wr wq w4 : World} {r0 g k k2 b : Nat} {vb vv v' : Value} {bs gs : List Int} {y : Int}
theorem LxAt.draw (h : LxAt W r0 g vb bs k b vv gs wr) (h1 : r0 ≠ g) (h2 : g < b) (_h3 : r0 < b) (hgr : wr.grownBy wq (some g)) (hS : Src W wq g vb bs k2) : LxAt W r0 g vb bs k2 b vv gs wq := by
  obtain ⟨b0, b1, ho, _⟩ := h
  exact ⟨b0.grown hgr (by simp; omega), b1.grown hgr (by simp; omega), ho.kept hgr (own_apart ho (by omega)), hS⟩
theorem LxAt.mono (h : LxAt W r0 g vb bs k b vv gs wr) (hk : k ≤ k2) : LxAt W r0 g vb bs k2 b vv gs wr := ⟨h.1, h.2.1, h.2.2.1, h.2.2.2.mono hk⟩
theorem LxAt.app (h : LxAt W r0 g vb bs k b vv gs wr) (_h1 : r0 ≠ g) (h2 : g < b) (h3 : r0 < b) (ho' : w4.ownsRow (b + 1) 2 1 v' (gs ++ [y]).length (I64 (gs ++ [y]))) (hb : Below (b + 1) wr w4) (hg' : wr.grownBy w4 vv.ownBlock) :
    ∃ gs' A C, gs'.length = gs.length + 1 ∧ v' = .slice A gs'.length C ∧ Blk w4 b 62 #[vv] ∧ LxAt W r0 g vb bs k b (.slice A gs'.length C) gs' (w4.setCell ⟨b, 0, none⟩ (.slice A gs'.length C)) := by
  obtain ⟨b0, b1, ho, hS⟩ := h
  obtain ⟨A, C, rfl⟩ := own_form ho'
  have hWg := hS.2.1
  have hr : ∀ j, vv.ownBlock = some j → b + 1 ≤ j := fun j hj => (ho.lt j hj).1
  have e1 := b1.belowB hb (by omega)
  refine ⟨gs ++ [y], A, C, by simp, rfl, e1, (b0.belowB hb (by omega)).far (by simp; omega) _, e1.set_ 0 _, own_setCell ho' (by simp) _, ?_⟩
  refine Src.set' (hS.far hg' (fun j hj => ?_) (fun e => ?_)) (by simp; omega) (by simp; omega) _
  · have := hr j hj; omega
  · have := hr g e.symm; omega
end
theorem cell6' {w : World} {g : Nat} {t : TypeId} {a b c d e f : Int} (h : Blk w g t #[.int .i64 a, .int .i64 b, .int .i64 c, .int .i64 d, .int .i64 e, .int .i64 f]) : ∀ j, j < [a, b, c, d, e, f].length → w.cell? ⟨g, j, none⟩ = some (.int .i64 (ix [a, b, c, d, e, f] j)) := by
  intro j hj
  have hj' : j < 6 := hj
  rcases (show j = 0 ∨ j = 1 ∨ j = 2 ∨ j = 3 ∨ j = 4 ∨ j = 5 by omega) with rfl | rfl | rfl | rfl | rfl | rfl
  · exact h.cell 0 rfl
  · exact h.cell 1 rfl
  · exact h.cell 2 rfl
  · exact h.cell 3 rfl
  · exact h.cell 4 rfl
  · exact h.cell 5 rfl
/-- What a draw of wheel, notch and warning leaves. -/
def CopyPost (W : World) (e : Ending) (w' : World) : Prop := ∃ (v : Value) (gs : List Int) (q wn : Int), e = .returned (.tuple #[.agg #[v], .int .i64 q, .int .i64 wn]) ∧ w'.ownsRow W.heap.size 2 1 v gs.length (I64 gs) ∧ gs.length ≤ 25 ∧ Below W.heap.size W w'

set_option maxRecDepth 100000 in
set_option maxHeartbeats 8000000 in
theorem DrawCopyWheel_any (vb : Value) (bs : List Int) (W : World) (hv : SlB W vb bs) :
    Calls Try.prog 63 #[vb] W (CopyPost W) := by
  have HP : Hid (∀ e w', (∃ (v : Value) (gs : List Int) (q wn : Int), e = .returned (.tuple #[.agg #[v], .int .i64 q, .int .i64 wn]) ∧ w'.ownsRow W.heap.size 2 1 v gs.length (I64 gs) ∧ gs.length ≤ 25 ∧ Below W.heap.size W w') → CopyPost W e w') := fun e w' h => h
  have HV := Lib.hid (fun w (hb : Below W.heap.size W w) g (hg : w.heap.size = g) => l00From_b vb bs W w hv hb g hg)
  clear hv
  go_enter Try.func63, Try.ntmps63
  have HK := Lib.hid (bx1 W 62 #[.slice none 0 0])
  go_wp2_with fail
  refine (HV.out _ (by go_grown) (W.heap.size + 1) (by simp)).mono ?_
  rintro e w1 ⟨rfl, hs, hb1⟩
  have B1 := Lib.hid (HK.out.below hb1)
  have z1 : W.heap.size + 1 < w1.heap.size := hs.lt
  have S1 := Lib.hid hs
  clear hs hb1 HK HV
  go_wp2_with fail
  refine (l20Bent_any W _ _ vb bs 0 S1.out (by omega)).mono ?_
  rintro e w2 ⟨v, gs, rfl, ho, ⟨l1, l2⟩, hs, hg2⟩
  obtain ⟨A, cv, rfl⟩ := own_form ho
  have z2 := hg2.size
  have da : Below w2.heap.size w2 (w2.alloc (.cells #[.slice A gs.length cv] 62)) := by go_grown
  have B2 := Lib.hid ((B1.out.grown hg2 (by first | (simp; done) | (simp; omega) | omega)).below da)
  have C2 : Hid (Blk (w2.alloc (.cells #[.slice A gs.length cv] 62)) w2.heap.size 62 #[.slice A gs.length cv]) := Blk.new _ _ _
  have O2 := Lib.hid (own_below ho da)
  have S2 := Lib.hid (hs.below da)
  have L2 := Lib.hid l2
  clear ho hs hg2 da B1 l1
  go_wp2_with fail
  refine (one_any W _ _ vb bs _ S2.out (by omega) _ (by omega)).mono ?_
  rintro e w3 ⟨c, rfl, hs, hg3⟩
  have B3 := Lib.hid (B2.out.grown hg3 (by first | (simp; done) | (simp; omega) | omega))
  have C3 := Lib.hid (C2.out.grown hg3 (by first | (simp; done) | (simp; omega) | omega))
  have O3 := Lib.hid (O2.out.kept hg3 (own_apart O2.out (by omega)))
  have S3 := Lib.hid hs
  have z3 := C3.out.lt
  clear hs hg3 B2 C2 O2 S2
  go_upto_if 14 with fail
  go_cut [7] (fun _ wr => ∃ (vv : Value) (gs : List Int), gs.length ≤ 25 ∧ Blk wr W.heap.size 62 #[.slice none 0 0] ∧ Blk wr w2.heap.size 62 #[vv] ∧ wr.ownsRow w1.heap.size 2 1 vv gs.length (I64 gs) ∧ Src W wr (W.heap.size + 1) vb bs 400)
  case first =>
    cases c with
    | false =>
      go_wp2_with fail
      go_meet
      exact ⟨_, gs, L2.out, B3.out, C3.out, O3.out, S3.out.mono (by omega)⟩
    | true =>
      have HL0 : Hid (LxAt W W.heap.size (W.heap.size + 1) vb bs 210 w2.heap.size (.slice none 0 0) [] (w3.setCell ⟨w2.heap.size, 0, none⟩ (.slice none 0 0))) :=
        ⟨B3.out.far (by first | (simp; done) | (simp; omega) | omega) _, C3.out.set_ 0 _, World.ownsRow_nil _ _ _ _, (S3.out.set' (by first | (simp; done) | (simp; omega) | omega) (by first | (simp; done) | (simp; omega) | omega) _).mono (by omega)⟩
      have q0 := C3.out.cell 0 rfl
      have f0 := C3.out.frozen 0
      clear B3 C3 O3 S3
      go_wp2_with fail
      have k6 : Blk ((w3.setCell ⟨w2.heap.size, 0, none⟩ (.slice none 0 0)).alloc (.cells #[.int .i64 1, .int .i64 2, .int .i64 3, .int .i64 4, .int .i64 6, .int .i64 12] 2)) w3.heap.size 2 #[.int .i64 1, .int .i64 2, .int .i64 3, .int .i64 4, .int .i64 6, .int .i64 12] := by
        have := Blk.new (w3.setCell ⟨w2.heap.size, 0, none⟩ (.slice none 0 0)) 2 #[.int .i64 1, .int .i64 2, .int .i64 3, .int .i64 4, .int .i64 6, .int .i64 12]
        simpa using this
      have d6 : Below (w3.setCell ⟨w2.heap.size, 0, none⟩ (.slice none 0 0)).heap.size (w3.setCell ⟨w2.heap.size, 0, none⟩ (.slice none 0 0)) ((w3.setCell ⟨w2.heap.size, 0, none⟩ (.slice none 0 0)).alloc (.cells #[.int .i64 1, .int .i64 2, .int .i64 3, .int .i64 4, .int .i64 6, .int .i64 12] 2)) := by go_grown
      refine (among_any W _ _ vb bs _ (HL0.out.2.2.2.below d6) (by omega) w3.heap.size [1, 2, 3, 4, 6, 12] 6 (by decide) (by omega) (by decide) (by decide) (cell6' k6) k6.lt).mono ?_
      rintro e w4 ⟨x, hx, rfl, hs, hg4⟩
      have hxb : 0 ≤ x ∧ x ≤ 12 := by
        simp only [List.mem_cons, List.not_mem_nil, or_false] at hx
        omega
      obtain ⟨hx0, hx1⟩ := hxb
      obtain ⟨X, rfl⟩ := Int.eq_ofNat_of_zero_le hx0
      have hX : X ≤ 12 := by omega
      have HL1 : Hid (LxAt W W.heap.size (W.heap.size + 1) vb bs 212 w2.heap.size (.slice none 0 0) [] w4) :=
        LxAt.draw ⟨HL0.out.1.below d6, HL0.out.2.1.below d6, World.ownsRow_nil _ _ _ _, HL0.out.2.2.2.below d6⟩ (by omega) (by omega) (by omega) hg4 hs
      clear hs hg4 k6 d6 HL0 hx hx0 hx1 q0 f0
      go_wp2_with fail
      go_loopw [7] (fun i wr => ∃ (j : Nat) (vv : Value) (gs : List Int), j ≤ X ∧ i = .int .i64 j ∧ gs.length + j = X ∧ LxAt W W.heap.size (W.heap.size + 1) vb bs (212 + 2 * gs.length) w2.heap.size vv gs wr) (fun i _ => (intOf i).toNat)
      case atStart => exact ⟨X, _, [], by omega, rfl, by simp, HL1.out⟩
      case round =>
        clear HL1
        obtain ⟨j, vv, gs, hj, rfl, hl, hL⟩ := hrel
        have HL := Lib.hid hL
        have hgl : gs.length ≤ 12 := by omega
        obtain ⟨A, C, rfl⟩ := own_form hL.2.2.1
        have q0 := hL.2.1.cell 0 rfl
        have f0 := hL.2.1.frozen 0
        have z0 := hL.2.1.lt
        clear hL
        by_cases hlt : 0 < j
        · have i1 : (0 : Int) < (j : Int) := by omega
          go_wp2_with fail
          go_region_law
            ((first
              | (refine step_call2x rfl 94 _ _ _ _ (by rfl) _ _ (by rfl) (by rfl) _ Try.func94 (by kernel_rfl) (by kernel_rfl) _ (pick_any W _ _ vb bs _ (HL.out.2.2.2.below (by first | (with_reducible exact Below.refl _ _) | go_grown)) (by omega) _ (by omega)) ?_; rintro e w3 ⟨y, ⟨y0, y1⟩, rfl, hs, hg3⟩; refine ⟨_, rfl, ?_⟩; have HG3 : Hid (wr.grownBy w3 (some (W.heap.size + 1))) := (grown_trans (grown_of_below (by first | (with_reducible exact Below.refl _ _) | go_grown) _) hg3); have HL3 := Lib.hid (HL.out.draw (by omega) (by omega) (by omega) HG3.out hs); have q0 := HL3.out.2.1.cell 0 rfl; have f0 := HL3.out.2.1.frozen 0; have z0 := HL3.out.2.1.lt; have ey : IntKind.i64.wrap (1 + y) = 1 + y := (IntWalk.i64_in _ (by omega)); clear hs hg3)
              | (refine step_app1 rfl _ _ (by rfl) (w2.heap.size + 1) _ gs (by rfl) (by first | exact HL3.out.2.2.1.alloc _ | exact (HL3.out.2.2.1.alloc _).drew) _ w3.heap.size (by rfl) (heap_alloc_new w3 _) (by omega) (by simp; omega) ?_; intro b4 c4 w4 hown4 hb4 hg4; have B4 : Below (w2.heap.size + 1) w3 w4 := (Below.trans (by go_grown) hb4); have G4 : w3.grownBy w4 (Value.slice A gs.length C).ownBlock := (grown_trans (grown_of_below (by go_grown) _) hg4); have T4 := HL3.out.app (by omega) (by omega) (by omega) hown4 B4 G4; obtain ⟨gs', A', C', g1, g2, e0, e1⟩ := T4; rw [← g2] at e1; have E1 := Lib.hid e1; have HGL := Lib.hid g1; have q4 := e0.cell 0 rfl; have f4 := e0.frozen 0; have z4 := e0.lt; clear hown4 hb4 hg4 B4 G4 g1 g2 e0 e1)))
          all_goals
            go_wp2
            go_roundw
            case rel => exact ⟨j - 1, _, gs', by omega, (by congr 1; omega), (by have := HGL.out; omega), E1.out.mono (by have := HGL.out; omega)⟩
            case measure => simp [intOf]; omega
        · obtain rfl : j = 0 := by omega
          go_wp2_with fail
          go_meet
          exact ⟨_, gs, by omega, HL.out.1, HL.out.2.1, own_mono HL.out.2.2.1 (by omega), HL.out.2.2.2.mono (by omega)⟩
  case rest =>
    obtain ⟨w5, rfl⟩ : ∃ x : World, x = wc := ⟨_, rfl⟩
    obtain ⟨vv, gs2, hl2, b5, c5, o5, s5⟩ := hcut
    obtain ⟨A2, cv2, rfl⟩ := own_form o5
    have B5 := Lib.hid b5
    have C5 := Lib.hid c5
    have O5 := Lib.hid o5
    have S5 := Lib.hid s5
    have q0 := c5.cell 0 rfl
    have z5 := c5.lt
    clear b5 c5 o5 s5 B3 C3 O3 S3
    go_wp2_with fail
    refine (l20At_any W _ _ vb bs _ S5.out (by omega) A2 gs2.length cv2 (by omega)).mono ?_
    rintro e w6 ⟨x, rfl, hs, hg6⟩
    have B6 := Lib.hid (B5.out.grown hg6 (by first | (simp; done) | (simp; omega) | omega))
    have C6 := Lib.hid (C5.out.grown hg6 (by first | (simp; done) | (simp; omega) | omega))
    have O6 := Lib.hid (O5.out.kept hg6 (own_apart O5.out (by omega)))
    have S6 := Lib.hid hs
    clear hs hg6 q0 z5
    have q0 := C6.out.cell 0 rfl
    have z0 := C6.out.lt
    have n1 : ¬ w2.heap.size = W.heap.size := by omega
    have n2 : ¬ W.heap.size = w2.heap.size := by omega
    go_wp2_with fail
    go_region_held3 (fun w' => w'.cell? ⟨w2.heap.size, 0, none⟩ = some (.slice A2 gs2.length cv2)) (first | (with_reducible exact q0) | ((try dsimp only); (simp [go_sem, *]; done)) | go_keep)
      (first
        | (go_at_call 94; refine (pick_any W _ _ vb bs _ (S6.out.below (by first | (with_reducible exact Below.refl _ _) | go_grown)) (by omega) _ (by omega)).mono ?_; rintro e w7 ⟨y, hy, rfl, hs, hg7⟩; have HG7 : Hid (w6.grownBy w7 (some (W.heap.size + 1))) := (grown_trans (grown_of_below (by first | (with_reducible exact Below.refl _ _) | go_grown) _) hg7); have B7 := Lib.hid (B6.out.grown HG7.out (by first | (simp; done) | (simp; omega) | omega)); have C7 := Lib.hid (C6.out.grown HG7.out (by first | (simp; done) | (simp; omega) | omega)); have O7 := Lib.hid (O6.out.kept HG7.out (own_apart O6.out (by omega))); have S7 := Lib.hid hs; have q0 := C7.out.cell 0 rfl; have z0 := C7.out.lt; have r0 := B7.out.cell 0 rfl; have rf0 := B7.out.frozen 0; have rz := B7.out.lt; clear hs hg7 hy))
    all_goals
      go_wp2
      try simp only [Exit.inBlock, Exit.then]
      refine bodyPost_ret (v := .tuple #[.agg #[.slice A2 gs2.length cv2], .int .i64 x, .int .i64 y]) ?_ rfl ?_
      · simp [results, Try.results63, go_sem, r0]
      · refine HP.out _ _ ⟨_, gs2, _, _, rfl, own_mono (own_setCell O7.out (by first | (simp; done) | (simp; omega) | omega) _) (by first | (simp; done) | (simp; omega) | omega), hl2, S7.out.old.setCell (by first | (simp; done) | (simp; omega) | omega) _⟩
end Go.Proofs.Ytipakagmbppagaa
