/- Count wheels: what l20Draw, l20Bent, l20At draw: some wheel, some number. -/
import Derived.Test.YtfddibdncniekaaDoorDrC
import Derived.Deep.RegionLaw
namespace Go.Proofs.YtfddibdncniekaaDoor
open Go.RowKit
attribute [local go_sem ↓] Go.wp_at_zero Go.wp_at_succ

/-- What stands in a loop that draws a wheel's gaps: the result's box, the wheel's box b, its list, the source. -/
def LwAt (W w : World) (g : Nat) (vb : Value) (bs : List Int) (k b : Nat) (vv : Value) (gs : List Int) (wr : World) : Prop :=
  Blk wr w.heap.size 31 #[.slice none 0 0] ∧ Blk wr b 31 #[vv] ∧ wr.ownsRow (b + 1) 2 1 vv gs.length (I64 gs) ∧ Src W wr g vb bs k ∧ w.grownBy wr (some g)
section
variable {W w wr wq w4 : World} {g k k2 b : Nat} {vb vv v' : Value} {bs gs : List Int} {y : Int}
theorem LwAt.draw (h : LwAt W w g vb bs k b vv gs wr) (hg : g < w.heap.size) (hb : w.heap.size < b) (hgr : wr.grownBy wq (some g)) (hS : Src W wq g vb bs k2) : LwAt W w g vb bs k2 b vv gs wq := by
  obtain ⟨b0, b1, ho, _, hG⟩ := h
  refine ⟨b0.grown hgr (by simp; omega), b1.grown hgr (by simp; omega), ho.kept hgr ?_, hS, grown_trans hG hgr⟩
  cases hv : vv.ownBlock with
  | none => exact Or.inl rfl
  | some j => exact Or.inr fun e => by have := (ho.lt j hv).1; cases e; omega
theorem LwAt.mono (h : LwAt W w g vb bs k b vv gs wr) (hk : k ≤ k2) : LwAt W w g vb bs k2 b vv gs wr := ⟨h.1, h.2.1, h.2.2.1, h.2.2.2.1.mono hk, h.2.2.2.2⟩
theorem LwAt.app (h : LwAt W w g vb bs k b vv gs wr) (hg : g < w.heap.size) (hbw : w.heap.size < b) (ho' : w4.ownsRow (b + 1) 2 1 v' (gs ++ [y]).length (I64 (gs ++ [y]))) (hb : Below (b + 1) wr w4) (hg' : wr.grownBy w4 vv.ownBlock) :
    ∃ gs' A C, gs'.length = gs.length + 1 ∧ v' = .slice A gs'.length C ∧ Blk w4 b 31 #[vv] ∧ LwAt W w g vb bs k b (.slice A gs'.length C) gs' (w4.setCell ⟨b, 0, none⟩ (.slice A gs'.length C)) := by
  obtain ⟨b0, b1, ho, hS, hG⟩ := h
  obtain ⟨A, C, rfl⟩ := own_form ho'
  have hWg := hS.2.1
  have hr : ∀ j, vv.ownBlock = some j → b + 1 ≤ j := fun j hj => (ho.lt j hj).1
  have e1 := b1.belowB hb (by omega)
  refine ⟨gs ++ [y], A, C, by simp, rfl, e1, (b0.belowB hb (by omega)).far (by simp; omega) _, e1.set_ 0 _, own_setCell ho' (by simp) _, ?_, ?_⟩
  · refine Src.set' (hS.far hg' (fun j hj => ?_) (fun e => ?_)) (by simp; omega) (by simp; omega) _
    · have := hr j hj; omega
    · have := hr g e.symm; omega
  · exact grown_set' (grown_new' hG hg' (fun j hj => by have := hr j hj; omega)) (by simp; omega) _
end
/-- What a draw of a wheel leaves. -/
def WheelPost (W w : World) (g : Nat) (vb : Value) (bs : List Int) (k : Nat) (lo : Nat) (e : Ending) (w' : World) : Prop :=
  ∃ (v : Value) (gs : List Int), e = .returned (.agg #[v]) ∧ w'.ownsRow w.heap.size 2 1 v gs.length (I64 gs) ∧ (lo ≤ gs.length ∧ gs.length ≤ 25) ∧ Src W w' g vb bs k ∧ w.grownBy w' (some g)

set_option maxRecDepth 100000 in
set_option maxHeartbeats 8000000 in
theorem l20Draw_any (W w : World) (g : Nat) (vb : Value) (bs : List Int) (k : Nat) (h : Src W w g vb bs k) (hk : k ≤ 100000) :
    Calls Tryd.prog 109 #[.pointer (some ⟨g, 0, none⟩)] w (WheelPost W w g vb bs (k + 50) 1) := by
  have HP : Hid (∀ e w', (∃ (v : Value) (gs : List Int), e = .returned (.agg #[v]) ∧ w'.ownsRow w.heap.size 2 1 v gs.length (I64 gs) ∧ (1 ≤ gs.length ∧ gs.length ≤ 25) ∧ Src W w' g vb bs (k + 50) ∧ w.grownBy w' (some g)) → WheelPost W w g vb bs (k + 50) 1 e w') := fun e w' h => h
  have hg := h.lt
  have hWg := h.2.1
  have HS := Lib.hid h
  clear h
  go_enter Tryd.func109, Tryd.ntmps109
  go_wp2_with fail
  refine (one_any W _ g vb bs k (HS.out.below (by go_grown)) (by omega) _ (by omega)).mono ?_
  rintro e w1 ⟨c, rfl, hs, hg1⟩
  have HB0 : Hid (Blk w1 w.heap.size 31 #[.slice none 0 0]) := (Blk.new w _ _).grown hg1 (by simp; omega)
  have HG1 : Hid (w.grownBy w1 (some g)) := grown_trans (grown_of_below (by go_grown) _) hg1
  have HS1 := Lib.hid hs
  have z1 : w.heap.size < w1.heap.size := HB0.out.lt
  clear hs hg1
  cases c with
  | true =>
    go_wp2_with fail
    refine (one_any W _ g vb bs _ HS1.out (by omega) _ (by omega)).mono ?_
    rintro e w2 ⟨c2, rfl, hs, hg2⟩
    have HB2 := Lib.hid (HB0.out.grown hg2 (by simp; omega))
    have HG2 := Lib.hid (grown_trans HG1.out hg2)
    have HS2 := Lib.hid hs
    have z2 := hg2.size
    clear hs hg2
    go_wp2_with fail
    refine (HourWheel_draw c2 _).mono ?_
    rintro e w3 ⟨v, gs, rfl, ho, ⟨l1, l2⟩, hb⟩
    obtain ⟨A, C, rfl⟩ := own_form ho
    have HB3 := Lib.hid (HB2.out.below hb)
    have HG3 := Lib.hid (grown_trans HG2.out (grown_of_below hb _))
    have HS3 := Lib.hid (HS2.out.below hb)
    have HO := Lib.hid ho
    have r0 := HB3.out.cell 0 rfl
    have rf0 := HB3.out.frozen 0
    have rz := HB3.out.lt
    clear hb ho
    go_wp2
    try simp only [Exit.inBlock, Exit.then]
    refine bodyPost_ret (v := .agg #[.slice A gs.length C]) ?_ rfl ?_
    · simp [results, Tryd.results109, go_sem, r0]
    · refine HP.out _ _ ⟨_, gs, rfl, own_mono (own_setCell HO.out (by simp; omega) _) (by omega), ⟨by omega, by omega⟩, (HS3.out.set' (by simp; omega) (by simp; omega) _).mono (by omega), grown_set' HG3.out (by simp) _⟩
  | false =>
    have HL0 : Hid (LwAt W w g vb bs (k + 2) w1.heap.size (.slice none 0 0) [] (w1.alloc (.cells #[.slice none 0 0] 31))) :=
      ⟨HB0.out.alloc _, Blk.new _ _ _, World.ownsRow_nil _ _ _ _, HS1.out.below (by go_grown), grown_trans HG1.out (grown_of_below (by go_grown) _)⟩
    clear HB0 HG1
    go_wp2_with fail
    refine (pick_any W _ g vb bs _ HL0.out.2.2.2.1 (by omega) _ (by omega)).mono ?_
    rintro e w2 ⟨x, ⟨x0, x1⟩, rfl, hs, hg2⟩
    have HL1 := Lib.hid (HL0.out.draw hg z1 hg2 hs)
    obtain ⟨X, rfl⟩ := Int.eq_ofNat_of_zero_le x0
    have hX : X ≤ 8 := by omega
    clear hs hg2 HL0 HS1 x0 x1
    go_wp2_with fail
    go_loopw [4] (fun i wr => ∃ (j : Nat) (vv : Value) (gs : List Int), j ≤ X + 1 ∧ i = .int .i64 j ∧ gs.length + j = X + 1 ∧ LwAt W w g vb bs (k + 4 + 2 * gs.length) w1.heap.size vv gs wr) (fun i _ => (intOf i).toNat)
    case atStart => exact ⟨X + 1, _, [], by omega, by go_num, by simp, HL1.out⟩
    case round =>
      clear HL1
      obtain ⟨j, vv, gs, hj, rfl, hl, hL⟩ := hrel
      have HL := Lib.hid hL
      have hgl : gs.length ≤ 9 := by omega
      obtain ⟨A, C, rfl⟩ := own_form hL.2.2.1
      have q0 := hL.2.1.cell 0 rfl
      have f0 := hL.2.1.frozen 0
      have z0 := hL.2.1.lt
      clear hL
      by_cases hlt : 0 < j
      · have i1 : (0 : Int) < (j : Int) := by omega
        go_wp2_with fail
        go_region_law
          ((first
            | (refine step_call2x rfl 89 _ _ _ _ (by rfl) _ _ (by rfl) (by rfl) _ Tryd.func89 (by kernel_rfl) (by kernel_rfl) _ (pick_any W _ g vb bs _ (HL.out.2.2.2.1.below (by first | (with_reducible exact Below.refl _ _) | go_grown)) (by omega) _ (by omega)) ?_; rintro e w3 ⟨y, ⟨y0, y1⟩, rfl, hs, hg3⟩; refine ⟨_, rfl, ?_⟩; have HG3 : Hid (wr.grownBy w3 (some g)) := (grown_trans (grown_of_below (by first | (with_reducible exact Below.refl _ _) | go_grown) _) hg3); have HL3 := Lib.hid (HL.out.draw hg z1 HG3.out hs); have q0 := HL3.out.2.1.cell 0 rfl; have f0 := HL3.out.2.1.frozen 0; have z0 := HL3.out.2.1.lt; have ey : IntKind.i64.wrap (1 + y) = 1 + y := (IntWalk.i64_in _ (by omega)); clear hs hg3)
            | (refine step_app1 rfl _ _ (by rfl) (w1.heap.size + 1) _ gs (by rfl) (by first | exact HL3.out.2.2.1.alloc _ | exact (HL3.out.2.2.1.alloc _).drew) _ w3.heap.size (by rfl) (heap_alloc_new w3 _) (by omega) (by simp; omega) ?_; intro b4 c4 w4 hown4 hb4 hg4; have B4 : Below (w1.heap.size + 1) w3 w4 := (Below.trans (by go_grown) hb4); have G4 : w3.grownBy w4 (Value.slice A gs.length C).ownBlock := (grown_trans (grown_of_below (by go_grown) _) hg4); have T4 := HL3.out.app hg z1 hown4 B4 G4; obtain ⟨gs', A', C', g1, g2, e0, e1⟩ := T4; rw [← g2] at e1; have E1 := Lib.hid e1; have HGL := Lib.hid g1; have q4 := e0.cell 0 rfl; have f4 := e0.frozen 0; have z4 := e0.lt; clear hown4 hb4 hg4 B4 G4 g1 g2 e0 e1)))
        all_goals
          go_wp2
          go_roundw
          case rel => exact ⟨j - 1, _, gs', by omega, (by congr 1; omega), (by have := HGL.out; omega), E1.out.mono (by have := HGL.out; omega)⟩
          case measure => simp [intOf]; omega
      · obtain rfl : j = 0 := by omega
        have r0 := HL.out.1.cell 0 rfl
        have rf0 := HL.out.1.frozen 0
        have rz := HL.out.1.lt
        go_wp2
        try simp only [Exit.inBlock, Exit.then]
        refine bodyPost_ret (v := .agg #[.slice A gs.length C]) ?_ rfl ?_
        · simp [results, Tryd.results109, go_sem, r0]
        · refine HP.out _ _ ⟨_, gs, rfl, own_mono (own_setCell HL.out.2.2.1 (by simp; omega) _) (by omega), ⟨by omega, by omega⟩, (HL.out.2.2.2.1.set' (by simp; omega) (by simp; omega) _).mono (by omega), grown_set' HL.out.2.2.2.2 (by simp) _⟩
end Go.Proofs.YtfddibdncniekaaDoor
