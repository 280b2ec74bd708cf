/- Hands: what DrawHandsBetween gives: some wheel, two states, some text. (Written by gen_drk.py.) -/
import Derived.Test.YtfddibdncniekaaDoorDrK
namespace Go.Proofs.YtfddibdncniekaaDoor
open Go.RowKit
attribute [local go_sem ↓] Go.wp_at_zero Go.wp_at_succ

theorem cell_far {w : World} {b i : Nat} {p : Addr} {u v : Value} (hp : p.block ≠ b) (h : w.cell? ⟨b, i, none⟩ = some v) : (w.setCell p u).cell? ⟨b, i, none⟩ = some v :=
  (World.cell?_of_block (a := ⟨b, i, none⟩) (Below.heap_setCell w p u b (fun e => hp e.symm))).trans h

def TwoP (W : World) (e : Ending) (w' : World) : Prop := ∃ (v : Value) (gs : List Int) (h0 q0 : Int) (h1 q1 : Int) (t : ByteArray), e = .returned (.tuple #[.agg #[v], .agg #[.int .i64 h0, .int .i64 q0], .agg #[.int .i64 h1, .int .i64 q1], .string t]) ∧ w'.ownsRow W.heap.size 2 1 v gs.length (I64 gs) ∧ gs.length ≤ 100 ∧ t.size ≤ 300 ∧ Below W.heap.size W w'

set_option maxRecDepth 100000 in
set_option maxHeartbeats 8000000 in
theorem DrawHandsBetween_any (vb : Value) (bs : List Int) (W : World) (hv : SlB W vb bs) :
    Calls Tryd.prog 43 #[vb] W (TwoP W) := by
  have HP : Hid (∀ e w', (∃ (v : Value) (gs : List Int) (h0 q0 : Int) (h1 q1 : Int) (t : ByteArray), e = .returned (.tuple #[.agg #[v], .agg #[.int .i64 h0, .int .i64 q0], .agg #[.int .i64 h1, .int .i64 q1], .string t]) ∧ w'.ownsRow W.heap.size 2 1 v gs.length (I64 gs) ∧ gs.length ≤ 100 ∧ t.size ≤ 300 ∧ Below W.heap.size W w') → TwoP W e w') := fun e w' h => h
  have HV := Lib.hid (fun w (hb : Below W.heap.size W w) g (hg : w.heap.size = g) => l00From_b vb bs W w hv hb g hg)
  clear hv
  go_enter Tryd.func43, Tryd.ntmps43
  have HK := Lib.hid (bx3 W 31 28 28 #[.slice none 0 0] #[.int .i64 0, .int .i64 0] #[.int .i64 0, .int .i64 0])
  go_wp2_with fail
  refine (HV.out _ (by go_grown) (W.heap.size + 1 + 1 + 1) (by simp)).mono ?_
  rintro e w1 ⟨rfl, hs, hb1⟩
  have R0 := Lib.hid (HK.out.1.below hb1)
  have R1 := Lib.hid (HK.out.2.1.below hb1)
  have R2 := Lib.hid (HK.out.2.2.below hb1)
  have z1 : W.heap.size + 1 + 1 + 1 < w1.heap.size := hs.lt
  have HS := Lib.hid hs
  clear hs hb1 HK HV
  go_wp2_with fail
  refine (l23DrawWheel_any W _ _ vb bs 0 HS.out (by omega)).mono ?_
  rintro e w2 ⟨v, gs, rfl, ho, hl, hs, hg2⟩
  obtain ⟨A, cv, rfl⟩ := own_form ho
  have z2 := hg2.size
  replace R0 := Lib.hid (R0.out.grown hg2 (by first | (simp; done) | (simp; omega) | omega))
  replace R1 := Lib.hid (R1.out.grown hg2 (by first | (simp; done) | (simp; omega) | omega))
  replace R2 := Lib.hid (R2.out.grown hg2 (by first | (simp; done) | (simp; omega) | omega))
  have HO := Lib.hid ho
  have HL := Lib.hid hl
  replace HS := Lib.hid hs
  clear hs hg2 ho hl
  have dw : Below w2.heap.size w2 (w2.alloc (.cells #[.slice A gs.length cv] 31)) := by go_grown
  replace R0 := Lib.hid (R0.out.below dw)
  replace R1 := Lib.hid (R1.out.below dw)
  replace R2 := Lib.hid (R2.out.below dw)
  replace HO := Lib.hid (own_below HO.out dw)
  replace HS := Lib.hid (HS.out.below dw)
  have BW : Hid (Blk (w2.alloc (.cells #[.slice A gs.length cv] 31)) w2.heap.size 31 #[.slice A gs.length cv]) := Blk.new _ _ _
  clear dw
  have qw := BW.out.cell 0 rfl
  go_wp2_with fail
  refine (l23DrawState_any W _ _ vb bs _ HS.out (by omega) w1.heap.size _ gs HO.out (by omega) (by first | omega | (simp; omega)) (by have := HL.out; omega)).mono ?_
  rintro e w3 ⟨h0, q0, rfl, hs, hg⟩
  have z3 := hg.size
  simp only [World.size_alloc] at z3
  replace R0 := Lib.hid (R0.out.grown hg (by first | (simp; done) | (simp; omega) | omega))
  replace R1 := Lib.hid (R1.out.grown hg (by first | (simp; done) | (simp; omega) | omega))
  replace R2 := Lib.hid (R2.out.grown hg (by first | (simp; done) | (simp; omega) | omega))
  replace BW := Lib.hid (BW.out.grown hg (by first | (simp; done) | (simp; omega) | omega))
  replace HO := Lib.hid (HO.out.kept hg (own_apart HO.out (by omega)))
  replace HS := Lib.hid hs
  clear hs hg qw
  have dw : Below w3.heap.size w3 (w3.alloc (.cells #[.int .i64 h0, .int .i64 q0] 28)) := by go_grown
  replace R0 := Lib.hid (R0.out.below dw)
  replace R1 := Lib.hid (R1.out.below dw)
  replace R2 := Lib.hid (R2.out.below dw)
  replace BW := Lib.hid (BW.out.below dw)
  replace HO := Lib.hid (own_below HO.out dw)
  replace HS := Lib.hid (HS.out.below dw)
  have BS0 : Hid (Blk (w3.alloc (.cells #[.int .i64 h0, .int .i64 q0] 28)) w3.heap.size 28 #[.int .i64 h0, .int .i64 q0]) := Blk.new _ _ _
  clear dw
  have qw := BW.out.cell 0 rfl
  go_wp2_with fail
  refine (l23DrawState_any W _ _ vb bs _ HS.out (by omega) w1.heap.size _ gs HO.out (by omega) (by first | omega | (simp; omega)) (by have := HL.out; omega)).mono ?_
  rintro e w4 ⟨h1, q1, rfl, hs, hg⟩
  have z4 := hg.size
  simp only [World.size_alloc] at z4
  replace R0 := Lib.hid (R0.out.grown hg (by first | (simp; done) | (simp; omega) | omega))
  replace R1 := Lib.hid (R1.out.grown hg (by first | (simp; done) | (simp; omega) | omega))
  replace R2 := Lib.hid (R2.out.grown hg (by first | (simp; done) | (simp; omega) | omega))
  replace BW := Lib.hid (BW.out.grown hg (by first | (simp; done) | (simp; omega) | omega))
  replace BS0 := Lib.hid (BS0.out.grown hg (by first | (simp; done) | (simp; omega) | omega))
  replace HO := Lib.hid (HO.out.kept hg (own_apart HO.out (by omega)))
  replace HS := Lib.hid hs
  clear hs hg qw
  have dw : Below w4.heap.size w4 (w4.alloc (.cells #[.int .i64 h1, .int .i64 q1] 28)) := by go_grown
  replace R0 := Lib.hid (R0.out.below dw)
  replace R1 := Lib.hid (R1.out.below dw)
  replace R2 := Lib.hid (R2.out.below dw)
  replace BW := Lib.hid (BW.out.below dw)
  replace BS0 := Lib.hid (BS0.out.below dw)
  replace HO := Lib.hid (own_below HO.out dw)
  replace HS := Lib.hid (HS.out.below dw)
  have BS1 : Hid (Blk (w4.alloc (.cells #[.int .i64 h1, .int .i64 q1] 28)) w4.heap.size 28 #[.int .i64 h1, .int .i64 q1]) := Blk.new _ _ _
  clear dw
  have s0 := BW.out.cell 0 rfl
  have s1 := BS0.out.cell 0 rfl
  have s2 := BS0.out.cell 1 rfl
  have s3 := BS1.out.cell 0 rfl
  have s4 := BS1.out.cell 1 rfl
  have HSr := Lib.hid (fun (w' : World) (G : (w4.alloc (.cells #[.int .i64 h1, .int .i64 q1] 28)).grownBy w' (some (W.heap.size + 1 + 1 + 1))) => (⟨(BW.out.grown G (by first | (simp; done) | (simp; omega) | omega)).cell 0 rfl, (BS0.out.grown G (by first | (simp; done) | (simp; omega) | omega)).cell 0 rfl, (BS0.out.grown G (by first | (simp; done) | (simp; omega) | omega)).cell 1 rfl, (BS1.out.grown G (by first | (simp; done) | (simp; omega) | omega)).cell 0 rfl, (BS1.out.grown G (by first | (simp; done) | (simp; omega) | omega)).cell 1 rfl⟩ : w'.cell? ⟨w2.heap.size, 0, none⟩ = some (.slice A gs.length cv) ∧ w'.cell? ⟨w3.heap.size, 0, none⟩ = some (.int .i64 h0) ∧ w'.cell? ⟨w3.heap.size, 1, none⟩ = some (.int .i64 q0) ∧ w'.cell? ⟨w4.heap.size, 0, none⟩ = some (.int .i64 h1) ∧ w'.cell? ⟨w4.heap.size, 1, none⟩ = some (.int .i64 q1)))
  have SB := HSr.out _ (World.grownBy.refl _ _)
  go_wp2_with fail
  have HSk := Lib.hid (show ∀ (w' : World) (p : Addr) (u : Value), p.block ≠ w2.heap.size → p.block ≠ w3.heap.size → p.block ≠ w4.heap.size → (w'.cell? ⟨w2.heap.size, 0, none⟩ = some (.slice A gs.length cv) ∧ w'.cell? ⟨w3.heap.size, 0, none⟩ = some (.int .i64 h0) ∧ w'.cell? ⟨w3.heap.size, 1, none⟩ = some (.int .i64 q0) ∧ w'.cell? ⟨w4.heap.size, 0, none⟩ = some (.int .i64 h1) ∧ w'.cell? ⟨w4.heap.size, 1, none⟩ = some (.int .i64 q1)) → ((w'.setCell p u).cell? ⟨w2.heap.size, 0, none⟩ = some (.slice A gs.length cv) ∧ (w'.setCell p u).cell? ⟨w3.heap.size, 0, none⟩ = some (.int .i64 h0) ∧ (w'.setCell p u).cell? ⟨w3.heap.size, 1, none⟩ = some (.int .i64 q0) ∧ (w'.setCell p u).cell? ⟨w4.heap.size, 0, none⟩ = some (.int .i64 h1) ∧ (w'.setCell p u).cell? ⟨w4.heap.size, 1, none⟩ = some (.int .i64 q1)) from fun w' p u n0 n1 n2 h => ⟨cell_far (by first | exact n0 | exact n1 | exact n2) (h.1), cell_far (by first | exact n0 | exact n1 | exact n2) (h.2.1), cell_far (by first | exact n0 | exact n1 | exact n2) (h.2.2.1), cell_far (by first | exact n0 | exact n1 | exact n2) (h.2.2.2.1), cell_far (by first | exact n0 | exact n1 | exact n2) (h.2.2.2.2)⟩)
  go_region_held3 (fun w' => w'.cell? ⟨w2.heap.size, 0, none⟩ = some (.slice A gs.length cv) ∧ w'.cell? ⟨w3.heap.size, 0, none⟩ = some (.int .i64 h0) ∧ w'.cell? ⟨w3.heap.size, 1, none⟩ = some (.int .i64 q0) ∧ w'.cell? ⟨w4.heap.size, 0, none⟩ = some (.int .i64 h1) ∧ w'.cell? ⟨w4.heap.size, 1, none⟩ = some (.int .i64 q1)) (first | (with_reducible exact SB) | (with_reducible exact SS) | ((repeat' first | (with_reducible exact SB) | (with_reducible exact SS) | (with_reducible refine HSk.out _ _ _ ?_ ?_ ?_ ?_)); all_goals (show _ ≠ _; dsimp only; omega); done) | (refine HSr.out _ (grown_of_below ?_ _); (first | (with_reducible exact Below.refl _ _) | go_grown); done) | go_keep)
    ((go_at_call 75; refine (l23DrawSet_any W _ _ vb bs _ (HS.out.below (by first | (with_reducible exact Below.refl _ _) | go_grown)) (by omega)).mono ?_; rintro e w9 ⟨t, rfl, ht, hs, hg⟩; have G : (w4.alloc (.cells #[.int .i64 h1, .int .i64 q1] 28)).grownBy w9 (some (W.heap.size + 1 + 1 + 1)) := grown_trans (grown_of_below (by first | (with_reducible exact Below.refl _ _) | go_grown) _) hg; have SS := HSr.out _ G; have TR0 := Lib.hid (R0.out.grown G (by first | (simp; done) | (simp; omega) | omega)); have TR1 := Lib.hid (R1.out.grown G (by first | (simp; done) | (simp; omega) | omega)); have TR2 := Lib.hid (R2.out.grown G (by first | (simp; done) | (simp; omega) | omega)); have TBW := Lib.hid (BW.out.grown G (by first | (simp; done) | (simp; omega) | omega)); have TBS0 := Lib.hid (BS0.out.grown G (by first | (simp; done) | (simp; omega) | omega)); have TBS1 := Lib.hid (BS1.out.grown G (by first | (simp; done) | (simp; omega) | omega)); have r0_0 := TR0.out.cell 0 rfl; have rf0_0 := TR0.out.frozen 0; have rz0 := TR0.out.lt; have r1_0 := TR1.out.cell 0 rfl; have rf1_0 := TR1.out.frozen 0; have r1_1 := TR1.out.cell 1 rfl; have rf1_1 := TR1.out.frozen 1; have rz1 := TR1.out.lt; have r2_0 := TR2.out.cell 0 rfl; have rf2_0 := TR2.out.frozen 0; have r2_1 := TR2.out.cell 1 rfl; have rf2_1 := TR2.out.frozen 1; have rz2 := TR2.out.lt; have TO := Lib.hid (HO.out.kept G (own_apart HO.out (by omega))); have TS := Lib.hid hs; have HT := Lib.hid ht; clear hs hg G ht))
  all_goals
    go_wp2
    try simp only [Exit.inBlock, Exit.then]
    refine bodyPost_ret (v := .tuple #[.agg #[.slice A gs.length cv], .agg #[.int .i64 h0, .int .i64 q0], .agg #[.int .i64 h1, .int .i64 q1], .string t]) ?_ rfl ?_
    · simp [results, Tryd.results43, go_sem, r0_0, r1_0, r1_1, r2_0, r2_1]
    · refine HP.out _ _ ⟨_, gs, _, _, _, _, _, rfl, ?_, HL.out, HT.out, ?_⟩
      · exact own_mono (own_setCell (own_setCell (own_setCell (own_setCell (own_setCell TO.out (by first | (simp; done) | (simp; omega) | omega) _) (by first | (simp; done) | (simp; omega) | omega) _) (by first | (simp; done) | (simp; omega) | omega) _) (by first | (simp; done) | (simp; omega) | omega) _) (by first | (simp; done) | (simp; omega) | omega) _) (by omega)
      · have := TS.out.old
        go_grown
end Go.Proofs.YtfddibdncniekaaDoor
