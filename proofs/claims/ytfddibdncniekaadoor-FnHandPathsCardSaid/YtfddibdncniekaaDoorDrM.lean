/- Hands: the draws that only wrap l23DrawAll. -/
import Derived.Test.YtfddibdncniekaaDoorDrK
namespace Go.Proofs.YtfddibdncniekaaDoor
open Go.RowKit
attribute [local go_sem ↓] Go.wp_at_zero Go.wp_at_succ

set_option maxHeartbeats 4000000 in
theorem DrawReachableHands_any (vb : Value) (bs : List Int) (W : World) (hv : SlB W vb bs) :
    Calls Tryd.prog 50 #[vb] W (AllP W) := by
  have HP : Hid (∀ e w', (∃ (v : Value) (gs : List Int) (h0 q0 : Int) (t : ByteArray), e = .returned (.tuple #[.agg #[v], .agg #[.int .i64 h0, .int .i64 q0], .string t]) ∧ w'.ownsRow W.heap.size 2 1 v gs.length (I64 gs) ∧ gs.length ≤ 100 ∧ t.size ≤ 300 ∧ Below W.heap.size W w') → AllP W e w') := fun e w' h => h
  have HV := Lib.hid (fun w (hb : Below W.heap.size W w) => l23DrawAll_any vb bs w (hv.below hb))
  obtain ⟨A, c, rfl, _, _, _⟩ := hv.open_
  clear hv
  go_enter Tryd.func50, Tryd.ntmps50
  have HK := Lib.hid (bx2 W 31 28 #[.slice none 0 0] #[.int .i64 0, .int .i64 0])
  go_wp2_with fail
  refine (HV.out _ (by go_grown)).mono ?_
  rintro e w1 ⟨v, gs, h0, q0, t, rfl, ho, hl, ht, hb⟩
  obtain ⟨A1, c1, rfl⟩ := own_form ho
  have R0 := HK.out.1.below hb
  have R1 := HK.out.2.below hb
  have r0 := R0.cell 0 rfl
  have r1 := R1.cell 0 rfl
  have r2 := R1.cell 1 rfl
  have f0 := R0.frozen 0
  have f1 := R1.frozen 0
  have f2 := R1.frozen 1
  have z1 := R1.lt
  have HO := Lib.hid ho
  have HL := Lib.hid hl
  have HT := Lib.hid ht
  have HB := Lib.hid (show Below W.heap.size W w1 from Below.trans (by go_grown) (hb.mono (by simp; omega)))
  clear ho hl ht hb R0 R1
  go_wp2
  try simp only [Exit.inBlock, Exit.then]
  refine bodyPost_ret (v := .tuple #[.agg #[.slice A1 gs.length c1], .agg #[.int .i64 h0, .int .i64 q0], .string t]) ?_ rfl ?_
  · simp [results, Tryd.results50, go_sem, r0, r1, r2]
  · exact HP.out _ _ ⟨_, gs, _, _, _, rfl, own_mono (own_setCell (own_setCell (own_setCell HO.out (by first | (simp; done) | (simp; omega)) _) (by first | (simp; done) | (simp; omega)) _) (by first | (simp; done) | (simp; omega)) _) (by first | omega | (simp; omega)), HL.out, HT.out, by have := HB.out; go_grown⟩
set_option maxHeartbeats 4000000 in
theorem DrawPathToWrong_any (vb : Value) (bs : List Int) (W : World) (hv : SlB W vb bs) :
    Calls Tryd.prog 44 #[vb] W (AllP W) := by
  have HP : Hid (∀ e w', (∃ (v : Value) (gs : List Int) (h0 q0 : Int) (t : ByteArray), e = .returned (.tuple #[.agg #[v], .agg #[.int .i64 h0, .int .i64 q0], .string t]) ∧ w'.ownsRow W.heap.size 2 1 v gs.length (I64 gs) ∧ gs.length ≤ 100 ∧ t.size ≤ 300 ∧ Below W.heap.size W w') → AllP W e w') := fun e w' h => h
  have HV := Lib.hid (fun w (hb : Below W.heap.size W w) => l23DrawAll_any vb bs w (hv.below hb))
  obtain ⟨A, c, rfl, _, _, _⟩ := hv.open_
  clear hv
  go_enter Tryd.func44, Tryd.ntmps44
  have HK := Lib.hid (bx2 W 31 28 #[.slice none 0 0] #[.int .i64 0, .int .i64 0])
  go_wp2_with fail
  refine (HV.out _ (by go_grown)).mono ?_
  rintro e w1 ⟨v, gs, h0, q0, t, rfl, ho, hl, ht, hb⟩
  obtain ⟨A1, c1, rfl⟩ := own_form ho
  have R0 := HK.out.1.below hb
  have R1 := HK.out.2.below hb
  have r0 := R0.cell 0 rfl
  have r1 := R1.cell 0 rfl
  have r2 := R1.cell 1 rfl
  have f0 := R0.frozen 0
  have f1 := R1.frozen 0
  have f2 := R1.frozen 1
  have z1 := R1.lt
  have HO := Lib.hid ho
  have HL := Lib.hid hl
  have HT := Lib.hid ht
  have HB := Lib.hid (show Below W.heap.size W w1 from Below.trans (by go_grown) (hb.mono (by simp; omega)))
  clear ho hl ht hb R0 R1
  go_wp2
  try simp only [Exit.inBlock, Exit.then]
  refine bodyPost_ret (v := .tuple #[.agg #[.slice A1 gs.length c1], .agg #[.int .i64 h0, .int .i64 q0], .string t]) ?_ rfl ?_
  · simp [results, Tryd.results44, go_sem, r0, r1, r2]
  · exact HP.out _ _ ⟨_, gs, _, _, _, rfl, own_mono (own_setCell (own_setCell (own_setCell HO.out (by first | (simp; done) | (simp; omega)) _) (by first | (simp; done) | (simp; omega)) _) (by first | (simp; done) | (simp; omega)) _) (by first | omega | (simp; omega)), HL.out, HT.out, by have := HB.out; go_grown⟩
/-- What a draw of wheel and state leaves. -/
def BothP (W : World) (e : Ending) (w' : World) : Prop := ∃ (v : Value) (gs : List Int) (h0 q0 : Int), e = .returned (.tuple #[.agg #[v], .agg #[.int .i64 h0, .int .i64 q0]]) ∧ w'.ownsRow W.heap.size 2 1 v gs.length (I64 gs) ∧ gs.length ≤ 100 ∧ Below W.heap.size W w'
set_option maxHeartbeats 4000000 in
theorem DrawValidHands_any (vb : Value) (bs : List Int) (W : World) (hv : SlB W vb bs) :
    Calls Tryd.prog 72 #[vb] W (BothP W) := by
  have HP : Hid (∀ e w', (∃ (v : Value) (gs : List Int) (h0 q0 : Int), e = .returned (.tuple #[.agg #[v], .agg #[.int .i64 h0, .int .i64 q0]]) ∧ w'.ownsRow W.heap.size 2 1 v gs.length (I64 gs) ∧ gs.length ≤ 100 ∧ Below W.heap.size W w') → BothP W e w') := fun e w' h => h
  have HV := Lib.hid (fun w (hb : Below W.heap.size W w) => l23DrawAll_any vb bs w (hv.below hb))
  obtain ⟨A, c, rfl, _, _, _⟩ := hv.open_
  clear hv
  go_enter Tryd.func72, Tryd.ntmps72
  have HK := Lib.hid (bx2 W 31 28 #[.slice none 0 0] #[.int .i64 0, .int .i64 0])
  go_wp2_with fail
  refine (HV.out _ (by go_grown)).mono ?_
  rintro e w1 ⟨v, gs, h0, q0, t, rfl, ho, hl, ht, hb⟩
  obtain ⟨A1, c1, rfl⟩ := own_form ho
  have R0 := HK.out.1.below hb
  have R1 := HK.out.2.below hb
  obtain ⟨N0, N1⟩ := bx2 w1 31 28 #[.slice A1 gs.length c1] #[.int .i64 h0, .int .i64 q0]
  obtain ⟨w2, hw2⟩ : ∃ w2, w2 = (w1.alloc (.cells #[.slice A1 gs.length c1] 31)).alloc (.cells #[.int .i64 h0, .int .i64 q0] 28) := ⟨_, rfl⟩
  have db : Below w1.heap.size w1 w2 := by rw [hw2]; go_grown
  have z2 : w2.heap.size = w1.heap.size + 1 + 1 := by rw [hw2]; simp
  rw [← hw2] at N0 N1
  have R2 := R0.below db
  have R3 := R1.below db
  have r0 := R2.cell 0 rfl
  have r1 := R3.cell 0 rfl
  have r2 := R3.cell 1 rfl
  have f0 := R2.frozen 0
  have f1 := R3.frozen 0
  have f2 := R3.frozen 1
  have s0 := N0.cell 0 rfl
  have s1 := N1.cell 0 rfl
  have s2 := N1.cell 1 rfl
  have z1 := R1.lt
  have n1 : ¬ w1.heap.size = W.heap.size := by omega
  have n2 : ¬ w1.heap.size = W.heap.size + 1 := by omega
  have n3 : ¬ w1.heap.size + 1 = W.heap.size := by omega
  have n4 : ¬ w1.heap.size + 1 = W.heap.size + 1 := by omega
  have HO := Lib.hid (own_below ho db)
  have HL := Lib.hid hl
  have HB := Lib.hid (show Below W.heap.size W w2 from (Below.trans (by go_grown) (hb.mono (by simp; omega))).trans (db.mono (by omega)))
  have HW2 := Lib.hid hw2
  have HZ2 := Lib.hid z2
  have zz : W.heap.size + 1 < w2.heap.size := by omega
  have zz2 : w1.heap.size < w2.heap.size := by omega
  have zz3 : w1.heap.size + 1 < w2.heap.size := by omega
  clear ho hl ht hb R0 R1 R2 R3 N0 N1 db hw2 z2
  go_upto_region 2 with fail
  rw [← HW2.out]
  go_region
  all_goals (
    try go_wp2
    try simp only [Exit.inBlock, Exit.then]
    refine bodyPost_ret (v := .tuple #[.agg #[.slice A1 gs.length c1], .agg #[.int .i64 h0, .int .i64 q0]]) ?_ rfl ?_
    · simp [results, Tryd.results72, go_sem, r0, r1, r2]
    · exact HP.out _ _ ⟨_, gs, _, _, rfl, own_mono (own_setCell (own_setCell (own_setCell HO.out (by first | (simp; done) | (simp; omega)) _) (by first | (simp; done) | (simp; omega)) _) (by first | (simp; done) | (simp; omega)) _) (by first | omega | (simp; omega)), HL.out, by have := HB.out; go_grown⟩)
set_option maxHeartbeats 4000000 in
theorem DrawLiftsToRight_any (vb : Value) (bs : List Int) (W : World) (hv : SlB W vb bs) :
    Calls Tryd.prog 36 #[vb] W (BothP W) := by
  have HP : Hid (∀ e w', (∃ (v : Value) (gs : List Int) (h0 q0 : Int), e = .returned (.tuple #[.agg #[v], .agg #[.int .i64 h0, .int .i64 q0]]) ∧ w'.ownsRow W.heap.size 2 1 v gs.length (I64 gs) ∧ gs.length ≤ 100 ∧ Below W.heap.size W w') → BothP W e w') := fun e w' h => h
  have HV := Lib.hid (fun w (hb : Below W.heap.size W w) => DrawValidHands_any vb bs w (hv.below hb))
  obtain ⟨A, c, rfl, _, _, _⟩ := hv.open_
  clear hv
  go_enter Tryd.func36, Tryd.ntmps36
  have HK := Lib.hid (bx2 W 31 28 #[.slice none 0 0] #[.int .i64 0, .int .i64 0])
  go_wp2_with fail
  refine (HV.out _ (by go_grown)).mono ?_
  rintro e w1 ⟨v, gs, h0, q0, rfl, ho, hl, hb⟩
  obtain ⟨A1, c1, rfl⟩ := own_form ho
  have R0 := HK.out.1.below hb
  have R1 := HK.out.2.below hb
  have r0 := R0.cell 0 rfl
  have r1 := R1.cell 0 rfl
  have r2 := R1.cell 1 rfl
  have f0 := R0.frozen 0
  have f1 := R1.frozen 0
  have f2 := R1.frozen 1
  have z1 := R1.lt
  have HO := Lib.hid ho
  have HL := Lib.hid hl
  have HB := Lib.hid (show Below W.heap.size W w1 from Below.trans (by go_grown) (hb.mono (by simp; omega)))
  clear ho hl hb R0 R1
  go_wp2
  try simp only [Exit.inBlock, Exit.then]
  refine bodyPost_ret (v := .tuple #[.agg #[.slice A1 gs.length c1], .agg #[.int .i64 h0, .int .i64 q0]]) ?_ rfl ?_
  · simp [results, Tryd.results36, go_sem, r0, r1, r2]
  · exact HP.out _ _ ⟨_, gs, _, _, rfl, own_mono (own_setCell (own_setCell (own_setCell HO.out (by first | (simp; done) | (simp; omega)) _) (by first | (simp; done) | (simp; omega)) _) (by first | (simp; done) | (simp; omega)) _) (by first | omega | (simp; omega)), HL.out, by have := HB.out; go_grown⟩
end Go.Proofs.YtfddibdncniekaaDoor
