/- Racks: SnailHour, PullCord, and the copies and comparisons of states, in the program and in the reference. -/
import Derived.Test.YtdlegcjcmhpbcaaRkT
namespace Go.Proofs.Ytdlegcjcmhpbcaa
open Go.RowKit
attribute [local go_sem ↓] Go.wp_at_zero Go.wp_at_succ
attribute [local go_sem] cell?_grow frozen?_grow


set_option maxHeartbeats 1000000 in
theorem SnailHour_i (v : Value) (ds : List Int) (wn m : Int) (w : World) (hv : Sl w v ds) :
    Calls Try.prog 10 #[.agg #[v, .int .i64 wn], .int .i64 m] w fun e w' => e = .returned (.tuple #[.int .i64 (shA ds wn m), .int .i64 (shC ds wn m)]) ∧ Below w.heap.size w w' := by
  have h1 := Lib.hid (fun w' (hb : Below w.heap.size w w') => ValidRack_i v ds wn w' (hv.below hb))
  clear hv
  by_cases hr : RkOk ds wn
  · have HB := Lib.hid (rkB_iff.2 hr)
    have g1 := hr.2.2.1
    have g2 := hr.2.2.2
    by_cases hm : 0 ≤ m ∧ m ≤ 719
    · have e1 := inB_t hm.1 hm.2
      have HR : Hid (shA ds wn m = snail wn m ∧ shC ds wn m = 0) := ⟨by rw [shA, if_pos ⟨hr, e1⟩], by rw [shC, if_pos hr, if_pos e1]⟩
      obtain ⟨h3, h4⟩ := hm
      clear hr
      go_enter Try.func10, Try.ntmps10
      go_wp2_with fail
      refine (h1.out _ (by go_grown)).mono ?_
      rintro e w1 ⟨rfl, hb1⟩
      rw [HB.out]
      have k1 := (Blk.new w 26 #[v, .int .i64 wn]).below hb1
      have q0 := k1.cell 0 rfl
      have q1 := k1.cell 1 rfl
      have B1 : Below w.heap.size w w1 := Below.trans (by go_grown) (hb1.mono (by simp))
      clear k1 hb1
      go_wp2_with (go_at_call 24; refine (isRackMinute_any _ _).mono ?_; rintro e w' ⟨rfl, rfl⟩)
      refine (snailHour_any _ wn m _ g1 g2 h3 h4).mono ?_
      rintro e w2 ⟨rfl, hb2⟩
      go_wp2
      go_ret2
      exact ⟨ret_ii HR.out.1.symm HR.out.2.symm, B1.trans (hb2.mono B1.size)⟩
    · have e1 := inB_no hm
      have HR : Hid (shA ds wn m = 0 ∧ shC ds wn m = 2) := ⟨by rw [shA, if_neg (by simp [e1])], by rw [shC, if_pos hr, if_neg (by simp [e1])]⟩
      clear hr hm
      go_enter Try.func10, Try.ntmps10
      go_wp2_with fail
      refine (h1.out _ (by go_grown)).mono ?_
      rintro e w1 ⟨rfl, hb1⟩
      rw [HB.out]
      have B1 : Below w.heap.size w w1 := Below.trans (by go_grown) (hb1.mono (by simp))
      go_wp2_with (go_at_call 24; refine (isRackMinute_any _ _).mono ?_; rintro e w' ⟨rfl, rfl⟩)
      go_ret2
      exact ⟨ret_ii HR.out.1.symm HR.out.2.symm, B1⟩
  · have HB := Lib.hid (rkB_no hr)
    have HR : Hid (shA ds wn m = 0 ∧ shC ds wn m = 1) := ⟨by rw [shA, if_neg (fun e => hr e.1)], by rw [shC, if_neg hr]⟩
    clear hr
    go_enter Try.func10, Try.ntmps10
    go_wp2_with fail
    refine (h1.out _ (by go_grown)).mono ?_
    rintro e w1 ⟨rfl, hb1⟩
    rw [HB.out]
    go_wp2
    go_ret2
    exact ⟨ret_ii HR.out.1.symm HR.out.2.symm, Below.trans (by go_grown) (hb1.mono (by simp))⟩

set_option maxHeartbeats 1000000 in
theorem SnailHour_s (v : Value) (ds : List Int) (wn m : Int) (w : World) (hv : Sl w v ds) :
    Calls Try.prog 11 #[.agg #[v, .int .i64 wn], .int .i64 m] w fun e w' => e = .returned (.tuple #[.int .i64 (shA ds wn m), .int .i64 (shC ds wn m)]) ∧ Below w.heap.size w w' := by
  have h1 := Lib.hid (fun w' (hb : Below w.heap.size w w') => l21Ok_s v ds wn w' (hv.below hb))
  clear hv
  by_cases hr : RkOk ds wn
  · have HB := Lib.hid (rkB_iff.2 hr)
    have g1 := hr.2.2.1
    have g2 := hr.2.2.2
    by_cases hm : 0 ≤ m ∧ m ≤ 719
    · have e1 := inB_t hm.1 hm.2
      have HR : Hid (shA ds wn m = snail wn m ∧ shC ds wn m = 0) := ⟨by rw [shA, if_pos ⟨hr, e1⟩], by rw [shC, if_pos hr, if_pos e1]⟩
      obtain ⟨h3, h4⟩ := hm
      clear hr
      go_enter Try.func11, Try.ntmps11
      go_wp2_with fail
      refine (h1.out _ (by go_grown)).mono ?_
      rintro e w1 ⟨rfl, hb1⟩
      rw [HB.out]
      have k1 := (Blk.new w 26 #[v, .int .i64 wn]).below hb1
      have q0 := k1.cell 0 rfl
      have q1 := k1.cell 1 rfl
      have B1 : Below w.heap.size w w1 := Below.trans (by go_grown) (hb1.mono (by simp))
      clear k1 hb1
      go_wp2_with (go_at_call 27; refine (l00In_any _ _ _ _).mono ?_; rintro e w' ⟨rfl, rfl⟩)
      refine (l21Hour_any _ wn m _ g1 g2 h3 h4).mono ?_
      rintro e w2 ⟨rfl, hb2⟩
      go_wp2
      go_ret2
      exact ⟨ret_ii HR.out.1.symm HR.out.2.symm, B1.trans (hb2.mono B1.size)⟩
    · have e1 := inB_no hm
      have HR : Hid (shA ds wn m = 0 ∧ shC ds wn m = 2) := ⟨by rw [shA, if_neg (by simp [e1])], by rw [shC, if_pos hr, if_neg (by simp [e1])]⟩
      clear hr hm
      go_enter Try.func11, Try.ntmps11
      go_wp2_with fail
      refine (h1.out _ (by go_grown)).mono ?_
      rintro e w1 ⟨rfl, hb1⟩
      rw [HB.out]
      have B1 : Below w.heap.size w w1 := Below.trans (by go_grown) (hb1.mono (by simp))
      go_wp2_with (go_at_call 27; refine (l00In_any _ _ _ _).mono ?_; rintro e w' ⟨rfl, rfl⟩)
      go_ret2
      exact ⟨ret_ii HR.out.1.symm HR.out.2.symm, B1⟩
  · have HB := Lib.hid (rkB_no hr)
    have HR : Hid (shA ds wn m = 0 ∧ shC ds wn m = 1) := ⟨by rw [shA, if_neg (fun e => hr e.1)], by rw [shC, if_neg hr]⟩
    clear hr
    go_enter Try.func11, Try.ntmps11
    go_wp2_with fail
    refine (h1.out _ (by go_grown)).mono ?_
    rintro e w1 ⟨rfl, hb1⟩
    rw [HB.out]
    go_wp2
    go_ret2
    exact ⟨ret_ii HR.out.1.symm HR.out.2.symm, Below.trans (by go_grown) (hb1.mono (by simp))⟩

/-! The copy of a state; equality of states. -/
set_option maxHeartbeats 1000000 in
theorem toRackState_any (m rd : Int) (w : World) :
    Calls Try.prog 14 #[.agg #[.int .i64 m, .int .i64 rd]] w fun e w' => e = .returned (.agg #[.int .i64 m, .int .i64 rd]) ∧ Below w.heap.size w w' := by
  go_enter Try.func14, Try.ntmps14
  go_wp2
  try simp only [Exit.inBlock, Exit.then]
  refine bodyPost_ret (v := .agg #[.int .i64 m, .int .i64 rd]) ?_ rfl ?_
  · simp [results, Try.results14, go_sem]
  exact ⟨rfl, by go_grown⟩

end Go.Proofs.Ytdlegcjcmhpbcaa
