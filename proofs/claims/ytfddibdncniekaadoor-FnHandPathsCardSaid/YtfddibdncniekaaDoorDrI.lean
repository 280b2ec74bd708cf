/- Hands: what l23DrawState and the draws of texts give: some state, some text. (Written by gen_drh2.py.) -/
import Derived.Test.YtfddibdncniekaaDoorDrH
import Derived.Deep.CutBlock
namespace Go.Proofs.YtfddibdncniekaaDoor
open Go.RowKit
attribute [local go_sem ↓] Go.wp_at_zero Go.wp_at_succ

/-- What lies in memory while a state is drawn. -/
structure DsAt (W w : World) (g : Nat) (vb : Value) (bs : List Int) (k base : Nat) (v : Value) (gs : List Int) (wr : World) : Prop where
  src : Src W wr g vb bs k
  gr : w.grownBy wr (some g)
  own : wr.ownsRow base 2 1 v gs.length (I64 gs)
  box : Blk wr w.heap.size 31 #[v]
  res : Blk wr (w.heap.size + 1) 28 #[.int .i64 0, .int .i64 0]
section
variable {W w wr wq : World} {g k k2 base : Nat} {vb v : Value} {bs gs : List Int}
theorem DsAt.draw (h : DsAt W w g vb bs k base v gs wr) (h1 : g < base) (h2 : base ≤ w.heap.size) (hg : wr.grownBy wq (some g)) (hS : Src W wq g vb bs k2) : DsAt W w g vb bs k2 base v gs wq :=
  ⟨hS, grown_trans h.gr hg, h.own.kept hg (own_apart h.own h1), h.box.grown hg (by simp; omega), h.res.grown hg (by simp; omega)⟩
theorem DsAt.below (h : DsAt W w g vb bs k base v gs wr) (hb : Below wr.heap.size wr wq) : DsAt W w g vb bs k base v gs wq :=
  ⟨h.src.below hb, grown_trans h.gr (grown_of_below hb _), own_below h.own hb, h.box.below hb, h.res.below hb⟩
theorem DsAt.mono (h : DsAt W w g vb bs k base v gs wr) (hk : k ≤ k2) : DsAt W w g vb bs k2 base v gs wr := ⟨h.src.mono hk, h.gr, h.own, h.box, h.res⟩
theorem DsAt.sl (h : DsAt W w g vb bs k base v gs wr) : Sl wr v gs := Sl.of_own h.own
end
def StateP (W w : World) (g : Nat) (vb : Value) (bs : List Int) (k : Nat) (e : Ending) (w' : World) : Prop :=
  ∃ h q : Int, e = .returned (.agg #[.int .i64 h, .int .i64 q]) ∧ Src W w' g vb bs k ∧ w.grownBy w' (some g)

set_option maxRecDepth 100000 in
set_option maxHeartbeats 8000000 in
theorem l23DrawState_any (W w : World) (g : Nat) (vb : Value) (bs : List Int) (k : Nat) (h : Src W w g vb bs k) (hk : k ≤ 100000) (base : Nat) (v : Value) (gs : List Int) (ho : w.ownsRow base 2 1 v gs.length (I64 gs)) (hgb : g < base) (hbw : base ≤ w.heap.size) (hl : gs.length ≤ 1000) :
    Calls Tryd.prog 67 #[.pointer (some ⟨g, 0, none⟩), .agg #[v]] w (StateP W w g vb bs (k + 100)) := by
  have HP : Hid (∀ e w', (∃ h q : Int, e = .returned (.agg #[.int .i64 h, .int .i64 q]) ∧ Src W w' g vb bs (k + 100) ∧ w.grownBy w' (some g)) → StateP W w g vb bs (k + 100) e w') := fun e w' h => h
  have hg := h.lt
  have hWg := h.2.1
  obtain ⟨A, C, rfl⟩ := own_form ho
  have hgr0 : w.grownBy ((w.alloc (.cells #[.slice A gs.length C] 31)).alloc (.cells #[.int .i64 0, .int .i64 0] 28)) (some g) := grown_of_below (by go_grown) _
  have H0 : Hid (DsAt W w g vb bs k base (.slice A gs.length C) gs ((w.alloc (.cells #[.slice A gs.length C] 31)).alloc (.cells #[.int .i64 0, .int .i64 0] 28))) :=
    ⟨h.below (by go_grown), hgr0, own_below ho (by go_grown), (bx2 w _ _ _ _).1, (bx2 w _ _ _ _).2⟩
  clear h ho hgr0
  go_enter Tryd.func67, Tryd.ntmps67
  go_wp2_with fail
  refine (pick_any W _ g vb bs k H0.out.src (by omega) _ (by omega)).mono ?_
  rintro e w1 ⟨x, ⟨x0, x1⟩, rfl, hs, hg1⟩
  have H1 := Lib.hid (H0.out.draw hgb hbw hg1 hs)
  have q1 := H1.out.box.cell 0 rfl
  clear hs hg1 H0
  go_wp2_with fail
  refine (pick_any W _ g vb bs _ H1.out.src (by omega) _ (by omega)).mono ?_
  rintro e w2 ⟨y, ⟨y0, y1⟩, rfl, hs, hg2⟩
  have H2 := Lib.hid (H1.out.draw hgb hbw hg2 hs)
  clear hs hg2 H1 q1
  have q1 := H2.out.box.cell 0 rfl
  go_wp2_with fail
  refine (l20Ok_s (.slice A gs.length C) gs _ H2.out.sl).mono ?_
  rintro e w3 ⟨rfl, hb3⟩
  have H3 := Lib.hid (H2.out.below hb3)
  clear hb3 H2 q1
  have q1 := H3.out.box.cell 0 rfl
  cases hw : whB gs with
  | false =>
    go_upto_if 20 with fail
    go_cut [6] (fun a6 wr => ∃ q : Int, a6 = .int .i64 q ∧ DsAt W w g vb bs (k + 8) base (.slice A gs.length C) gs wr)
    case first =>
      go_wp2_with fail
      go_meet
      exact ⟨_, rfl, H3.out.mono (by omega)⟩
    case rest =>
      obtain ⟨w5, rfl⟩ : ∃ x : World, x = wc := ⟨_, rfl⟩
      obtain ⟨q, rfl, hD⟩ := hcut
      have H5 := Lib.hid hD
      clear hD H3 q1
      have q1 := H5.out.box.cell 0 rfl
      go_wp2_with fail
      refine (pick_any W _ g vb bs _ H5.out.src (by omega) _ (by omega)).mono ?_
      rintro e w6 ⟨z, ⟨z0, z1⟩, rfl, hs, hg6⟩
      have H6 := Lib.hid (H5.out.draw hgb hbw hg6 hs)
      clear hs hg6 H5 q1
      have q1 := H6.out.box.cell 0 rfl
      have z6 := H6.out.res.lt
      by_cases h0 : z = 0
      · subst h0
        have k3 : Blk (w6.alloc (.cells #[.int .i64 (-1), .int .i64 12] 2)) w6.heap.size 2 #[.int .i64 (-1), .int .i64 12] := Blk.new _ _ _
        have H7 : Hid (DsAt W w g vb bs (k + 10) base (.slice A gs.length C) gs (w6.alloc (.cells #[.int .i64 (-1), .int .i64 12] 2))) := (H6.out.below (by go_grown)).mono (by omega)
        have K3 := Lib.hid k3
        clear k3
        go_wp2_with fail
        refine (among_any W _ g vb bs _ H7.out.src (by omega) w6.heap.size [-1, 12] 2 (by decide) (by have := H6.out.src.lt; omega) (by simp) (by simp) (cell2' K3.out) K3.out.lt).mono ?_
        rintro e w7 ⟨u, hu, rfl, hs, hg7⟩
        have H8 := Lib.hid (H7.out.draw hgb hbw hg7 hs)
        clear hs hg7 hu H6 H7 K3 q1
        have r0 := H8.out.res.cell 0 rfl
        have r1 := H8.out.res.cell 1 rfl
        have f0 := H8.out.res.frozen 0
        have f1 := H8.out.res.frozen 1
        have z8 := H8.out.res.lt
        go_wp2
        try simp only [Exit.inBlock, Exit.then]
        refine bodyPost_ret (v := .agg #[.int .i64 u, .int .i64 q]) ?_ rfl ?_
        · simp [results, Tryd.results67, go_sem, r0, r1]
        · exact HP.out _ _ ⟨_, _, rfl, (Src.set' (Src.set' H8.out.src (by simp; omega) (by simp; omega) _) (by simp; omega) (by simp; omega) _).mono (by omega), grown_set' (grown_set' H8.out.gr (by simp) _) (by simp) _⟩
      · have hq0 : (z == 0) = false := by simpa using h0
        by_cases h1 : z = 1
        · subst h1
          have k3 : Blk (w6.alloc (.cells #[.int .i64 (-1), .int .i64 (gs.length : Int)] 2)) w6.heap.size 2 #[.int .i64 (-1), .int .i64 (gs.length : Int)] := Blk.new _ _ _
          have H7 : Hid (DsAt W w g vb bs (k + 10) base (.slice A gs.length C) gs (w6.alloc (.cells #[.int .i64 (-1), .int .i64 (gs.length : Int)] 2))) := (H6.out.below (by go_grown)).mono (by omega)
          have K3 := Lib.hid k3
          clear k3
          go_wp2_with fail
          refine (among_any W _ g vb bs _ H7.out.src (by omega) w6.heap.size [-1, (gs.length : Int)] 2 (by decide) (by have := H6.out.src.lt; omega) (by simp) (by simp) (cell2' K3.out) K3.out.lt).mono ?_
          rintro e w7 ⟨u, hu, rfl, hs, hg7⟩
          have H8 := Lib.hid (H7.out.draw hgb hbw hg7 hs)
          clear hs hg7 hu H6 H7 K3 q1
          have r0 := H8.out.res.cell 0 rfl
          have r1 := H8.out.res.cell 1 rfl
          have f0 := H8.out.res.frozen 0
          have f1 := H8.out.res.frozen 1
          have z8 := H8.out.res.lt
          go_wp2
          try simp only [Exit.inBlock, Exit.then]
          refine bodyPost_ret (v := .agg #[.int .i64 x, .int .i64 u]) ?_ rfl ?_
          · simp [results, Tryd.results67, go_sem, r0, r1]
          · exact HP.out _ _ ⟨_, _, rfl, (Src.set' (Src.set' H8.out.src (by simp; omega) (by simp; omega) _) (by simp; omega) (by simp; omega) _).mono (by omega), grown_set' (grown_set' H8.out.gr (by simp) _) (by simp) _⟩
        · have hq1 : (z == 1) = false := by simpa using h1
          have H8 := Lib.hid (H6.out.mono (show k + 8 + 2 ≤ k + 12 by omega))
          clear H6 q1
          have r0 := H8.out.res.cell 0 rfl
          have r1 := H8.out.res.cell 1 rfl
          have f0 := H8.out.res.frozen 0
          have f1 := H8.out.res.frozen 1
          have z8 := H8.out.res.lt
          go_wp2
          try simp only [Exit.inBlock, Exit.then]
          refine bodyPost_ret (v := .agg #[.int .i64 x, .int .i64 q]) ?_ rfl ?_
          · simp [results, Tryd.results67, go_sem, r0, r1]
          · exact HP.out _ _ ⟨_, _, rfl, (Src.set' (Src.set' H8.out.src (by simp; omega) (by simp; omega) _) (by simp; omega) (by simp; omega) _).mono (by omega), grown_set' (grown_set' H8.out.gr (by simp) _) (by simp) _⟩

  | true =>
    have HW := Lib.hid hw
    go_wp2_with fail
    refine (one_any W _ g vb bs _ H3.out.src (by omega) _ (by omega)).mono ?_
    rintro e w4 ⟨b, rfl, hs, hg4⟩
    have H4 := Lib.hid (H3.out.draw hgb hbw hg4 hs)
    clear hs hg4 H3 q1 hw
    have q1 := H4.out.box.cell 0 rfl
    go_upto_if 20 with fail
    go_cut [6] (fun a6 wr => ∃ q : Int, a6 = .int .i64 q ∧ DsAt W w g vb bs (k + 8) base (.slice A gs.length C) gs wr)
    case first =>
      cases b with
      | false =>
        go_wp2_with fail
        go_meet
        exact ⟨_, rfl, H4.out.mono (by omega)⟩
      | true =>
        go_wp2_with fail
        go_loopw [6, 7] (fun a6 a7 wr => ∃ (q : Int) (j : Nat), a6 = .int .i64 q ∧ a7 = .int .i64 (j : Int) ∧ j ≤ gs.length ∧ Hid (DsAt W w g vb bs (k + 8) base (.slice A gs.length C) gs wr)) (fun _ a _ => gs.length - (intOf a).toNat)
        case atStart => exact ⟨y, 0, rfl, by go_num, by omega, Lib.hid (H4.out.mono (by omega))⟩
        case round =>
          obtain ⟨q, j, rfl, rfl, hj, hD⟩ := hrel
          obtain ⟨wi, rfl⟩ : ∃ y : World, y = wr := ⟨_, rfl⟩
          clear H4 q1
          have q1 := hD.out.box.cell 0 rfl
          by_cases hlt : j < gs.length
          · have i1 : (j : Int) < (gs.length : Int) := by omega
            have hsb : hsB gs x (j : Int) = true := hsB_iff.2 ⟨⟨x0, by omega⟩, by omega, by omega⟩
            have HSB := Lib.hid hsb
            clear hsb
            go_wp2_with fail
            refine (l23Right_any (.slice A gs.length C) gs x (j : Int) _ hD.out.sl HW.out HSB.out).mono ?_
            rintro e w5 ⟨rfl, hb5⟩
            have H5 := Lib.hid (hD.out.below hb5)
            clear hb5
            cases hr : rgB gs x (j : Int)
            · clear hr
              go_wp2_with fail
              go_roundw
              case rel => exact ⟨q, j + 1, rfl, by go_num, by omega, H5⟩
              case measure => simp [intOf]; omega
            · clear hr
              go_wp2_with fail
              go_roundw
              case rel => exact ⟨(j : Int), j + 1, rfl, by go_num, by omega, H5⟩
              case measure => simp [intOf]; omega
          · obtain rfl : j = gs.length := by omega
            go_wp2_with fail
            go_meet
            exact ⟨q, rfl, hD.out⟩
    case rest =>
      obtain ⟨w5, rfl⟩ : ∃ x : World, x = wc := ⟨_, rfl⟩
      obtain ⟨q, rfl, hD⟩ := hcut
      have H5 := Lib.hid hD
      clear hD H4 q1
      have q1 := H5.out.box.cell 0 rfl
      go_wp2_with fail
      refine (pick_any W _ g vb bs _ H5.out.src (by omega) _ (by omega)).mono ?_
      rintro e w6 ⟨z, ⟨z0, z1⟩, rfl, hs, hg6⟩
      have H6 := Lib.hid (H5.out.draw hgb hbw hg6 hs)
      clear hs hg6 H5 q1
      have q1 := H6.out.box.cell 0 rfl
      have z6 := H6.out.res.lt
      by_cases h0 : z = 0
      · subst h0
        have k3 : Blk (w6.alloc (.cells #[.int .i64 (-1), .int .i64 12] 2)) w6.heap.size 2 #[.int .i64 (-1), .int .i64 12] := Blk.new _ _ _
        have H7 : Hid (DsAt W w g vb bs (k + 10) base (.slice A gs.length C) gs (w6.alloc (.cells #[.int .i64 (-1), .int .i64 12] 2))) := (H6.out.below (by go_grown)).mono (by omega)
        have K3 := Lib.hid k3
        clear k3
        go_wp2_with fail
        refine (among_any W _ g vb bs _ H7.out.src (by omega) w6.heap.size [-1, 12] 2 (by decide) (by have := H6.out.src.lt; omega) (by simp) (by simp) (cell2' K3.out) K3.out.lt).mono ?_
        rintro e w7 ⟨u, hu, rfl, hs, hg7⟩
        have H8 := Lib.hid (H7.out.draw hgb hbw hg7 hs)
        clear hs hg7 hu H6 H7 K3 q1
        have r0 := H8.out.res.cell 0 rfl
        have r1 := H8.out.res.cell 1 rfl
        have f0 := H8.out.res.frozen 0
        have f1 := H8.out.res.frozen 1
        have z8 := H8.out.res.lt
        go_wp2
        try simp only [Exit.inBlock, Exit.then]
        refine bodyPost_ret (v := .agg #[.int .i64 u, .int .i64 q]) ?_ rfl ?_
        · simp [results, Tryd.results67, go_sem, r0, r1]
        · exact HP.out _ _ ⟨_, _, rfl, (Src.set' (Src.set' H8.out.src (by simp; omega) (by simp; omega) _) (by simp; omega) (by simp; omega) _).mono (by omega), grown_set' (grown_set' H8.out.gr (by simp) _) (by simp) _⟩
      · have hq0 : (z == 0) = false := by simpa using h0
        by_cases h1 : z = 1
        · subst h1
          have k3 : Blk (w6.alloc (.cells #[.int .i64 (-1), .int .i64 (gs.length : Int)] 2)) w6.heap.size 2 #[.int .i64 (-1), .int .i64 (gs.length : Int)] := Blk.new _ _ _
          have H7 : Hid (DsAt W w g vb bs (k + 10) base (.slice A gs.length C) gs (w6.alloc (.cells #[.int .i64 (-1), .int .i64 (gs.length : Int)] 2))) := (H6.out.below (by go_grown)).mono (by omega)
          have K3 := Lib.hid k3
          clear k3
          go_wp2_with fail
          refine (among_any W _ g vb bs _ H7.out.src (by omega) w6.heap.size [-1, (gs.length : Int)] 2 (by decide) (by have := H6.out.src.lt; omega) (by simp) (by simp) (cell2' K3.out) K3.out.lt).mono ?_
          rintro e w7 ⟨u, hu, rfl, hs, hg7⟩
          have H8 := Lib.hid (H7.out.draw hgb hbw hg7 hs)
          clear hs hg7 hu H6 H7 K3 q1
          have r0 := H8.out.res.cell 0 rfl
          have r1 := H8.out.res.cell 1 rfl
          have f0 := H8.out.res.frozen 0
          have f1 := H8.out.res.frozen 1
          have z8 := H8.out.res.lt
          go_wp2
          try simp only [Exit.inBlock, Exit.then]
          refine bodyPost_ret (v := .agg #[.int .i64 x, .int .i64 u]) ?_ rfl ?_
          · simp [results, Tryd.results67, go_sem, r0, r1]
          · exact HP.out _ _ ⟨_, _, rfl, (Src.set' (Src.set' H8.out.src (by simp; omega) (by simp; omega) _) (by simp; omega) (by simp; omega) _).mono (by omega), grown_set' (grown_set' H8.out.gr (by simp) _) (by simp) _⟩
        · have hq1 : (z == 1) = false := by simpa using h1
          have H8 := Lib.hid (H6.out.mono (show k + 8 + 2 ≤ k + 12 by omega))
          clear H6 q1
          have r0 := H8.out.res.cell 0 rfl
          have r1 := H8.out.res.cell 1 rfl
          have f0 := H8.out.res.frozen 0
          have f1 := H8.out.res.frozen 1
          have z8 := H8.out.res.lt
          go_wp2
          try simp only [Exit.inBlock, Exit.then]
          refine bodyPost_ret (v := .agg #[.int .i64 x, .int .i64 q]) ?_ rfl ?_
          · simp [results, Tryd.results67, go_sem, r0, r1]
          · exact HP.out _ _ ⟨_, _, rfl, (Src.set' (Src.set' H8.out.src (by simp; omega) (by simp; omega) _) (by simp; omega) (by simp; omega) _).mono (by omega), grown_set' (grown_set' H8.out.gr (by simp) _) (by simp) _⟩

end Go.Proofs.YtfddibdncniekaaDoor
