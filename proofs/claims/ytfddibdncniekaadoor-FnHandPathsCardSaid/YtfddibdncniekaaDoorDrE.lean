/- Count wheels: what l20Bent, l20At and DrawCopyWheel draw: some wheel, some numbers. -/
import Derived.Test.YtfddibdncniekaaDoorDrD
import Derived.Handy
namespace Go.Proofs.YtfddibdncniekaaDoor
open Go.RowKit
attribute [local go_sem ↓] Go.wp_at_zero Go.wp_at_succ

theorem cell3' {w : World} {g : Nat} {t : TypeId} {a b c : Int} (h : Blk w g t #[.int .i64 a, .int .i64 b, .int .i64 c]) : ∀ j, j < [a, b, c].length → w.cell? ⟨g, j, none⟩ = some (.int .i64 (ix [a, b, c] j)) := by
  intro j hj
  have hj' : j < 3 := hj
  rcases (show j = 0 ∨ j = 1 ∨ j = 2 by omega) with rfl | rfl | rfl
  · exact h.cell 0 rfl
  · exact h.cell 1 rfl
  · exact h.cell 2 rfl
theorem cell2' {w : World} {g : Nat} {t : TypeId} {a b : Int} (h : Blk w g t #[.int .i64 a, .int .i64 b]) : ∀ j, j < [a, b].length → w.cell? ⟨g, j, none⟩ = some (.int .i64 (ix [a, b] j)) := by
  intro j hj
  have hj' : j < 2 := hj
  rcases (show j = 0 ∨ j = 1 by omega) with rfl | rfl
  · exact h.cell 0 rfl
  · exact h.cell 1 rfl
theorem I64_set' (xs : List Int) (i : Nat) (x : Int) : (I64 xs).set i (.int .i64 x) = I64 (xs.set i x) := by simp [I64, List.map_set]
theorem own_apart {w : World} {base g : Nat} {v : Value} {n : Nat} {xs : List Value} {e : TypeId} (h : w.ownsRow base e 1 v n xs) (hg : g < base) : v.ownBlock = none ∨ v.ownBlock ≠ some g := by
  cases hv : v.ownBlock with
  | none => exact Or.inl rfl
  | some j => exact Or.inr fun e => by have := (h.lt j hv).1; cases e; omega


set_option maxRecDepth 100000 in
set_option maxHeartbeats 8000000 in
theorem l20Bent_any (W w : World) (g : Nat) (vb : Value) (bs : List Int) (k : Nat) (h : Src W w g vb bs k) (hk : k ≤ 10000) :
    Calls Tryd.prog 86 #[.pointer (some ⟨g, 0, none⟩)] w (WheelPost W w g vb bs (k + 200) 0) := by
  have HP : Hid (∀ e w', (∃ (v : Value) (gs : List Int), e = .returned (.agg #[v]) ∧ w'.ownsRow w.heap.size 2 1 v gs.length (I64 gs) ∧ (0 ≤ gs.length ∧ gs.length ≤ 25) ∧ Src W w' g vb bs (k + 200) ∧ w.grownBy w' (some g)) → WheelPost W w g vb bs (k + 200) 0 e w') := fun e w' h => h
  have hg := h.lt
  have hWg := h.2.1
  have HS := Lib.hid h
  clear h
  go_enter Tryd.func86, Tryd.ntmps86
  go_wp2_with fail
  refine (l20Draw_any W _ g vb bs k (HS.out.below (by go_grown)) (by omega)).mono ?_
  rintro e w1 ⟨v, gs, rfl, ho, ⟨l1, l2⟩, hs, hg1⟩
  obtain ⟨bv, cv, rfl, _⟩ := ho.form (by omega)
  simp only [World.size_alloc] at ho
  have B1 : Hid (Blk w1 w.heap.size 31 #[.slice none 0 0]) := (Blk.new w _ _).grown hg1 (by first | (simp; done) | (simp; omega) | omega)
  have G1 : Hid (w.grownBy w1 (some g)) := grown_trans (grown_of_below (by go_grown) _) hg1
  have S1 := Lib.hid hs
  have hb1 := (ho.lt bv rfl).1
  have hb2 := (ho.lt bv rfl).2
  have O1 := Lib.hid ho
  have z1 : w.heap.size < w1.heap.size := B1.out.lt
  clear hs hg1 ho
  have da : Below w1.heap.size w1 (w1.alloc (.cells #[.slice (some ⟨bv, 0, none⟩) gs.length cv] 31)) := by go_grown
  have C1 : Hid (Blk (w1.alloc (.cells #[.slice (some ⟨bv, 0, none⟩) gs.length cv] 31)) w1.heap.size 31 #[.slice (some ⟨bv, 0, none⟩) gs.length cv]) := Blk.new _ _ _
  have B2 := Lib.hid (B1.out.below da)
  have O2 := Lib.hid (own_below O1.out da)
  have S2 := Lib.hid (S1.out.below da)
  have G2 := Lib.hid (grown_trans G1.out (grown_of_below da _))
  clear da
  go_wp2_with fail
  refine (pick_any W _ g vb bs _ S2.out (by omega) _ (by omega)).mono ?_
  rintro e w3 ⟨x, ⟨x0, x1⟩, rfl, hs, hg3⟩
  obtain ⟨X, rfl⟩ := Int.eq_ofNat_of_zero_le x0
  have hX : X < gs.length := by omega
  have C3 := Lib.hid (C1.out.grown hg3 (by first | (simp; done) | (simp; omega) | omega))
  have B3 := Lib.hid (B2.out.grown hg3 (by first | (simp; done) | (simp; omega) | omega))
  have O3 := Lib.hid (O2.out.kept hg3 (own_apart O2.out (by omega)))
  have S3 := Lib.hid hs
  have G3 := Lib.hid (grown_trans G2.out hg3)
  clear hs hg3 x0 x1 C1 B2 O2 S2 G2
  go_wp2_with fail
  refine (pick_any W _ g vb bs _ S3.out (by omega) _ (by omega)).mono ?_
  rintro e w4 ⟨y, ⟨y0, y1⟩, rfl, hs, hg4⟩
  have C4 := Lib.hid (C3.out.grown hg4 (by first | (simp; done) | (simp; omega) | omega))
  have B4 := Lib.hid (B3.out.grown hg4 (by first | (simp; done) | (simp; omega) | omega))
  have O4 := Lib.hid (O3.out.kept hg4 (own_apart O3.out (by omega)))
  have S4 := Lib.hid hs
  have G4 := Lib.hid (grown_trans G3.out hg4)
  clear hs hg4 C3 B3 O3 S3 G3
  have q0 := C4.out.cell 0 rfl
  have f0 := C4.out.frozen 0
  have z0 := C4.out.lt
  have n1 : ¬ bv = w1.heap.size := by omega
  have n2 : ¬ w1.heap.size = bv := by omega
  have n3 : ¬ w.heap.size = w1.heap.size := by omega
  have n4 : ¬ w1.heap.size = w.heap.size := by omega
  by_cases h0 : y = 0
  · subst h0
    have i1 : (X : Int) < (gs.length : Int) := by omega
    go_wp2_with fail
    go_region_held3 (fun w' => w'.cell? ⟨w1.heap.size, 0, none⟩ = some (.slice (some ⟨bv, 0, none⟩) gs.length cv)) (first | (with_reducible exact q0) | ((try dsimp only); (simp [go_sem, *]; done)) | go_keep)
      (first
        | (go_at_call 91; (first | ((with_reducible show Calls _ _ #[_, .slice (some ⟨w4.heap.size, 0, none⟩) _ _] _ _); (have k3 := Blk.new w4 2 #[.int .i64 0, .int .i64 12, .int .i64 13]); refine (among_any W _ g vb bs _ (S4.out.below (by first | (with_reducible exact Below.refl _ _) | go_grown)) (by omega) w4.heap.size [0, 12, 13] 3 (by decide) (by have := S4.out.lt; omega) (by decide) (by decide) (by first | exact cell3' k3 | exact cell3' k3.drew) (by first | exact k3.lt | exact k3.drew.lt)).mono ?_; clear k3)); rintro e w5 ⟨x6, hx6, rfl, hs5, hg5⟩; have G5 : w4.grownBy w5 (some g) := (grown_trans (grown_of_below (by first | (with_reducible exact Below.refl _ _) | go_grown) _) hg5); have HG5 := Lib.hid G5; have B5 := Lib.hid (B4.out.grown G5 (by first | (simp; done) | (simp; omega) | omega)); have C5 := Lib.hid (C4.out.grown G5 (by first | (simp; done) | (simp; omega) | omega)); have r0 := B5.out.cell 0 rfl; have rf0 := B5.out.frozen 0; have rz := B5.out.lt; have q0 := C5.out.cell 0 rfl; have z0 := C5.out.lt; have O5 := O4.out.kept G5 (own_apart O4.out (by omega)); have co := O5.cellAt X (by rw [Nat.mul_one]; exact hX); rw [I64_get hX] at co; have fz := O5.frozenAt X; have T5 := O5.stored X (.int .i64 x6); rw [I64_set'] at T5; have HT := Lib.hid T5.1; have HS5 := Lib.hid hs5; have n5 : ¬ bv = w.heap.size := (by omega); have n6 : ¬ w.heap.size = bv := (by omega); clear T5 O5 hs5 hg5 G5 hx6))
    all_goals
      have G6 := Lib.hid (grown_trans G4.out HG5.out)
      go_wp2
      try simp only [Exit.inBlock, Exit.then]
      refine bodyPost_ret (v := .agg #[.slice (some ⟨bv, 0, none⟩) gs.length cv]) ?_ rfl ?_
      · simp [results, Tryd.results86, go_sem, *]
      · refine HP.out _ _ ⟨_, gs.set X x6, rfl, ?_, ⟨Nat.zero_le _, (by rw [List.length_set]; exact l2)⟩, ?_, ?_⟩
        · rw [List.length_set]
          exact own_mono (own_setCell HT.out (by first | (simp; done) | (simp; omega) | omega) _) (by first | (simp; done) | (simp; omega) | omega)
        · exact (Src.set' (Src.set' HS5.out (by first | (simp; done) | (simp; omega) | omega) (by first | (simp; done) | (simp; omega) | omega) _) (by first | (simp; done) | (simp; omega) | omega) (by first | (simp; done) | (simp; omega) | omega) _).mono (by omega)
        · exact grown_set' (grown_set' G6.out (by first | (simp; done) | (simp; omega) | omega) _) (by first | (simp; done) | (simp; omega) | omega) _

  · have hq0 : (y == 0) = false := by simpa using h0
    by_cases h1 : y = 1
    · subst h1
      have r0 := B4.out.cell 0 rfl
      have rf0 := B4.out.frozen 0
      have rz := B4.out.lt

      go_wp2
      try simp only [Exit.inBlock, Exit.then]
      refine bodyPost_ret (v := .agg #[.slice none 0 0]) ?_ rfl ?_
      · simp [results, Tryd.results86, go_sem, *]
      · refine HP.out _ _ ⟨_, [], rfl, World.ownsRow_nil _ _ _ _, ⟨Nat.zero_le _, by simp⟩, ?_, ?_⟩
        · exact (Src.set' (Src.set' S4.out (by first | (simp; done) | (simp; omega) | omega) (by first | (simp; done) | (simp; omega) | omega) _) (by first | (simp; done) | (simp; omega) | omega) (by first | (simp; done) | (simp; omega) | omega) _).mono (by omega)
        · exact grown_set' (grown_set' G4.out (by first | (simp; done) | (simp; omega) | omega) _) (by first | (simp; done) | (simp; omega) | omega) _

    · have hq1 : (y == 1) = false := by simpa using h1
      by_cases h2 : y = 2
      · subst h2
        have HL0 : Hid (LwAt W w g vb bs (k + 54) w1.heap.size (.slice none 0 0) [] (w4.setCell ⟨w1.heap.size, 0, none⟩ (.slice none 0 0))) :=
          ⟨B4.out.far (by first | (simp; done) | (simp; omega) | omega) _, C4.out.set_ 0 _, World.ownsRow_nil _ _ _ _, (S4.out.set' (by first | (simp; done) | (simp; omega) | omega) (by first | (simp; done) | (simp; omega) | omega) _).mono (by omega), grown_set' G4.out (by first | (simp; done) | (simp; omega) | omega) _⟩
        clear B4 C4 O4 S4 G4
        go_wp2_with fail
        refine (pick_any W _ g vb bs _ HL0.out.2.2.2.1 (by omega) _ (by omega)).mono ?_
        rintro e w5 ⟨u, ⟨u0, u1⟩, rfl, hs, hg5⟩
        have HL1 := Lib.hid (HL0.out.draw hg z1 hg5 hs)
        obtain ⟨U, rfl⟩ := Int.eq_ofNat_of_zero_le u0
        have hU : U ≤ 1 := by omega
        clear hs hg5 HL0 u0 u1 q0 f0 z0
        go_wp2_with fail
        go_loopw [5] (fun i wr => ∃ (j : Nat) (vv : Value) (gs : List Int), j ≤ 24 + U ∧ i = .int .i64 j ∧ gs.length + j = 24 + U ∧ LwAt W w g vb bs (k + 60) w1.heap.size vv gs wr) (fun i _ => (intOf i).toNat)
        case atStart => exact ⟨24 + U, _, [], by omega, by go_num, by simp, HL1.out.mono (by omega)⟩
        case round =>
          clear HL1
          obtain ⟨j, vv, gs, hj, rfl, hl, hL⟩ := hrel
          have HL := Lib.hid hL
          have hgl : gs.length ≤ 134217728 := by omega
          obtain ⟨A, C, rfl⟩ := own_form hL.2.2.1
          have q0 := hL.2.1.cell 0 rfl
          have f0 := hL.2.1.frozen 0
          have z0 := hL.2.1.lt
          clear hL
          by_cases hlt : 0 < j
          · have i1 : (0 : Int) < (j : Int) := by omega
            have hj7 : 0 ≤ (j : Int) % 7 ∧ (j : Int) % 7 < 7 := ⟨by omega, by omega⟩
            obtain ⟨hj70, hj71⟩ := hj7
            have hz : w1.heap.size + 1 ≤ wr.heap.size := by omega
            go_wp2_with (at_builtin; refine wpList_app1g rfl _ _ rfl (w1.heap.size + 1) _ gs rfl HL.out.2.2.1 _ wr.heap.size rfl rfl hgl hz ?_; intro v' w6 hown' hb' hg'; obtain ⟨gs', A4, C4', g1, rfl, e0, e1⟩ := HL.out.app hg z1 hown' hb' hg'; have f1 := e0.frozen 0; have q2 := e0.cell 0 rfl; have z4 := e0.lt; have E1 := Lib.hid e1; have HGL := Lib.hid g1; clear hown' hb' hg' e0 e1 g1)
            go_roundw
            case rel => exact ⟨j - 1, _, gs', by omega, (by congr 1; omega), (by have := HGL.out; omega), E1.out⟩
            case measure => simp [intOf]; omega
          · obtain rfl : j = 0 := by omega
            have r0 := HL.out.1.cell 0 rfl
            have rf0 := HL.out.1.frozen 0
            have rz := HL.out.1.lt

            go_wp2
            try simp only [Exit.inBlock, Exit.then]
            refine bodyPost_ret (v := .agg #[.slice A gs.length C]) ?_ rfl ?_
            · simp [results, Tryd.results86, go_sem, r0]
            · refine HP.out _ _ ⟨_, gs, rfl, ?_, ⟨Nat.zero_le _, by omega⟩, ?_, ?_⟩
              · exact own_mono (own_setCell (HL.out.2.2.1) (by first | (simp; done) | (simp; omega) | omega) _) (by first | (simp; done) | (simp; omega) | omega)
              · exact (Src.set' (HL.out.2.2.2.1) (by first | (simp; done) | (simp; omega) | omega) (by first | (simp; done) | (simp; omega) | omega) _).mono (by omega)
              · exact grown_set' (HL.out.2.2.2.2) (by first | (simp; done) | (simp; omega) | omega) _

      · have hq2 : (y == 2) = false := by simpa using h2
        have r0 := B4.out.cell 0 rfl
        have rf0 := B4.out.frozen 0
        have rz := B4.out.lt

        go_wp2
        try simp only [Exit.inBlock, Exit.then]
        refine bodyPost_ret (v := .agg #[.slice (some ⟨bv, 0, none⟩) gs.length cv]) ?_ rfl ?_
        · simp [results, Tryd.results86, go_sem, r0]
        · refine HP.out _ _ ⟨_, gs, rfl, ?_, ⟨Nat.zero_le _, l2⟩, ?_, ?_⟩
          · exact own_mono (own_setCell (O4.out) (by first | (simp; done) | (simp; omega) | omega) _) (by first | (simp; done) | (simp; omega) | omega)
          · exact (Src.set' (S4.out) (by first | (simp; done) | (simp; omega) | omega) (by first | (simp; done) | (simp; omega) | omega) _).mono (by omega)
          · exact grown_set' (G4.out) (by first | (simp; done) | (simp; omega) | omega) _

end Go.Proofs.YtfddibdncniekaaDoor
